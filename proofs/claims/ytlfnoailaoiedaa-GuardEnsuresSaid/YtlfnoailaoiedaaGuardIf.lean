/- Comparison of what Try hands back: with nil, with a Fail. -/
import Derived.Test.YtlfnoailaoiedaaGuardAll
import Derived.Laws.StructEq
namespace Go.Proofs.Ytlfnoailaoiedaa
open Go.RowKit
theorem fail_stood : Try.prog.stoodInHeld 97 = false := by kernel_rfl
theorem fail_comparable : (Try.prog.info? 97).map (fun i => i.comparable) = some true := by kernel_rfl
theorem fail_und : Try.prog.underlying 97 = some (.struct (Try.prog.fieldsOf 97)) := by kernel_rfl
theorem fail_fields : (Try.prog.fieldsOf 97).toList.map (fun f => (f.name, f.type, f.offset)) = [("Err", 69, 0)] := by kernel_rfl
set_option maxRecDepth 100000 in
theorem fail_part (c : Int) (W : World) : (part 69 #[.int .i64 c] 0).run Try.prog W = .ok (.int .i64 c) W := by rfl
theorem fail_eq (d : Nat) (c : Int) (W : World) : (Op.equalIn (d + 2) 97 (.agg #[.int .i64 c]) (.agg #[.int .i64 c])).run Try.prog W = .ok true W := by
  rw [run_equalIn_struct W (d + 1) 97 _ _ fail_und fail_stood]
  have hi := fun w => run_equalIn_int (P := Try.prog) w d 69 .i64 .i64 c c Try.underlying69
  have hf := fail_fields
  generalize (Try.prog.fieldsOf 97).toList = l at hf ⊢
  cases l with
  | nil => simp at hf
  | cons f r =>
    cases r with
    | cons g r => simp at hf
    | nil =>
      simp only [List.map_cons, List.map_nil, List.cons.injEq, and_true, Prod.mk.injEq] at hf
      obtain ⟨h1, h2, h3⟩ := hf
      simp [Op.eqFields, h1, h2, h3, fail_part, hi]
theorem fail_iface (d : Nat) (c : Int) (W : World) : (Op.equalIn (d + 3) 20 (.iface 97 (.agg #[.int .i64 c])) (.iface 97 (.agg #[.int .i64 c]))).run Try.prog W = .ok true W := by
  obtain ⟨i, hi, hic⟩ := Option.map_eq_some_iff.1 fail_comparable
  have h := fail_eq d c
  rw [Op.equalIn]
  simp only [Sem.run_bind, run_underlying Try.underlying20, Result.andThen_ok]
  simp [typeInfo, hi, hic, h]
theorem if_fail (c : Int) (W : World) : (binOp .neq 20 (.iface 97 (.agg #[.int .i64 c])) (.iface 97 (.agg #[.int .i64 c]))).run Try.prog W = .ok (.bool false) W := by 
  simp only [binOp]
  simp [Op.equal, Op.maxDepth, fail_iface 9997]
set_option maxRecDepth 100000 in
theorem if_nil_nil (W : World) : (binOp .neq 20 Value.nilIface Value.nilIface).run Try.prog W = .ok (.bool false) W := by rfl
set_option maxRecDepth 100000 in
theorem if_nil (u : TypeId) (pv : Value) (W : World) : (binOp .eql 20 (.iface u pv) Value.nilIface).run Try.prog W = .ok (.bool false) W := by rfl
end Go.Proofs.Ytlfnoailaoiedaa
