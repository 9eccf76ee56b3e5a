/- CellOne: behind Wait, to the return. -/
import Derived.Test.YtdemidfpoojkdaaCoR
import Derived.Conc.CompanyDraw
namespace Go.Proofs.Ytdemidfpoojkdaa.Co
open Go.Conc Go.ConcN Go.RowKit Go.Conc.Lib Go.ConcR.Gen Go.ConcN.Gen
open Go.ConcR (KK WgAt stA smA rd wr mk DC0 ofEvent_cell)
set_option linter.unusedVariables false
set_option linter.unusedSimpArgs false
/-- All orders in which a region's operations may come up. -/
def ordersOf (md : Region.Mode) (ops : Array Oper) : Nat → Array Bool → List (List Nat)
  | 0, _ => [[]]
  | f + 1, l => match Region.ready md ops l with
    | [] => [[]]
    | r :: rs => (r :: rs).flatMap fun i => (ordersOf md ops f (l.setIfInBounds i true)).map (i :: ·)
theorem mem_orders (md : Region.Mode) (ops : Array Oper) : ∀ (f t : Nat) (l : Array Bool), Region.linearise.go md ops f t l [] ∈ ordersOf md ops f l := by
  intro f
  induction f with
  | zero => intro t l; simp [Region.linearise.go, ordersOf]
  | succ f ih =>
    intro t l
    simp only [Region.linearise.go]
    change (match (Region.ready md ops l)[t % (Region.ready md ops l).length]? with
      | some i => Region.linearise.go md ops f (t / (Region.ready md ops l).length) (l.setIfInBounds i true) [i]
      | none => [].reverse) ∈ _
    cases hi : (Region.ready md ops l)[t % (Region.ready md ops l).length]? with
    | none =>
      have hnil : Region.ready md ops l = [] := by
        cases hr : Region.ready md ops l with
        | nil => rfl
        | cons y ys =>
          rw [hr] at hi
          have hlt : t % (y :: ys).length < (y :: ys).length := Nat.mod_lt _ (by simp)
          simp at hi
          simp at hlt
          omega
      simp [ordersOf, hnil]
    | some i =>
      simp only []
      rw [linearise_go_acc, List.reverse_singleton, List.singleton_append]
      have hmem := List.mem_of_getElem? hi
      cases hr : Region.ready md ops l with
      | nil => rw [hr] at hmem; simp at hmem
      | cons y ys =>
        simp only [ordersOf, hr]
        rw [← hr]
        exact List.mem_flatMap.2 ⟨i, hmem, List.mem_map.2 ⟨_, ih _ _, rfl⟩⟩
def Code.yes : Code → Code | .cond _ a _ => a | c => c
noncomputable def ops13 : Array Oper := Code.ops (Code.fst (Code.yes (Code.snd (Code.fst (Code.snd (Code.snd R3))))))
theorem mixed : Try.prog.follows .mixedOrders = true := by kernel_rfl
theorem orders13 : ordersOf .any ops13 ops13.size (Array.replicate ops13.size false) = [[0, 1, 2, 3, 4, 5, 6, 7, 8], [0, 1, 2, 3, 5, 4, 6, 7, 8], [0, 1, 2, 5, 3, 4, 6, 7, 8]] := by kernel_rfl
theorem sched13 (t : Nat) : Region.schedule (Try.prog.follows .mixedOrders) ops13 t = [0, 1, 2, 3, 4, 5, 6, 7, 8] ∨ Region.schedule (Try.prog.follows .mixedOrders) ops13 t = [0, 1, 2, 3, 5, 4, 6, 7, 8] ∨ Region.schedule (Try.prog.follows .mixedOrders) ops13 t = [0, 1, 2, 5, 3, 4, 6, 7, 8] := by
  have h : Region.linearise .any ops13 t ∈ ordersOf .any ops13 ops13.size (Array.replicate ops13.size false) := mem_orders .any ops13 ops13.size t _
  rw [orders13] at h
  simp only [Region.schedule, mixed, Bool.true_or, if_true]
  simpa using h
section
variable {N : Nat} {W : World} {x st : Int} {n : Nat}
set_option maxRecDepth 100000 in
set_option maxHeartbeats 8000000 in
theorem tail_false (h0 : 0 ≤ x) (h1 : x < 18446744073709551616) (s0 : 0 ≤ st) (s1 : st < 256) (hmay : wMay (x % 4) (st % 4) = false) (T : Array Value) (hT : Held N T) (w : World) (h1' : St N W x st n 0 w) (h2' : (env N x st n).live w) (h3' : (env N x st n).found w) :
    Goes Try.prog true atR ((env N x st n).DS n) ((env N x st n).Se (PostE N W)) 900 (G ((base 3).at ((⟨T, []⟩ : Act).put ((ops10[0]?).bind (·.dst)) (.tuple #[])) (.inRegion ops10 [] :: [.code tail10])) []) w := by
  have hF := And.intro (And.intro h1' h2') h3'
  clear h1' h2' h3'
  obtain ⟨hT, t3, t4, t7, t8⟩ := hT
  obtain ⟨v0, v1, v2, v3, v4, v5, v6, v7, v8, v9, v10, v11, v12, v13, v14, v15, v16, v17, v18, v19, v20, v21, v22, v23, v24, v25, v26, v27, v28, v29, v30, v31, v32, v33, v34, v35, v36, v37, v38, v39, v40, v41, v42, v43, v44, v45, v46, v47, v48, v49, v50, v51, rfl⟩ := arr52 T hT
  simp only [List.getElem?_toArray, List.getElem?_cons_succ, List.getElem?_cons_zero, Option.some.injEq] at t3 t4 t7 t8
  subst t3 t4 t7 t8
  clear hT
  have hF2 := fun {s} => @st_rely N W x st n s n
  have e1 : st.tmod 4 = st % 4 := Int.tmod_eq_emod_of_nonneg s0
  have e2 : IntKind.i64.wrap (st % 4) = st % 4 := by rw [IntKind.wrap_i64]; omega
  have hev := ev_nil
  have hei := ev_if
  have hnx : (env N x st n).next = if wMay (x % 4) (st % 4) then wTo x (st % 4) else x + 1 := rfl
  rw [hmay] at hnx
  simp only [if_true, if_false, Bool.false_eq_true, ↓reduceIte] at hnx
  simp only [ops10, tail10, R3, S3, Code.snd, Code.fst, Code.ops, body3, Try.f3, Option.getD_some]
  walk_nrm
  iterate 7 (refine Goes.step rfl (fun _ h₁ => ?_); replace hF := (at_rely hF2) hF h₁; clear h₁; first
    | (rw [stepG_seq]; simp only [goes_go]; refine ⟨ds0, ?_⟩)
    | (rw [stepG_region_end]; simp only [goes_go]; refine ⟨ds0, ?_⟩)
    | (rw [stepG_skip]; simp only [goes_go]; refine ⟨ds0, ?_⟩)
    | (rw [stepG_ret']; simp only [goes_go]; refine ⟨ds0, ?_⟩)
    | (rw [stepG_block]; simp only [goes_go]; refine ⟨ds0, ?_⟩)
    | (rw [stepG_loop]; simp only [goes_go]; refine ⟨ds0, ?_⟩)
    | (rw [stepG_inBlock]; simp only [goes_go]; refine ⟨ds0, ?_⟩)
    | (rw [stepG_inLoop]; simp only [goes_go]; refine ⟨ds0, ?_⟩)
    | (rw [stepG_end]; simp only [goes_go]; refine ⟨ds0, ?_⟩)
    | (rw [stepG_region]; simp only [goes_go, List.size_toArray, List.length_cons, List.length_nil, Nat.reduceAdd, Nat.zero_add, List.range, List.range.loop]; refine ⟨ds0, ?_⟩)
    | (rw [stepG_cond (t := true) rfl]; simp only [goes_go, if_true, if_false, Bool.false_eq_true, ↓reduceIte]; refine ⟨ds0, ?_⟩)
    | (rw [stepG_cond (t := false) rfl]; simp only [goes_go, if_true, if_false, Bool.false_eq_true, ↓reduceIte]; refine ⟨ds0, ?_⟩)
    | (rw [stepG_unwanted rfl rfl]; simp only [goes_go]; refine ⟨ds0, ?_⟩; walk_nrm)
    | (refine goes_oper_k rfl rfl (by decide) (fun K hK => ?_); have k1 := hF.1.1.own.fb; have k2 := hF.1.1.own.sb; have k3 := hF.1.1.own.cb; go_simp; refine hK _ _ ⟨⟨fun _ _ => rfl, fun e he => ?_⟩, ?_⟩; (focus (have hm := mem_listed he; simp [go_sem, *] at hm; all_goals (subst hm; exact ok0_rd _ (by omega)))); clear hK K k1 k2 k3)
    | (refine goes_oper_k rfl rfl (by decide) (fun K hK => ?_); go_simp; refine hK _ _ ⟨?_, ?_⟩; (focus (rw [listed_nil (by simp [go_sem, *])]; exact ds0)); clear hK K)
    | (refine goes_exit rfl ?_; refine ⟨ds0, ?_⟩))
  refine Goes.step rfl (fun _ h₁ => ?_); replace hF := (at_rely hF2) hF h₁; clear h₁
  refine goes_call rfl rfl (by decide) rfl Try.func11 (by rfl) rfl ⟨ds0, ?_⟩
  walk_nrmf Try.f11
  refine Goes.mono (to_g (I := fun w => (St N W x st n 0 w ∧ (env N x st n).live w) ∧ (env N x st n).found w) (mT := 600) (fun _ _ r h => at_rely hF2 h r) (fun _ => ds0) x (st % 4) h0 h1 (by omega) (by omega) (fun w hF => ?_) _ hF) (by omega)
  rw [hmay]
  walk_nrm
  iterate 14 (refine Goes.step rfl (fun _ h₁ => ?_); replace hF := (at_rely hF2) hF h₁; clear h₁; first
    | (rw [stepG_seq]; simp only [goes_go]; refine ⟨ds0, ?_⟩)
    | (rw [stepG_region_end]; simp only [goes_go]; refine ⟨ds0, ?_⟩)
    | (rw [stepG_skip]; simp only [goes_go]; refine ⟨ds0, ?_⟩)
    | (rw [stepG_ret']; simp only [goes_go]; refine ⟨ds0, ?_⟩)
    | (rw [stepG_block]; simp only [goes_go]; refine ⟨ds0, ?_⟩)
    | (rw [stepG_loop]; simp only [goes_go]; refine ⟨ds0, ?_⟩)
    | (rw [stepG_inBlock]; simp only [goes_go]; refine ⟨ds0, ?_⟩)
    | (rw [stepG_inLoop]; simp only [goes_go]; refine ⟨ds0, ?_⟩)
    | (rw [stepG_end]; simp only [goes_go]; refine ⟨ds0, ?_⟩)
    | (rw [stepG_region]; simp only [goes_go, List.size_toArray, List.length_cons, List.length_nil, Nat.reduceAdd, Nat.zero_add, List.range, List.range.loop]; refine ⟨ds0, ?_⟩)
    | (rw [stepG_cond (t := true) rfl]; simp only [goes_go, if_true, if_false, Bool.false_eq_true, ↓reduceIte]; refine ⟨ds0, ?_⟩)
    | (rw [stepG_cond (t := false) rfl]; simp only [goes_go, if_true, if_false, Bool.false_eq_true, ↓reduceIte]; refine ⟨ds0, ?_⟩)
    | (rw [stepG_unwanted rfl rfl]; simp only [goes_go]; refine ⟨ds0, ?_⟩; walk_nrm)
    | (refine goes_oper_k rfl rfl (by decide) (fun K hK => ?_); go_simp; refine hK _ _ ⟨?_, ?_⟩; (focus (rw [listed_nil (by simp [go_sem, *])]; exact ds0)); clear hK K)
    | (refine goes_exit rfl ?_; refine ⟨ds0, ?_⟩))
  refine Goes.step rfl (fun wd h₁ => ?_); replace hF := at_rely hF2 hF h₁; clear h₁
  rw [stepG_region_draw]
  simp only [goes_go]
  refine ⟨⟨fun _ _ => rfl, fun e he => by simp at he⟩, ?_⟩
  replace hF := at_rely hF2 hF ⟨wd.drawn + 1, rfl⟩
  generalize hg : Region.schedule _ _ _ = ord
  have ho : ord = [0, 1, 2, 3, 4, 5, 6, 7, 8] ∨ ord = [0, 1, 2, 3, 5, 4, 6, 7, 8] ∨ ord = [0, 1, 2, 5, 3, 4, 6, 7, 8] := by rw [← hg]; exact sched13 _
  clear hg
  rcases ho with rfl | rfl | rfl
  all_goals
    repeat (refine Goes.step rfl (fun _ h₁ => ?_); replace hF := (at_rely hF2) hF h₁; clear h₁; first
      | (rw [stepG_seq]; simp only [goes_go]; refine ⟨ds0, ?_⟩)
      | (rw [stepG_region_end]; simp only [goes_go]; refine ⟨ds0, ?_⟩)
      | (rw [stepG_skip]; simp only [goes_go]; refine ⟨ds0, ?_⟩)
      | (rw [stepG_ret']; simp only [goes_go]; refine ⟨ds0, ?_⟩)
      | (rw [stepG_block]; simp only [goes_go]; refine ⟨ds0, ?_⟩)
      | (rw [stepG_loop]; simp only [goes_go]; refine ⟨ds0, ?_⟩)
      | (rw [stepG_inBlock]; simp only [goes_go]; refine ⟨ds0, ?_⟩)
      | (rw [stepG_inLoop]; simp only [goes_go]; refine ⟨ds0, ?_⟩)
      | (rw [stepG_end]; simp only [goes_go]; refine ⟨ds0, ?_⟩)
      | (rw [stepG_region]; simp only [goes_go, List.size_toArray, List.length_cons, List.length_nil, Nat.reduceAdd, Nat.zero_add, List.range, List.range.loop]; refine ⟨ds0, ?_⟩)
      | (rw [stepG_cond (t := true) rfl]; simp only [goes_go, if_true, if_false, Bool.false_eq_true, ↓reduceIte]; refine ⟨ds0, ?_⟩)
      | (rw [stepG_cond (t := false) rfl]; simp only [goes_go, if_true, if_false, Bool.false_eq_true, ↓reduceIte]; refine ⟨ds0, ?_⟩)
      | (rw [stepG_unwanted rfl rfl]; simp only [goes_go]; refine ⟨ds0, ?_⟩; walk_nrm)
      | (rw [stepG_load_atomic (ad := (env N x st n).dnA) (v := 0) rfl rfl (by decide) rfl Try.func35 (by rfl) (by rfl) (by kernel_rfl) .i64 x_ld64 rfl (dn_cell (hF.2.2 hmay).2)]; simp only [goes_go]; refine ⟨⟨fun _ _ => rfl, fun e he => ?_⟩, ?_⟩; (focus (rw [Array.mem_singleton] at he; subst he; exact ok0_atom' (.inr (.inr rfl)))); walk_nrm)
      | (rw [stepG_load_atomic (ad := (env N x st n).ceA) (v := x) rfl rfl (by decide) rfl Try.wgLib.f_loadU64 (x_loadU64_n Try.link) (x_loadU64_b Try.link) (x_loadU64_x Try.link) .u64 (x_loadU64_f Try.link) rfl (ce_cell (hF.2.2 hmay).1)]; simp only [goes_go]; refine ⟨⟨fun _ _ => rfl, fun e he => ?_⟩, ?_⟩; (focus (rw [Array.mem_singleton] at he; subst he; exact ok0_atom' (.inr (.inl rfl)))); walk_nrm)
      | (refine goes_oper_k rfl rfl (by decide) (fun K hK => ?_); have k1 := hF.1.1.own.fb; have k2 := hF.1.1.own.sb; have k3 := hF.1.1.own.cb; go_simp; refine hK _ _ ⟨⟨fun _ _ => rfl, fun e he => ?_⟩, ?_⟩; (focus (have hm := mem_listed he; simp [go_sem, *] at hm; all_goals (subst hm; exact ok0_rd _ (by omega)))); clear hK K k1 k2 k3)
      | (refine goes_oper_k rfl rfl (by decide) (fun K hK => ?_); go_simp; refine hK _ _ ⟨?_, ?_⟩; (focus (rw [listed_nil (by simp [go_sem, *])]; exact ds0)); clear hK K)
      | (refine goes_leave1 rfl rfl Try.func12 rfl ⟨ds0, ?_⟩; walk_nrm)
      | (refine goes_leave1 rfl rfl Try.func13 rfl ⟨ds0, ?_⟩; walk_nrm)
      | (refine goes_leave1 rfl rfl Try.func23 rfl ⟨ds0, ?_⟩; walk_nrm)
      | (refine goes_call rfl rfl (by decide) rfl Try.func12 (by rfl) rfl ⟨ds0, ?_⟩; walk_nrmf Try.f12)
      | (refine goes_call rfl rfl (by decide) rfl Try.func13 (by rfl) rfl ⟨ds0, ?_⟩; walk_nrmf Try.f13)
      | (refine goes_call rfl rfl (by decide) rfl Try.func23 (by rfl) rfl ⟨ds0, ?_⟩; walk_nrmf Try.f23)
      | (refine goes_exit rfl ?_; refine ⟨ds0, ?_⟩))
    refine Goes.stop (fun w₂ r₂ => ?_)
    replace hF := at_rely hF2 hF r₂
    refine ⟨rfl, .bool true, #[], ?_, by simp, rfl, hF.1.1.below⟩
    simp [G, stepG, unwind, doReturn, results, Frame.at, base, env_P, Try.func3, Try.f3, seen, GStep.after]
set_option maxRecDepth 100000 in
set_option maxHeartbeats 8000000 in
theorem tail_true (h0 : 0 ≤ x) (h1 : x < 18446744073709551616) (s0 : 0 ≤ st) (s1 : st < 256) (hmay : wMay (x % 4) (st % 4) = true) (T : Array Value) (hT : Held N T) (w : World) (h1' : St N W x st n 0 w) (h2' : (env N x st n).live w) (h3' : (env N x st n).found w) :
    Goes Try.prog true atR ((env N x st n).DS n) ((env N x st n).Se (PostE N W)) 900 (G ((base 3).at ((⟨T, []⟩ : Act).put ((ops10[0]?).bind (·.dst)) (.tuple #[])) (.inRegion ops10 [] :: [.code tail10])) []) w := by
  have hF := And.intro (And.intro h1' h2') h3'
  clear h1' h2' h3'
  obtain ⟨hT, t3, t4, t7, t8⟩ := hT
  obtain ⟨v0, v1, v2, v3, v4, v5, v6, v7, v8, v9, v10, v11, v12, v13, v14, v15, v16, v17, v18, v19, v20, v21, v22, v23, v24, v25, v26, v27, v28, v29, v30, v31, v32, v33, v34, v35, v36, v37, v38, v39, v40, v41, v42, v43, v44, v45, v46, v47, v48, v49, v50, v51, rfl⟩ := arr52 T hT
  simp only [List.getElem?_toArray, List.getElem?_cons_succ, List.getElem?_cons_zero, Option.some.injEq] at t3 t4 t7 t8
  subst t3 t4 t7 t8
  clear hT
  have hF2 := fun {s} => @st_rely N W x st n s n
  have e1 : st.tmod 4 = st % 4 := Int.tmod_eq_emod_of_nonneg s0
  have e2 : IntKind.i64.wrap (st % 4) = st % 4 := by rw [IntKind.wrap_i64]; omega
  have hev := ev_nil
  have hei := ev_if
  have hnx : (env N x st n).next = if wMay (x % 4) (st % 4) then wTo x (st % 4) else x + 1 := rfl
  rw [hmay] at hnx
  simp only [if_true, if_false, Bool.false_eq_true, ↓reduceIte] at hnx
  simp only [ops10, tail10, R3, S3, Code.snd, Code.fst, Code.ops, body3, Try.f3, Option.getD_some]
  walk_nrm
  iterate 7 (refine Goes.step rfl (fun _ h₁ => ?_); replace hF := (at_rely hF2) hF h₁; clear h₁; first
    | (rw [stepG_seq]; simp only [goes_go]; refine ⟨ds0, ?_⟩)
    | (rw [stepG_region_end]; simp only [goes_go]; refine ⟨ds0, ?_⟩)
    | (rw [stepG_skip]; simp only [goes_go]; refine ⟨ds0, ?_⟩)
    | (rw [stepG_ret']; simp only [goes_go]; refine ⟨ds0, ?_⟩)
    | (rw [stepG_block]; simp only [goes_go]; refine ⟨ds0, ?_⟩)
    | (rw [stepG_loop]; simp only [goes_go]; refine ⟨ds0, ?_⟩)
    | (rw [stepG_inBlock]; simp only [goes_go]; refine ⟨ds0, ?_⟩)
    | (rw [stepG_inLoop]; simp only [goes_go]; refine ⟨ds0, ?_⟩)
    | (rw [stepG_end]; simp only [goes_go]; refine ⟨ds0, ?_⟩)
    | (rw [stepG_region]; simp only [goes_go, List.size_toArray, List.length_cons, List.length_nil, Nat.reduceAdd, Nat.zero_add, List.range, List.range.loop]; refine ⟨ds0, ?_⟩)
    | (rw [stepG_cond (t := true) rfl]; simp only [goes_go, if_true, if_false, Bool.false_eq_true, ↓reduceIte]; refine ⟨ds0, ?_⟩)
    | (rw [stepG_cond (t := false) rfl]; simp only [goes_go, if_true, if_false, Bool.false_eq_true, ↓reduceIte]; refine ⟨ds0, ?_⟩)
    | (rw [stepG_unwanted rfl rfl]; simp only [goes_go]; refine ⟨ds0, ?_⟩; walk_nrm)
    | (refine goes_oper_k rfl rfl (by decide) (fun K hK => ?_); have k1 := hF.1.1.own.fb; have k2 := hF.1.1.own.sb; have k3 := hF.1.1.own.cb; go_simp; refine hK _ _ ⟨⟨fun _ _ => rfl, fun e he => ?_⟩, ?_⟩; (focus (have hm := mem_listed he; simp [go_sem, *] at hm; all_goals (subst hm; exact ok0_rd _ (by omega)))); clear hK K k1 k2 k3)
    | (refine goes_oper_k rfl rfl (by decide) (fun K hK => ?_); go_simp; refine hK _ _ ⟨?_, ?_⟩; (focus (rw [listed_nil (by simp [go_sem, *])]; exact ds0)); clear hK K)
    | (refine goes_exit rfl ?_; refine ⟨ds0, ?_⟩))
  refine Goes.step rfl (fun _ h₁ => ?_); replace hF := (at_rely hF2) hF h₁; clear h₁
  refine goes_call rfl rfl (by decide) rfl Try.func11 (by rfl) rfl ⟨ds0, ?_⟩
  walk_nrmf Try.f11
  refine Goes.mono (to_g (I := fun w => (St N W x st n 0 w ∧ (env N x st n).live w) ∧ (env N x st n).found w) (mT := 600) (fun _ _ r h => at_rely hF2 h r) (fun _ => ds0) x (st % 4) h0 h1 (by omega) (by omega) (fun w hF => ?_) _ hF) (by omega)
  rw [hmay]
  walk_nrm
  iterate 14 (refine Goes.step rfl (fun _ h₁ => ?_); replace hF := (at_rely hF2) hF h₁; clear h₁; first
    | (rw [stepG_seq]; simp only [goes_go]; refine ⟨ds0, ?_⟩)
    | (rw [stepG_region_end]; simp only [goes_go]; refine ⟨ds0, ?_⟩)
    | (rw [stepG_skip]; simp only [goes_go]; refine ⟨ds0, ?_⟩)
    | (rw [stepG_ret']; simp only [goes_go]; refine ⟨ds0, ?_⟩)
    | (rw [stepG_block]; simp only [goes_go]; refine ⟨ds0, ?_⟩)
    | (rw [stepG_loop]; simp only [goes_go]; refine ⟨ds0, ?_⟩)
    | (rw [stepG_inBlock]; simp only [goes_go]; refine ⟨ds0, ?_⟩)
    | (rw [stepG_inLoop]; simp only [goes_go]; refine ⟨ds0, ?_⟩)
    | (rw [stepG_end]; simp only [goes_go]; refine ⟨ds0, ?_⟩)
    | (rw [stepG_region]; simp only [goes_go, List.size_toArray, List.length_cons, List.length_nil, Nat.reduceAdd, Nat.zero_add, List.range, List.range.loop]; refine ⟨ds0, ?_⟩)
    | (rw [stepG_cond (t := true) rfl]; simp only [goes_go, if_true, if_false, Bool.false_eq_true, ↓reduceIte]; refine ⟨ds0, ?_⟩)
    | (rw [stepG_cond (t := false) rfl]; simp only [goes_go, if_true, if_false, Bool.false_eq_true, ↓reduceIte]; refine ⟨ds0, ?_⟩)
    | (rw [stepG_unwanted rfl rfl]; simp only [goes_go]; refine ⟨ds0, ?_⟩; walk_nrm)
    | (refine goes_oper_k rfl rfl (by decide) (fun K hK => ?_); go_simp; refine hK _ _ ⟨?_, ?_⟩; (focus (rw [listed_nil (by simp [go_sem, *])]; exact ds0)); clear hK K)
    | (refine goes_exit rfl ?_; refine ⟨ds0, ?_⟩))
  repeat (refine Goes.step rfl (fun _ h₁ => ?_); replace hF := (at_rely hF2) hF h₁; clear h₁; first
    | (rw [stepG_seq]; simp only [goes_go]; refine ⟨ds0, ?_⟩)
    | (rw [stepG_region_end]; simp only [goes_go]; refine ⟨ds0, ?_⟩)
    | (rw [stepG_skip]; simp only [goes_go]; refine ⟨ds0, ?_⟩)
    | (rw [stepG_ret']; simp only [goes_go]; refine ⟨ds0, ?_⟩)
    | (rw [stepG_block]; simp only [goes_go]; refine ⟨ds0, ?_⟩)
    | (rw [stepG_loop]; simp only [goes_go]; refine ⟨ds0, ?_⟩)
    | (rw [stepG_inBlock]; simp only [goes_go]; refine ⟨ds0, ?_⟩)
    | (rw [stepG_inLoop]; simp only [goes_go]; refine ⟨ds0, ?_⟩)
    | (rw [stepG_end]; simp only [goes_go]; refine ⟨ds0, ?_⟩)
    | (rw [stepG_region]; simp only [goes_go, List.size_toArray, List.length_cons, List.length_nil, Nat.reduceAdd, Nat.zero_add, List.range, List.range.loop]; refine ⟨ds0, ?_⟩)
    | (rw [stepG_cond (t := true) rfl]; simp only [goes_go, if_true, if_false, Bool.false_eq_true, ↓reduceIte]; refine ⟨ds0, ?_⟩)
    | (rw [stepG_cond (t := false) rfl]; simp only [goes_go, if_true, if_false, Bool.false_eq_true, ↓reduceIte]; refine ⟨ds0, ?_⟩)
    | (rw [stepG_unwanted rfl rfl]; simp only [goes_go]; refine ⟨ds0, ?_⟩; walk_nrm)
    | (rw [stepG_load_atomic (ad := (env N x st n).dnA) (v := 1) rfl rfl (by decide) rfl Try.func35 (by rfl) (by rfl) (by kernel_rfl) .i64 x_ld64 rfl (dn_cell (hF.2.1 hmay).2)]; simp only [goes_go]; refine ⟨⟨fun _ _ => rfl, fun e he => ?_⟩, ?_⟩; (focus (rw [Array.mem_singleton] at he; subst he; exact ok0_atom' (.inr (.inr rfl)))); walk_nrm)
    | (rw [stepG_load_atomic (ad := (env N x st n).ceA) (v := wTo x (st % 4)) rfl rfl (by decide) rfl Try.wgLib.f_loadU64 (x_loadU64_n Try.link) (x_loadU64_b Try.link) (x_loadU64_x Try.link) .u64 (x_loadU64_f Try.link) rfl (hnx ▸ ce_cell (hF.2.1 hmay).1)]; simp only [goes_go]; refine ⟨⟨fun _ _ => rfl, fun e he => ?_⟩, ?_⟩; (focus (rw [Array.mem_singleton] at he; subst he; exact ok0_atom' (.inr (.inl rfl)))); walk_nrm)
    | (refine goes_oper_k rfl rfl (by decide) (fun K hK => ?_); have k1 := hF.1.1.own.fb; have k2 := hF.1.1.own.sb; have k3 := hF.1.1.own.cb; go_simp; refine hK _ _ ⟨⟨fun _ _ => rfl, fun e he => ?_⟩, ?_⟩; (focus (have hm := mem_listed he; simp [go_sem, *] at hm; all_goals (subst hm; exact ok0_rd _ (by omega)))); clear hK K k1 k2 k3)
    | (refine goes_oper_k rfl rfl (by decide) (fun K hK => ?_); go_simp; refine hK _ _ ⟨?_, ?_⟩; (focus (rw [listed_nil (by simp [go_sem, *])]; exact ds0)); clear hK K)
    | (refine goes_leave1 rfl rfl Try.func12 rfl ⟨ds0, ?_⟩; walk_nrm)
    | (refine goes_leave1 rfl rfl Try.func13 rfl ⟨ds0, ?_⟩; walk_nrm)
    | (refine goes_leave1 rfl rfl Try.func23 rfl ⟨ds0, ?_⟩; walk_nrm)
    | (refine goes_call rfl rfl (by decide) rfl Try.func12 (by rfl) rfl ⟨ds0, ?_⟩; walk_nrmf Try.f12)
    | (refine goes_call rfl rfl (by decide) rfl Try.func13 (by rfl) rfl ⟨ds0, ?_⟩; walk_nrmf Try.f13)
    | (refine goes_call rfl rfl (by decide) rfl Try.func23 (by rfl) rfl ⟨ds0, ?_⟩; walk_nrmf Try.f23)
    | (refine goes_exit rfl ?_; refine ⟨ds0, ?_⟩))
  refine Goes.stop (fun w₂ r₂ => ?_)
  replace hF := at_rely hF2 hF r₂
  refine ⟨rfl, .bool true, #[], ?_, by simp, rfl, hF.1.1.below⟩
  simp [G, stepG, unwind, doReturn, results, Frame.at, base, env_P, Try.func3, Try.f3, seen, GStep.after]
end
end Go.Proofs.Ytdemidfpoojkdaa.Co
