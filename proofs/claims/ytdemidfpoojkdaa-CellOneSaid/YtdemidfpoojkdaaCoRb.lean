/- CellOne: the loop that starts the workers. -/
import Derived.Test.YtdemidfpoojkdaaCoR
namespace Go.Proofs.Ytdemidfpoojkdaa.Co
open Go.Conc Go.ConcN Go.RowKit Go.Conc.Lib Go.ConcR.Gen Go.ConcN.Gen
open Go.ConcR (KK WgAt stA smA rd wr mk DC0 ofEvent_cell)
set_option linter.unusedVariables false
set_option linter.unusedSimpArgs false
section
variable {N : Nat} {W : World} {x st : Int} {n j : Nat}
set_option maxRecDepth 100000 in
set_option maxHeartbeats 8000000 in
/-- All are started: into Wait. -/
theorem started : ∀ (g : Goroutine) (w : World), AtL N j j g → St N W x st j 0 w ∧ (env N x st j).live w → GS N x st j j (StopS N W x st j 0) 60 g w := by
  rintro g w ⟨T, rfl, hT, t3, t4, t7, t8, t9, t19, t20⟩ hF
  obtain ⟨v0, v1, v2, v3, v4, v5, v6, v7, v8, v9, v10, v11, v12, v13, v14, v15, v16, v17, v18, v19, v20, v21, v22, v23, v24, v25, v26, v27, v28, v29, v30, v31, v32, v33, v34, v35, v36, v37, v38, v39, v40, v41, v42, v43, v44, v45, v46, v47, v48, v49, v50, v51, rfl⟩ := arr52 T hT
  simp only [List.getElem?_toArray, List.getElem?_cons_succ, List.getElem?_cons_zero, Option.some.injEq] at t3 t4 t7 t8 t9 t19 t20
  subst t3 t4 t7 t8 t9 t19 t20
  have hF2 := fun {s} => @st_rely N W x st j s j
  have hnl : ¬ ((j : Int) < (j : Int)) := by omega
  have hA := fun (a₀ : Act) (ops₀ : Array Oper) (i₀ : Nat) (rest₀ : List Nat) (k₀ : List Item) => waitStart (L := Try.link) (E := env N x st j) (F := St N W x st j 0) (b₀ := base 3) (a₀ := a₀) (ops₀ := ops₀) (i₀ := i₀) (rest₀ := rest₀) (k₀ := k₀) (cs := []) Try.wgLib hF2
  simp only [StopS, L3, R3, S3, Code.snd, Code.fst, Code.inner, body3, Try.f3, Option.getD_some, body_wait, waitFn] at hA ⊢
  iterate 7 (refine Goes.step rfl (fun _ h₁ => ?_); replace hF := (fe_rely hF2) hF h₁; clear h₁; first
    | (rw [stepG_seq]; simp only [goes_go]; refine ⟨ds0, ?_⟩)
    | (rw [stepG_region_end]; simp only [goes_go]; refine ⟨ds0, ?_⟩)
    | (rw [stepG_skip]; simp only [goes_go]; refine ⟨ds0, ?_⟩)
    | (rw [stepG_ret']; simp only [goes_go]; refine ⟨ds0, ?_⟩)
    | (rw [stepG_block]; simp only [goes_go]; refine ⟨ds0, ?_⟩)
    | (rw [stepG_loop]; simp only [goes_go]; refine ⟨ds0, ?_⟩)
    | (rw [stepG_inBlock]; simp only [goes_go]; refine ⟨ds0, ?_⟩)
    | (rw [stepG_inLoop]; simp only [goes_go]; refine ⟨ds0, ?_⟩)
    | (rw [stepG_end]; simp only [goes_go]; refine ⟨ds0, ?_⟩)
    | (rw [stepG_region]; simp only [goes_go, List.size_toArray, List.length_cons, List.length_nil, Nat.reduceAdd, Nat.zero_add, List.range, List.range.loop]; refine ⟨ds0, ?_⟩)
    | (rw [stepG_cond (t := true) rfl]; simp only [goes_go, if_true, if_false, Bool.false_eq_true, ↓reduceIte]; refine ⟨ds0, ?_⟩)
    | (rw [stepG_cond (t := false) rfl]; simp only [goes_go, if_true, if_false, Bool.false_eq_true, ↓reduceIte]; refine ⟨ds0, ?_⟩)
    | (rw [stepG_unwanted rfl rfl]; simp only [goes_go]; refine ⟨ds0, ?_⟩; walk_nrm)
    | (refine goes_oper_k rfl rfl (by decide) (fun K hK => ?_); go_simp; refine hK _ _ ⟨?_, ?_⟩; (focus (rw [listed_nil (by simp [go_sem, *])]; exact ds0)); clear hK K)
    | (refine goes_exit rfl ?_; refine ⟨ds0, ?_⟩))
  iterate 2 (refine Goes.step rfl (fun _ h₁ => ?_); replace hF := (fe_rely hF2) hF h₁; clear h₁; first
    | (rw [stepG_seq]; simp only [goes_go]; refine ⟨ds0, ?_⟩)
    | (rw [stepG_region_end]; simp only [goes_go]; refine ⟨ds0, ?_⟩)
    | (rw [stepG_skip]; simp only [goes_go]; refine ⟨ds0, ?_⟩)
    | (rw [stepG_ret']; simp only [goes_go]; refine ⟨ds0, ?_⟩)
    | (rw [stepG_block]; simp only [goes_go]; refine ⟨ds0, ?_⟩)
    | (rw [stepG_loop]; simp only [goes_go]; refine ⟨ds0, ?_⟩)
    | (rw [stepG_inBlock]; simp only [goes_go]; refine ⟨ds0, ?_⟩)
    | (rw [stepG_inLoop]; simp only [goes_go]; refine ⟨ds0, ?_⟩)
    | (rw [stepG_end]; simp only [goes_go]; refine ⟨ds0, ?_⟩)
    | (rw [stepG_region]; simp only [goes_go, List.size_toArray, List.length_cons, List.length_nil, Nat.reduceAdd, Nat.zero_add, List.range, List.range.loop]; refine ⟨ds0, ?_⟩)
    | (rw [stepG_cond (t := true) rfl]; simp only [goes_go, if_true, if_false, Bool.false_eq_true, ↓reduceIte]; refine ⟨ds0, ?_⟩)
    | (rw [stepG_cond (t := false) rfl]; simp only [goes_go, if_true, if_false, Bool.false_eq_true, ↓reduceIte]; refine ⟨ds0, ?_⟩)
    | (rw [stepG_unwanted rfl rfl]; simp only [goes_go]; refine ⟨ds0, ?_⟩; walk_nrm)
    | (refine goes_oper_k rfl rfl (by decide) (fun K hK => ?_); go_simp; refine hK _ _ ⟨?_, ?_⟩; (focus (rw [listed_nil (by simp [go_sem, *])]; exact ds0)); clear hK K)
    | (refine goes_exit rfl ?_; refine ⟨ds0, ?_⟩))
  refine Goes.step rfl (fun _ h₁ => ?_); replace hF := (fe_rely hF2) hF h₁; clear h₁
  refine goes_call rfl rfl (by decide) rfl Try.wgLib.f_wait (nm_wait Try.link) rfl ⟨ds0, ?_⟩
  walk_nrmf waitFn
  refine Goes.mono (goes_mono (fun _ _ y => Sd_mono (fun _ _ z => ⟨_, ?_, z⟩) y) (hA _ _ _ _ _ _ hF)) (by omega)
  exact ⟨rfl, rfl, rfl, rfl, rfl⟩
set_option maxRecDepth 100000 in
set_option maxHeartbeats 8000000 in
/-- One worker is started. -/
theorem startOne (Gg : (env N x st n).geo) (h0 : 0 ≤ x) (h1 : x < 18446744073709551616) (s0 : 0 ≤ st) (s1 : st < 256) {r f₁ : Nat} (hjr : j + (r + 1) = n) (hn : n < 2147483648)
    (ih : ∀ (g : Goroutine) (w : World), AtL N n (j + 1) g → St N W x st (j + 1) 0 w ∧ (env N x st n).live w → GS N x st n (j + 1) (StopS N W x st n r) f₁ g w) :
    ∀ (g : Goroutine) (w : World), AtL N n j g → St N W x st j 0 w ∧ (env N x st n).live w → GS N x st n j (StopS N W x st n (r + 1)) 90 g w := by
  rintro g w ⟨T, rfl, hT, t3, t4, t7, t8, t9, t19, t20⟩ hF
  obtain ⟨v0, v1, v2, v3, v4, v5, v6, v7, v8, v9, v10, v11, v12, v13, v14, v15, v16, v17, v18, v19, v20, v21, v22, v23, v24, v25, v26, v27, v28, v29, v30, v31, v32, v33, v34, v35, v36, v37, v38, v39, v40, v41, v42, v43, v44, v45, v46, v47, v48, v49, v50, v51, rfl⟩ := arr52 T hT
  simp only [List.getElem?_toArray, List.getElem?_cons_succ, List.getElem?_cons_zero, Option.some.injEq] at t3 t4 t7 t8 t9 t19 t20
  subst t3 t4 t7 t8 t9 t19 t20
  have hF2 := fun {s} => @st_rely N W x st j s n
  have hnil := Nat.lt_irrefl j
  have ej : n - (r + 1) = j := by omega
  have hjn : j < n := by omega
  have hlt : (j : Int) < (n : Int) := by omega
  have hA := fun (b₀ : Frame) (a₀ : Act) (ops₀ : Array Oper) (i₀ : Nat) (rest₀ : List Nat) (k₀ : List Item) (cs : List Frame) (mT : Nat) => addPos (L := Try.link) (E := env N x st n) (j := j) (Next := SP N W x st n r) (F := St N W x st j 2) (b₀ := b₀) (a₀ := a₀) (ops₀ := ops₀) (i₀ := i₀) (rest₀ := rest₀) (k₀ := k₀) (cs := cs) (mT := mT) Try.wgLib Gg hF2
  simp only [StopS, ej, L3, R3, S3, Code.snd, Code.fst, Code.inner, body3, Try.f3, Option.getD_some, body_add, addFn] at hA ⊢
  iterate 11 (refine Goes.step rfl (fun _ h₁ => ?_); replace hF := (fe_rely hF2) hF h₁; clear h₁; first
    | (rw [stepG_seq]; simp only [goes_go]; refine ⟨ds0, ?_⟩)
    | (rw [stepG_region_end]; simp only [goes_go]; refine ⟨ds0, ?_⟩)
    | (rw [stepG_skip]; simp only [goes_go]; refine ⟨ds0, ?_⟩)
    | (rw [stepG_ret']; simp only [goes_go]; refine ⟨ds0, ?_⟩)
    | (rw [stepG_block]; simp only [goes_go]; refine ⟨ds0, ?_⟩)
    | (rw [stepG_loop]; simp only [goes_go]; refine ⟨ds0, ?_⟩)
    | (rw [stepG_inBlock]; simp only [goes_go]; refine ⟨ds0, ?_⟩)
    | (rw [stepG_inLoop]; simp only [goes_go]; refine ⟨ds0, ?_⟩)
    | (rw [stepG_end]; simp only [goes_go]; refine ⟨ds0, ?_⟩)
    | (rw [stepG_region]; simp only [goes_go, List.size_toArray, List.length_cons, List.length_nil, Nat.reduceAdd, Nat.zero_add, List.range, List.range.loop]; refine ⟨ds0, ?_⟩)
    | (rw [stepG_cond (t := true) rfl]; simp only [goes_go, if_true, if_false, Bool.false_eq_true, ↓reduceIte]; refine ⟨ds0, ?_⟩)
    | (rw [stepG_cond (t := false) rfl]; simp only [goes_go, if_true, if_false, Bool.false_eq_true, ↓reduceIte]; refine ⟨ds0, ?_⟩)
    | (rw [stepG_unwanted rfl rfl]; simp only [goes_go]; refine ⟨ds0, ?_⟩; walk_nrm)
    | (refine goes_oper_k rfl rfl (by decide) (fun K hK => ?_); go_simp; refine hK _ _ ⟨?_, ?_⟩; (focus (rw [listed_nil (by simp [go_sem, *])]; exact ds0)); clear hK K)
    | (refine goes_exit rfl ?_; refine ⟨ds0, ?_⟩))
  refine Goes.step rfl (fun _ h₁ => ?_); replace hF := (fe_rely hF2) hF h₁; clear h₁
  refine goes_call rfl rfl (by decide) rfl Try.func6 (by rfl) rfl ⟨ds0, ?_⟩
  walk_nrmf Try.f6
  iterate 2 (refine Goes.step rfl (fun _ h₁ => ?_); replace hF := (fe_rely hF2) hF h₁; clear h₁; first
    | (rw [stepG_seq]; simp only [goes_go]; refine ⟨ds0, ?_⟩)
    | (rw [stepG_region_end]; simp only [goes_go]; refine ⟨ds0, ?_⟩)
    | (rw [stepG_skip]; simp only [goes_go]; refine ⟨ds0, ?_⟩)
    | (rw [stepG_ret']; simp only [goes_go]; refine ⟨ds0, ?_⟩)
    | (rw [stepG_block]; simp only [goes_go]; refine ⟨ds0, ?_⟩)
    | (rw [stepG_loop]; simp only [goes_go]; refine ⟨ds0, ?_⟩)
    | (rw [stepG_inBlock]; simp only [goes_go]; refine ⟨ds0, ?_⟩)
    | (rw [stepG_inLoop]; simp only [goes_go]; refine ⟨ds0, ?_⟩)
    | (rw [stepG_end]; simp only [goes_go]; refine ⟨ds0, ?_⟩)
    | (rw [stepG_region]; simp only [goes_go, List.size_toArray, List.length_cons, List.length_nil, Nat.reduceAdd, Nat.zero_add, List.range, List.range.loop]; refine ⟨ds0, ?_⟩)
    | (rw [stepG_cond (t := true) rfl]; simp only [goes_go, if_true, if_false, Bool.false_eq_true, ↓reduceIte]; refine ⟨ds0, ?_⟩)
    | (rw [stepG_cond (t := false) rfl]; simp only [goes_go, if_true, if_false, Bool.false_eq_true, ↓reduceIte]; refine ⟨ds0, ?_⟩)
    | (rw [stepG_unwanted rfl rfl]; simp only [goes_go]; refine ⟨ds0, ?_⟩; walk_nrm)
    | (refine goes_oper_k rfl rfl (by decide) (fun K hK => ?_); go_simp; refine hK _ _ ⟨?_, ?_⟩; (focus (rw [listed_nil (by simp [go_sem, *])]; exact ds0)); clear hK K)
    | (refine goes_exit rfl ?_; refine ⟨ds0, ?_⟩))
  refine Goes.step rfl (fun _ h₁ => ?_); replace hF := (fe_rely hF2) hF h₁; clear h₁
  refine goes_oper_k rfl rfl (by decide) (fun K hK => ?_)
  have hsz := hF.1.size
  replace hsz := hsz.trans (show _ = N + 7 + 2 * j by omega)
  go_simp
  refine hK _ _ ⟨⟨fun b hb => low_alloc' (s := 0) hF.1.size _ b hb, fun e he => ?_⟩, ?_⟩
  · have hm := mem_listed he
    simp [go_sem, *] at hm
  clear hK K
  replace hF := And.intro (hF.1.box1 49) (live_alloc hF.2 (by omega) (.cells #[.pointer (some ⟨N + 6, 0, none⟩)] 49))
  clear hsz
  refine Goes.step rfl (fun _ h₁ => ?_); replace hF := (fe_rely hF2) hF h₁; clear h₁
  refine goes_oper_k rfl rfl (by decide) (fun K hK => ?_)
  have hsz := hF.1.size
  replace hsz := hsz.trans (show _ = N + 8 + 2 * j by omega)
  go_simp
  refine hK _ _ ⟨⟨fun b hb => low_alloc' (s := 1) hF.1.size _ b hb, fun e he => ?_⟩, ?_⟩
  · have hm := mem_listed he
    simp [go_sem, *] at hm
  clear hK K
  replace hF := And.intro (hF.1.box2 1) (live_alloc hF.2 (by omega) (.cells #[fnv N] 1))
  clear hsz
  iterate 3 (refine Goes.step rfl (fun _ h₁ => ?_); replace hF := (fe_rely hF2) hF h₁; clear h₁; first
    | (rw [stepG_seq]; simp only [goes_go]; refine ⟨ds0, ?_⟩)
    | (rw [stepG_region_end]; simp only [goes_go]; refine ⟨ds0, ?_⟩)
    | (rw [stepG_skip]; simp only [goes_go]; refine ⟨ds0, ?_⟩)
    | (rw [stepG_ret']; simp only [goes_go]; refine ⟨ds0, ?_⟩)
    | (rw [stepG_block]; simp only [goes_go]; refine ⟨ds0, ?_⟩)
    | (rw [stepG_loop]; simp only [goes_go]; refine ⟨ds0, ?_⟩)
    | (rw [stepG_inBlock]; simp only [goes_go]; refine ⟨ds0, ?_⟩)
    | (rw [stepG_inLoop]; simp only [goes_go]; refine ⟨ds0, ?_⟩)
    | (rw [stepG_end]; simp only [goes_go]; refine ⟨ds0, ?_⟩)
    | (rw [stepG_region]; simp only [goes_go, List.size_toArray, List.length_cons, List.length_nil, Nat.reduceAdd, Nat.zero_add, List.range, List.range.loop]; refine ⟨ds0, ?_⟩)
    | (rw [stepG_cond (t := true) rfl]; simp only [goes_go, if_true, if_false, Bool.false_eq_true, ↓reduceIte]; refine ⟨ds0, ?_⟩)
    | (rw [stepG_cond (t := false) rfl]; simp only [goes_go, if_true, if_false, Bool.false_eq_true, ↓reduceIte]; refine ⟨ds0, ?_⟩)
    | (rw [stepG_unwanted rfl rfl]; simp only [goes_go]; refine ⟨ds0, ?_⟩; walk_nrm)
    | (refine goes_oper_k rfl rfl (by decide) (fun K hK => ?_); go_simp; refine hK _ _ ⟨?_, ?_⟩; (focus (rw [listed_nil (by simp [go_sem, *])]; exact ds0)); clear hK K)
    | (refine goes_exit rfl ?_; refine ⟨ds0, ?_⟩))
  refine Goes.step rfl (fun _ h₁ => ?_); replace hF := (fe_rely hF2) hF h₁; clear h₁
  (refine goes_oper_k rfl rfl (by decide) (fun K hK => ?_); have k4 := hF.1.c1 (by decide); go_simp; refine hK _ _ ⟨⟨fun _ _ => rfl, fun e he => ?_⟩, ?_⟩; (focus (have hm := mem_listed he; simp [go_sem, *] at hm; all_goals (subst hm; exact ok0_rd _ (by omega)))); clear hK K k4)
  refine Goes.step rfl (fun _ h₁ => ?_); replace hF := (fe_rely hF2) hF h₁; clear h₁
  refine goes_call rfl rfl (by decide) rfl Try.wgLib.f_add (nm_add Try.link) rfl ⟨ds0, ?_⟩
  walk_nrmf addFn
  refine Goes.mono (hA _ _ _ _ _ _ _ 3 ?_ _ hF) (by omega)
  clear hA hF
  intro w' h1' h2'
  have hF := And.intro h1' h2'
  clear h1' h2'
  walk_nrm
  iterate 3 (refine Goes.step rfl (fun _ h₁ => ?_); replace hF := (fe_rely hF2) hF h₁; clear h₁; first
    | (rw [stepG_seq]; simp only [goes_go]; refine ⟨ds0, ?_⟩)
    | (rw [stepG_region_end]; simp only [goes_go]; refine ⟨ds0, ?_⟩)
    | (rw [stepG_skip]; simp only [goes_go]; refine ⟨ds0, ?_⟩)
    | (rw [stepG_ret']; simp only [goes_go]; refine ⟨ds0, ?_⟩)
    | (rw [stepG_block]; simp only [goes_go]; refine ⟨ds0, ?_⟩)
    | (rw [stepG_loop]; simp only [goes_go]; refine ⟨ds0, ?_⟩)
    | (rw [stepG_inBlock]; simp only [goes_go]; refine ⟨ds0, ?_⟩)
    | (rw [stepG_inLoop]; simp only [goes_go]; refine ⟨ds0, ?_⟩)
    | (rw [stepG_end]; simp only [goes_go]; refine ⟨ds0, ?_⟩)
    | (rw [stepG_region]; simp only [goes_go, List.size_toArray, List.length_cons, List.length_nil, Nat.reduceAdd, Nat.zero_add, List.range, List.range.loop]; refine ⟨ds0, ?_⟩)
    | (rw [stepG_cond (t := true) rfl]; simp only [goes_go, if_true, if_false, Bool.false_eq_true, ↓reduceIte]; refine ⟨ds0, ?_⟩)
    | (rw [stepG_cond (t := false) rfl]; simp only [goes_go, if_true, if_false, Bool.false_eq_true, ↓reduceIte]; refine ⟨ds0, ?_⟩)
    | (rw [stepG_unwanted rfl rfl]; simp only [goes_go]; refine ⟨ds0, ?_⟩; walk_nrm)
    | (refine goes_oper_k rfl rfl (by decide) (fun K hK => ?_); go_simp; refine hK _ _ ⟨?_, ?_⟩; (focus (rw [listed_nil (by simp [go_sem, *])]; exact ds0)); clear hK K)
    | (refine goes_exit rfl ?_; refine ⟨ds0, ?_⟩))
  -- the go statement
  refine Goes.stop (fun w₂ r₂ => ?_)
  replace hF := (fe_rely hF2) hF r₂
  clear r₂
  refine ⟨rfl, ?_⟩
  rw [env_P]
  rw [stepG_spawn (d := gocall N j) (w' := w₂) (f := .func 17) (c := #[.pointer (some ⟨N + 7 + 2 * j, 0, none⟩), .pointer (some ⟨N + 8 + 2 * j, 0, none⟩)]) rfl rfl (by decide) (by simp [go_sem, gocall, Deferred.ofValue]) rfl]
  generalize hL : listed _ _ _ _ _ = Lx
  have hLx : Lx = #[] := by
    rw [← hL]
    simp [listed, go_sem, seen, Deferred.ofValue]
    rfl
  subst hLx
  clear hL
  refine ⟨_, _, rfl, rfl, worker Gg h0 h1 s0 s1 (hF.1.kn hF.2), ?_⟩
  refine (spawns_iff N W x st n r _ _).2 ⟨f₁ + 12, ?_⟩
  have e6 : n - r = j + 1 := by omega
  rw [e6]
  replace hF := And.intro hF.1.next hF.2
  have hwr : IntKind.i64.wrap ((j : Int) + 1) = ((j + 1 : Nat) : Int) := by rw [IntKind.wrap_i64]; omega
  clear hF2
  have hF2 := fun {s} => @st_rely N W x st (j + 1) s n
  walk_nrm
  iterate 2 (refine Goes.step rfl (fun _ h₁ => ?_); replace hF := (fe_rely hF2) hF h₁; clear h₁; first
    | (rw [stepG_seq]; simp only [goes_go]; refine ⟨ds0, ?_⟩)
    | (rw [stepG_region_end]; simp only [goes_go]; refine ⟨ds0, ?_⟩)
    | (rw [stepG_skip]; simp only [goes_go]; refine ⟨ds0, ?_⟩)
    | (rw [stepG_ret']; simp only [goes_go]; refine ⟨ds0, ?_⟩)
    | (rw [stepG_block]; simp only [goes_go]; refine ⟨ds0, ?_⟩)
    | (rw [stepG_loop]; simp only [goes_go]; refine ⟨ds0, ?_⟩)
    | (rw [stepG_inBlock]; simp only [goes_go]; refine ⟨ds0, ?_⟩)
    | (rw [stepG_inLoop]; simp only [goes_go]; refine ⟨ds0, ?_⟩)
    | (rw [stepG_end]; simp only [goes_go]; refine ⟨ds0, ?_⟩)
    | (rw [stepG_region]; simp only [goes_go, List.size_toArray, List.length_cons, List.length_nil, Nat.reduceAdd, Nat.zero_add, List.range, List.range.loop]; refine ⟨ds0, ?_⟩)
    | (rw [stepG_cond (t := true) rfl]; simp only [goes_go, if_true, if_false, Bool.false_eq_true, ↓reduceIte]; refine ⟨ds0, ?_⟩)
    | (rw [stepG_cond (t := false) rfl]; simp only [goes_go, if_true, if_false, Bool.false_eq_true, ↓reduceIte]; refine ⟨ds0, ?_⟩)
    | (rw [stepG_unwanted rfl rfl]; simp only [goes_go]; refine ⟨ds0, ?_⟩; walk_nrm)
    | (refine goes_oper_k rfl rfl (by decide) (fun K hK => ?_); go_simp; refine hK _ _ ⟨?_, ?_⟩; (focus (rw [listed_nil (by simp [go_sem, *])]; exact ds0)); clear hK K)
    | (refine goes_exit rfl ?_; refine ⟨ds0, ?_⟩))
  refine Goes.step rfl (fun _ h₁ => ?_); replace hF := (fe_rely hF2) hF h₁; clear h₁
  refine goes_leave0 rfl rfl Try.func6 rfl ⟨ds0, ?_⟩
  walk_nrm
  iterate 7 (refine Goes.step rfl (fun _ h₁ => ?_); replace hF := (fe_rely hF2) hF h₁; clear h₁; first
    | (rw [stepG_seq]; simp only [goes_go]; refine ⟨ds0, ?_⟩)
    | (rw [stepG_region_end]; simp only [goes_go]; refine ⟨ds0, ?_⟩)
    | (rw [stepG_skip]; simp only [goes_go]; refine ⟨ds0, ?_⟩)
    | (rw [stepG_ret']; simp only [goes_go]; refine ⟨ds0, ?_⟩)
    | (rw [stepG_block]; simp only [goes_go]; refine ⟨ds0, ?_⟩)
    | (rw [stepG_loop]; simp only [goes_go]; refine ⟨ds0, ?_⟩)
    | (rw [stepG_inBlock]; simp only [goes_go]; refine ⟨ds0, ?_⟩)
    | (rw [stepG_inLoop]; simp only [goes_go]; refine ⟨ds0, ?_⟩)
    | (rw [stepG_end]; simp only [goes_go]; refine ⟨ds0, ?_⟩)
    | (rw [stepG_region]; simp only [goes_go, List.size_toArray, List.length_cons, List.length_nil, Nat.reduceAdd, Nat.zero_add, List.range, List.range.loop]; refine ⟨ds0, ?_⟩)
    | (rw [stepG_cond (t := true) rfl]; simp only [goes_go, if_true, if_false, Bool.false_eq_true, ↓reduceIte]; refine ⟨ds0, ?_⟩)
    | (rw [stepG_cond (t := false) rfl]; simp only [goes_go, if_true, if_false, Bool.false_eq_true, ↓reduceIte]; refine ⟨ds0, ?_⟩)
    | (rw [stepG_unwanted rfl rfl]; simp only [goes_go]; refine ⟨ds0, ?_⟩; walk_nrm)
    | (refine goes_oper_k rfl rfl (by decide) (fun K hK => ?_); go_simp; refine hK _ _ ⟨?_, ?_⟩; (focus (rw [listed_nil (by simp [go_sem, *])]; exact ds0)); clear hK K)
    | (refine goes_exit rfl ?_; refine ⟨ds0, ?_⟩))
  refine Goes.mono (ih _ _ ⟨_, rfl, ?_⟩ hF) (by omega)
  refine ⟨rfl, rfl, rfl, rfl, rfl, rfl, rfl, ?_⟩
  simp
  done
/-- j started, r to start. -/
theorem spawnsFrom (Gg : (env N x st n).geo) (h0 : 0 ≤ x) (h1 : x < 18446744073709551616) (s0 : 0 ≤ st) (s1 : st < 256) (hn : n < 2147483648) : ∀ (r j : Nat), j + r = n →
    ∃ f, ∀ (g : Goroutine) (w : World), AtL N n j g → St N W x st j 0 w ∧ (env N x st n).live w → GS N x st n j (StopS N W x st n r) f g w := by
  intro r
  induction r with
  | zero =>
    intro j hj
    obtain rfl : j = n := by omega
    exact ⟨60, started⟩
  | succ r ih =>
    intro j hj
    obtain ⟨f₁, h₁⟩ := ih (j + 1) (by omega)
    exact ⟨90, startOne Gg h0 h1 s0 s1 hj hn h₁⟩
end
end Go.Proofs.Ytdemidfpoojkdaa.Co
