/- CellOne: from the entry to the return, on every tape. -/
import Derived.Test.YtdemidfpoojkdaaCoRb
import Derived.Test.YtdemidfpoojkdaaCoU
import Derived.Test.YtdemidfpoojkdaaCoD
namespace Go.Proofs.Ytdemidfpoojkdaa.Co
open Go.Conc Go.ConcN Go.RowKit Go.Conc.Lib Go.ConcR.Gen Go.ConcN.Gen
open Go.ConcR (KK wgBlock WgAt stA smA rd wr mk DC0 ofEvent_cell)
set_option linter.unusedVariables false
set_option linter.unusedSimpArgs false
section
variable {N : Nat} {W : World} {x st : Int} {n : Nat}
/-- From the head of Wait's loop. -/
theorem anW_round (Gg : (env N x st n).geo) (h0 : 0 ≤ x) (h1 : x < 18446744073709551616) (s0 : 0 ≤ st) (s1 : st < 256) (g : Goroutine) (w : World) (h : AnW N W x st n g w) :
    ∃ m, Goes Try.prog true (env N x st n).RS ((env N x st n).DS n) ((env N x st n).S1 (AnW N W x st n) (PostE N W)) m g w := by
  obtain ⟨T, hT, hA⟩ := h
  have hc : ∀ w, St N W x st n 0 w → (env N x st n).live w → (env N x st n).found w → Goes Try.prog true atR ((env N x st n).DS n) ((env N x st n).Se (PostE N W)) 900 (G ((base 3).at ((⟨T, []⟩ : Act).put ((ops10[0]?).bind (·.dst)) (.tuple #[])) (.inRegion ops10 [] :: [.code tail10])) []) w := fun w a b c => by
    cases hm : wMay (x % 4) (st % 4) with
    | true => exact tail_true h0 h1 s0 s1 hm T hT w a b c
    | false => exact tail_false h0 h1 s0 s1 hm T hT w a b c
  obtain ⟨m, hm⟩ := waitRound (L := Try.link) (E := env N x st n) (F := St N W x st n 0) (Post := PostE N W) (b₀ := base 3) (a₀ := ⟨T, []⟩) (ops₀ := ops10) (i₀ := 0) (rest₀ := []) (k₀ := [.code tail10]) (cs := []) (mT := 900) Try.wgLib Gg (fun w w' => st_rely w w') hc g w hA
  exact ⟨m, goes_mono (fun _ _ y => S1_mono (fun _ _ z => ⟨T, hT, z⟩) y) hm⟩
end
section
variable (W : World) (x st : Int)
theorem w7_size : (W7 W x st).heap.size = W.heap.size + 7 := by simp [W7]
theorem w7_blk (k : Nat) (hk : k < W.heap.size) : (W7 W x st).heap[k]? = W.heap[k]? := by
  unfold W7
  iterate 7 rw [Below.heap_alloc _ _ _ (by (try simp only [World.size_alloc]); omega)]
theorem w7_wg : WgAt 37 (W.heap.size + 6) (W7 W x st) 0 0 := by
  unfold W7 WgAt wgBlock
  have := heap_alloc_new ((((((W.alloc (.cells #[.int .u64 x] 22)).alloc (.cells #[.int .u8 st] 5)).alloc (.cells #[.int .u64 25] 47)).alloc (.cells #[.int .u64 x] 47)).alloc (.cells #[.pointer (some ⟨W.heap.size + 3, 0, none⟩)] 24)).alloc (.cells #[.int .i64 0] 31)) (.cells #[.int .u64 0, .int .u32 0] 37)
  simpa only [World.size_alloc] using this
theorem w7_dn : (W7 W x st).heap[W.heap.size + 5]? = some (.cells #[.int .i64 0] 31) := by
  unfold W7
  iterate 1 rw [Below.heap_alloc _ _ _ (by (try simp only [World.size_alloc]); omega)]
  have := heap_alloc_new (((((W.alloc (.cells #[.int .u64 x] 22)).alloc (.cells #[.int .u8 st] 5)).alloc (.cells #[.int .u64 25] 47)).alloc (.cells #[.int .u64 x] 47)).alloc (.cells #[.pointer (some ⟨W.heap.size + 3, 0, none⟩)] 24)) (.cells #[.int .i64 0] 31)
  simpa only [World.size_alloc] using this
theorem w7_ce : (W7 W x st).heap[W.heap.size + 3]? = some (.cells #[.int .u64 x] 47) := by
  unfold W7
  iterate 3 rw [Below.heap_alloc _ _ _ (by (try simp only [World.size_alloc]); omega)]
  have := heap_alloc_new (((W.alloc (.cells #[.int .u64 x] 22)).alloc (.cells #[.int .u8 st] 5)).alloc (.cells #[.int .u64 25] 47)) (.cells #[.int .u64 x] 47)
  simpa only [World.size_alloc] using this
theorem w7_c : (W7 W x st).heap[W.heap.size + 4]? = some (.cells #[.pointer (some ⟨W.heap.size + 3, 0, none⟩)] 24) := by
  unfold W7
  iterate 2 rw [Below.heap_alloc _ _ _ (by (try simp only [World.size_alloc]); omega)]
  have := heap_alloc_new ((((W.alloc (.cells #[.int .u64 x] 22)).alloc (.cells #[.int .u8 st] 5)).alloc (.cells #[.int .u64 25] 47)).alloc (.cells #[.int .u64 x] 47)) (.cells #[.pointer (some ⟨W.heap.size + 3, 0, none⟩)] 24)
  simpa only [World.size_alloc] using this
theorem w7_s : (W7 W x st).heap[W.heap.size + 1]? = some (.cells #[.int .u8 st] 5) := by
  unfold W7
  iterate 5 rw [Below.heap_alloc _ _ _ (by (try simp only [World.size_alloc]); omega)]
  have := heap_alloc_new (W.alloc (.cells #[.int .u64 x] 22)) (.cells #[.int .u8 st] 5)
  simpa only [World.size_alloc] using this
theorem w7_x : (W7 W x st).heap[W.heap.size]? = some (.cells #[.int .u64 x] 22) := by
  unfold W7
  iterate 6 rw [Below.heap_alloc _ _ _ (by (try simp only [World.size_alloc]); omega)]
  exact heap_alloc_new W _
theorem cell_of_heap {w : World} {b : Nat} {v : Value} {t : TypeId} (h : w.heap[b]? = some (.cells #[v] t)) : w.cell? ⟨b, 0, none⟩ = some v := by simp [World.cell?, h]
theorem w7_st : St W.heap.size W x st 0 0 (W7 W x st) :=
  ⟨⟨rfl, rfl, rfl, by rw [w7_size]; omega, w7_blk W x st⟩, ⟨cell_of_heap (w7_x W x st), cell_of_heap (w7_s W x st), cell_of_heap (w7_c W x st)⟩, w7_size W x st, fun h => absurd h (by omega), fun h => absurd h (by omega)⟩
theorem w7_live (n : Nat) : (env W.heap.size x st n).live (W7 W x st) := ⟨⟨0, 0, w7_wg W x st⟩, ⟨x, w7_ce W x st⟩, 0, w7_dn W x st⟩
end
section
variable {W : World} {x st nn : Int}
/-- The run. -/
theorem the_run (h0 : 0 ≤ x) (h1 : x < 18446744073709551616) (s0 : 0 ≤ st) (s1 : st < 256) (n0 : 0 ≤ nn) (n1 : nn < 256) :
    ∃ M last o w' t', runNT Try.prog (M + 1) (solo (G (Frame.enter Try.prog 3 #[.int .u64 x, .int .u8 st, .int .u8 nn] .normal) []) W) #[] = (.ended o w', t') ∧
      runN Try.prog M (solo (G (Frame.enter Try.prog 3 #[.int .u64 x, .int .u8 st, .int .u8 nn] .normal) []) W) = .next last ∧ step Try.prog last = .ended o w' ∧ Conc.Good Try.prog (PostE W.heap.size W) last o w' t' := by
  obtain ⟨n, hn⟩ : ∃ n : Nat, (n : Int) = nn % 16 + 1 := ⟨(nn % 16 + 1).toNat, by omega⟩
  have Gg : (env W.heap.size x st n).geo := env_geo h0 (by omega) (by omega)
  have e : Frame.enter Try.prog 3 #[.int .u64 x, .int .u8 st, .int .u8 nn] .normal = (base 3).at ⟨#[.int .u64 x, .int .u8 st, .int .u8 nn, undef, undef, undef, undef, undef, undef, undef, undef, undef, undef, undef, undef, undef, undef, undef, undef, undef, undef, undef, undef, undef, undef, undef, undef, undef, undef, undef, undef, undef, undef, undef, undef, undef, undef, undef, undef, undef, undef, undef, undef, undef, undef, undef, undef, undef, undef, undef, undef, undef], []⟩ [.code body3] := by
    simp [Frame.enter, Frame.at, Try.func3, base, body3, Try.f3]
  rw [e]
  refine join (E := env W.heap.size x st n) (Anch := AnW W.heap.size W x st n) (Post := PostE W.heap.size W) Gg (fun g w ⟨_, _, _, hg, _⟩ => by rw [hg]; rfl) (anW_round Gg h0 h1 s0 s1) (prologue h0 h1 s0 s1 n0 n1 hn (fun g hg => ?_))
  obtain ⟨f, hf⟩ := spawnsFrom (W := W) Gg h0 h1 s0 s1 (by omega) n 0 (by omega)
  refine ⟨(spawns_iff _ W x st n n _ _).2 ⟨f, ?_⟩, w7_wg W x st, w7_ce W x st, w7_dn W x st⟩
  rw [Nat.sub_self]
  exact hf _ _ hg ⟨w7_st W x st, w7_live W x st n⟩
end
end Go.Proofs.Ytdemidfpoojkdaa.Co
