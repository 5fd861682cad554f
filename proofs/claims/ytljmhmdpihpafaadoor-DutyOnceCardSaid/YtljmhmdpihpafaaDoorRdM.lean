import Derived.Test.YtljmhmdpihpafaaDoorWkb
import Derived.Test.YtljmhmdpihpafaaDoorRgh
/- What stays through a law of duties: a brain, calls, and their boxes. -/
namespace Go.Proofs.YtljmhmdpihpafaaDoor
open Go.RowKit Go.Shelf

/-- A brain and calls, their boxes, the table. -/
structure DS (cs : Array Value) (mv iv kv : Value) (I : List IntentV) (K : List KeptV) (M : List Int) (C : CallsV) (s : Value) (w W : World) : Prop where
  brain : BB W w.heap.size cs
  box : W.heap[w.heap.size + 1]? = some (.cells #[.int .i64 C.epoch, .int .i64 C.next, s] 33)
  ri : RowOf 4 encIn W iv I
  rk : RowOf 8 encKp W kv K
  rm : RowOf 1 encI W mv M
  rc : Row12 W s C.opens
  ask : Asked W
  bel : Below w.heap.size w W
section
variable {cs : Array Value} {mv iv kv : Value} {I : List IntentV} {K : List KeptV} {M : List Int} {C : CallsV} {s : Value} {w W W' : World}
theorem DS.below (h : DS cs mv iv kv I K M C s w W) (hb : Below W.heap.size W W') : DS cs mv iv kv I K M C s w W' :=
  ⟨h.brain.below hb (blk_lt h.brain), blk_below h.box hb (blk_lt h.box), h.ri.below hb, h.rk.below hb, h.rm.below hb, h.rc.below hb, h.ask.below hb, h.bel.trans (hb.mono h.bel.size)⟩
theorem DS.load (h : DS cs mv iv kv I K M C s w W) (hc : BC cs iv kv) : (loadVar 30 ⟨w.heap.size, 0, none⟩).run Tryd.prog W = .ok (.agg cs) W := h.brain.load hc
theorem DS.new (hI : RowOf 4 encIn w iv I) (hK : RowOf 8 encKp w kv K) (hM : RowOf 1 encI w mv M) (hs : Row12 w s C.opens) (hA : Asked w) :
    DS cs mv iv kv I K M C s w ((w.alloc (.cells cs 30)).alloc (.cells #[.int .i64 C.epoch, .int .i64 C.next, s] 33)) := by
  have hb : Below w.heap.size w ((w.alloc (.cells cs 30)).alloc (.cells #[.int .i64 C.epoch, .int .i64 C.next, s] 33)) := ((Below.refl _ _).alloc (Nat.le_refl _) _).alloc (by simp) _
  exact ⟨blk_alloc (heap_new _ _) _, heap_new2 _ _ _, hI.below hb, hK.below hb, hM.below hb, hs.below hb, hA.below hb, hb⟩
end
end Go.Proofs.YtljmhmdpihpafaaDoor

/- Calls that may be, some of them left out, may be. -/
namespace Go.Proofs.YtljmhmdpihpafaaDoor
open Go.RowKit Go.Shelf

theorem goR_filt (hi : Int) (p : CallV → Bool) : ∀ (L : List CallV) (last last' : Int) (seen seen' : List (Int × Int)), last' ≤ last → (∀ q ∈ seen', q ∈ seen) → goR hi last seen L = true → goR hi last' seen' (L.filter p) = true
  | [], _, _, _, _, _, _, _ => by simp [goR]
  | x :: xs, last, last', seen, seen', hl, hs, h => by
    have hx : kindB x.kind = true ∧ (numB x.key && numB x.sent) = true ∧ last < x.id ∧ x.id < hi ∧ (x.kind, x.key) ∉ seen := by
      refine Classical.byContradiction fun hn => ?_
      rw [goR_not hn] at h
      cases h
    obtain ⟨h1, h2, h3, h4, h5⟩ := hx
    have h2' := h2
    rw [Bool.and_eq_true] at h2'
    rw [goR_step h1 h2'.1 h2'.2 h3 h4 h5] at h
    by_cases hp : p x = true
    · rw [List.filter_cons, if_pos hp, goR_step h1 h2'.1 h2'.2 (by omega) h4 (fun hm => h5 (hs _ hm))]
      exact goR_filt hi p xs _ _ _ _ (Int.le_refl _) (fun q hq => by
        simp only [List.mem_append, List.mem_cons, List.mem_nil_iff, or_false] at hq ⊢
        rcases hq with hq | hq
        · first | exact .inl (hs q hq) | exact .inl hq
        · first | exact .inr (hs q hq) | exact .inr hq) h
    · rw [List.filter_cons, if_neg hp]
      exact goR_filt hi p xs _ _ _ _ (by omega) (fun q hq => by
        have := hs q hq
        simp [this]) h
theorem rightB_filt {C : CallsV} (p : CallV → Bool) (h : rightB C = true) : rightB ⟨C.epoch, C.next, C.opens.filter p⟩ = true := by
  unfold rightB at h ⊢
  simp only [Bool.and_eq_true] at h ⊢
  exact ⟨h.1, goR_filt _ p _ _ _ _ _ (Int.le_refl _) (fun _ h => h) h.2⟩
theorem dropL_twice (I : List IntentV) (K : List KeptV) (L : List CallV) : dropL I K (dropL I K L) = dropL I K L := by
  unfold dropL
  rw [List.filter_filter]
  simp
end Go.Proofs.YtljmhmdpihpafaaDoor
