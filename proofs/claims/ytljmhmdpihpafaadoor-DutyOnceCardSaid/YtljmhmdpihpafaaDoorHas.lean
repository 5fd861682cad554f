/- A part of the proofs about open calls: contracts of functions, or plain facts that they want. -/
import Derived.Test.YtljmhmdpihpafaaDoorCl
namespace Go.Proofs.YtljmhmdpihpafaaDoor
open Go.RowKit Go.Shelf

/-- What holds at each jump of call.Has. -/
def HasJ (ep nx kd ky : Int) (l : List CallV) (b off c : Nat) (w : World) (a' : Act) (w' : World) : Prop :=
  ∃ (k : Nat) (u8 u9 u10 u11 u12 u13 u14 u15 u16 u17 u18 u19 u20 u21 u22 u23 u24 u25 u26 u27 u28 u29 u30 : Value), a' = { tmps := #[.agg #[.int .i64 ep, .int .i64 nx, .slice (some ⟨b, off, none⟩) l.length c], .int .u8 kd, .int .i64 ky, .pointer (some ⟨w.heap.size, 0, none⟩), undef, undef, .bool false, .int .i64 k, u8, u9, u10, u11, u12, u13, u14, u15, u16, u17, u18, u19, u20, u21, u22, u23, u24, u25, u26, u27, u28, u29, u30], defers := [] } ∧
    k ≤ l.length ∧ hasB (l.take k) kd ky = false ∧ Below (w.heap.size + 1) (w.alloc (.cells #[.int .i64 ep, .int .i64 nx, .slice (some ⟨b, off, none⟩) l.length c] 33)) w'

set_option maxHeartbeats 400000 in
set_option maxRecDepth 10000 in
theorem has_row (ep nx kd ky : Int) (s : Value) (l : List CallV) (w : World) (hn : l.length ≤ 1000000) (hs : Row12 w s l) :
    Calls Tryd.prog 22 #[calls ep nx s, .int .u8 kd, .int .i64 ky] w fun e w' => e = .returned (.bool (hasB l kd ky)) ∧ Below w.heap.size w w' := by
  unfold calls
  rcases hs with ⟨a, c, rfl, rfl, hac, hcm⟩ | ⟨h0, b, off, c, rfl, hlc, hcm, hb, hrow⟩
  · go_enter Tryd.func22, Tryd.ntmps22
    go_wp2
    refine wp_scope_jumps 0 (fun _ _ => False) (fun _ _ => 0) rfl ?_ (fun _ _ h => h.elim)
    go_wp2
    go_step3
    go_wp2
    simp only [Exit.jump]
    go_ret
    exact ⟨rfl, (Below.refl _ _).alloc (Nat.le_refl _) _⟩
  · unfold maxLen at hcm
    go_enter Tryd.func22, Tryd.ntmps22
    go_wp2
    refine wp_scope_jumps 0 (HasJ ep nx kd ky l b off c w) (fun a' _ => l.length - (intOf (a'.tmps.getD 7 undef)).toNat) rfl ?_ ?_
    · obtain ⟨x, hx⟩ := get_lt h0
      obtain ⟨g0, g1, g2, g3⟩ := row4 hrow hx
      simp only [Nat.zero_mul, Nat.add_zero] at g0 g1 g2 g3
      have HX := hid hx
      have HS := hid (take_snoc l 0 x hx)
      clear hx
      have hz : ((0:Int) == (l.length:Int)) = false := by simp; omega
      go_wp2
      go_step3
      go_wp2
      · simp only [Exit.jump]
        go_ret
        rename_i h1 h2
        exact ⟨ret_bool (hasB_at HX.out h1 (by simpa using h2)).symm, ((Below.refl _ _).alloc (Nat.le_refl _) _).alloc (by simp) _⟩
      all_goals
        go_step3
        exact ⟨rfl, 1, _, _, _, _, _, _, _, _, _, _, _, _, _, _, _, _, _, _, _, _, _, _, _, rfl, h0, by rw [HS.out, hasB_snoc]; simp [hasB]; simp_all, (Below.refl _ _).alloc (by simp) _⟩
    · rintro a' w' ⟨k, u8, u9, u10, u11, u12, u13, u14, u15, u16, u17, u18, u19, u20, u21, u22, u23, u24, u25, u26, u27, u28, u29, u30, rfl, hk, hno, hB⟩
      obtain ⟨hc, hf⟩ := bcell hB
      have hsz := hB.size
      simp at hsz
      have hB' : Below w.heap.size w w' := ((Below.refl _ _).alloc (Nat.le_refl _) _).trans (hB.mono (by omega))
      by_cases hlt : k < l.length
      · obtain ⟨x, hx⟩ := get_lt hlt
        obtain ⟨g0, g1, g2, g3⟩ := row4 hrow hx
        have HX := hid hx
        have HS := hid (take_snoc l k x hx)
        clear hx
        have hz : ((k:Int) == (l.length:Int)) = false := by simp; omega
        go_wp2
        · simp only [Exit.jump]
          go_ret
          rename_i h1 h2
          exact ⟨ret_bool (hasB_at HX.out h1 (by simpa using h2)).symm, hB'.alloc (by omega) _⟩
        all_goals
          go_step3
          refine ⟨rfl, ⟨k + 1, _, _, _, _, _, _, _, _, _, _, _, _, _, _, _, _, _, _, _, _, _, _, _, rfl, by omega, by rw [HS.out, hasB_snoc, hno]; simp_all, hB.alloc (by omega) _⟩, ?_⟩
          simp [intOf]; omega
      · obtain rfl : k = l.length := by omega
        have hz : ((l.length:Int) == (l.length:Int)) = true := by simp
        have HN := hid hno
        clear hno
        go_wp2
        simp only [Exit.jump]
        go_ret
        exact ⟨ret_bool (by rw [← HN.out, List.take_length]), hB'⟩
end Go.Proofs.YtljmhmdpihpafaaDoor
