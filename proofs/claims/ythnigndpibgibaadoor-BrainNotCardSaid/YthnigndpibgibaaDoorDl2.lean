/- slices.Delete of one thing out of a row of the call's own: Kept, Intents. Printed by gn_del13.py. -/
import Derived.Test.YthnigndpibgibaaDoorDb
import Derived.Deep.RegionLaw

namespace Go.Proofs.YthnigndpibgibaaDoor
open Go.RowKit Go.Shelf

theorem grown_trans {a b c : World} {row : Option Nat} (h : a.grownBy b row) (k : b.grownBy c row) : a.grownBy c row :=
  ⟨k.os.trans h.os, k.tape.trans h.tape, k.output.trans h.output, Nat.le_trans h.size k.size, fun i hi hr => (k.block i (Nat.lt_of_lt_of_le hi h.size) hr).trans (h.block i hi hr)⟩
theorem run_clear_rows' {P : Program} (w : World) (t e : TypeId) (z : Value) (k : Nat) (ht : P.underlying t = some (.slice e)) (hv : ∀ w, (zeroValue e).run P w = .ok z w) (hz : z.cells.size = k) (h1 : ∀ u ∈ z.cells.toList, u.oneCell' = true) (b o n c : Nat)
    (hc : ∀ j, j < n * k → (w.cell? ⟨b, o + j, none⟩).isSome = true) (hf : ∀ j, j < n * k → w.frozen? ⟨b, o + j, none⟩ = false) :
    ∃ vs : List Value, (∀ ty, (Builtin.clear_ #[t] ty #[.slice (some ⟨b, o, none⟩) n c]).run P w = .ok (.tuple #[]) (w.setCells b o vs)) ∧ vs.length ≤ n * k := by
  obtain ⟨vs, h2, h3⟩ := run_clear_rows w t e 0 z k ht hv hz h1 b o n c hc hf
  exact ⟨vs, fun ty => h2, h3⟩

set_option maxHeartbeats 2000000 in
set_option maxRecDepth 100000 in
theorem deleteKp_any (g c base i : Nat) (l : List KeptV) (w : World) (hown : OwnK w base (.slice (some ⟨g, 0, none⟩) l.length c) l) (hi : i < l.length) (hl : l.length ≤ 100000) (hone : ∀ x ∈ l, ∀ u ∈ encKp x, u.oneCell' = true) :
    Calls Tryd.prog 73 #[.slice (some ⟨g, 0, none⟩) l.length c, .int .i64 (i : Int), .int .i64 ((i : Int) + 1)] w fun e w' => e = .returned (.slice (some ⟨g, 0, none⟩) (l.length - 1) c) ∧ OwnK w' base (.slice (some ⟨g, 0, none⟩) (l.length - 1) c) (l.eraseIdx i) ∧ w.grownBy w' (some g) := by
  obtain ⟨i0, hi0, hz0, hz1, hz2⟩ := info_parts infoKp
  have hcc := hown.cells.1
  have hcf := hown.cells.2.1
  have hnc := hown.cells.2.2.2.1
  have hcm := hown.cells.2.2.2.2
  unfold maxLen at hcm
  obtain ⟨n, hn⟩ : ∃ n, l.length = n := ⟨_, rfl⟩
  obtain ⟨m, hm⟩ : ∃ m, n - (i + 1) = m := ⟨_, rfl⟩
  obtain ⟨news, hnews⟩ : ∃ news, (l.drop (i + 1)).flatMap encKp = news := ⟨_, rfl⟩
  have hnl : news.length = m * 8 := by rw [← hnews, flat_len encKp_len, List.length_drop, hn, hm]
  rw [hn] at hown hi hl hnc ⊢
  have hrow : ∀ j u, news[j]? = some u → w.drew.cell? ⟨g, (i + 1) * 8 + j, none⟩ = some u := by
    intro j u hj
    obtain ⟨cur, h1, h2, h3, h4, h5, h6, h7⟩ := hown.blk
    have hlt : j < m * 8 := by rw [← hnl]; exact lt_get hj
    show w.cell? _ = _
    rw [blk_cell h1]
    have e1 : (l.flatMap encKp)[(i + 1) * 8 + j]? = some u := by
      rw [flat_split l (i + 1), List.getElem?_append_right (by rw [flat_len encKp_len, List.length_take, Nat.min_eq_left (by omega)]; omega), flat_len encKp_len, List.length_take, Nat.min_eq_left (by omega), hnews]
      rw [show (i + 1) * 8 + j - (i + 1) * 8 = j by omega]; exact hj
    rw [← h7, List.getElem?_take] at e1
    split at e1
    · simpa using e1
    · cases e1
  obtain ⟨A, hA, hsrc⟩ : ∃ A : Addr, (if c = i + 1 then (some ⟨g, 0, none⟩ : Option Addr) else some ⟨g, (i + 1) * 8, none⟩) = some A ∧ Hid (∀ j u, news[j]? = some u → w.drew.cell? (A.add j) = some u) := by
    by_cases h : c = i + 1
    · refine ⟨⟨g, 0, none⟩, by simp [h], fun j u hj => ?_⟩
      have := lt_get hj
      rw [hnl] at this
      have : m = 0 := by omega
      subst this
      omega
    · refine ⟨⟨g, (i + 1) * 8, none⟩, by simp [h], fun j u hj => ?_⟩
      rw [show ((⟨g, (i + 1) * 8, none⟩ : Addr).add j) = ⟨g, (i + 1) * 8 + j, none⟩ by unfold Addr.add; split <;> simp_all]
      exact hrow j u hj
  have s2 : Hid (∀ u ∈ news, u.oneCell' = true) := by
    intro u hu
    rw [← hnews] at hu
    obtain ⟨x, hx, hu⟩ := List.mem_flatMap.1 hu
    exact hone x (List.mem_of_mem_drop hx) u hu
  have s3 : Hid (∀ j, j < news.length → (w.drew.cell? ⟨g, 0 + i * 8 + j, none⟩).isSome = true ∧ w.drew.frozen? ⟨g, 0 + i * 8 + j, none⟩ = false) := by
    intro j hj
    rw [hnl] at hj
    rw [Nat.zero_add]
    exact ⟨hcc _ (by omega), hcf _⟩
  obtain ⟨W1, hW1⟩ : ∃ W1, W1 = w.drew.setCells g (0 + i * 8) news := ⟨_, rfl⟩
  have hown1 : OwnK W1 base (.slice (some ⟨g, 0, none⟩) n c) (l.take i ++ l.drop (i + 1) ++ l.drop (i + (l.drop (i + 1)).length)) := by
    rw [hW1, ← hnews, Nat.zero_add]
    exact Owns.write encKp_len (Owns.below hown (below_drewN (Below.refl _ _) 1)) i (l.drop (i + 1)) (by simp; omega)
  have hown2 : OwnK W1 base (.slice (some ⟨g, 0, none⟩) (n - 1) c) (l.eraseIdx i) := by
    have := Owns.cut encKp_len hown1 (n - 1) (by omega)
    rw [List.take_append_of_le_length (by simp; omega), List.take_of_length_le (by simp; omega)] at this
    rw [List.eraseIdx_eq_take_drop_succ]
    exact this
  have hg1 : w.grownBy W1 (some g) := by
    have := setCells_grown g (0 + i * 8) news w.drew
    rw [← hW1] at this
    exact ⟨this.os, this.tape, this.output, this.size, this.block⟩
  have hcc1 := hown1.cells.1
  have hcf1 := hown1.cells.2.1
  obtain ⟨vs, hclr, hvs⟩ := run_clear_rows' (P := Tryd.prog) W1 26 43 (.agg #[.int .i64 0, .int .i64 0, .int .i64 0, .int .i64 0, .int .u8 0, .int .i64 0, .bool false, .bool false]) 8 Tryd.underlying26 (fun w => by kernel_rfl) rfl (by decide) g ((i + m) * 8) (n - (i + m)) (c - (i + m)) (fun j hj => hcc1 _ (by omega)) (fun j hj => hcf1 _)
  have O2 := hid hown2
  have G1 := hid hg1
  have HW := hid hW1
  have HN := hid hn
  have S1 := hid hnl
  clear hown1 hown2 hg1 hW1 hnews hrow hcc1 hcf1 hown hcc hone hn
  have hic : i ≤ c := by omega
  have hjc : i + 1 ≤ c := by omega
  have d1 : ((i : Int) == (i : Int) + 1) = false := by simp; omega
  have d2 : (0 : Int) ≤ (i : Int) + 1 := by omega
  have d3 : (i : Int) + 1 ≤ (n : Int) := by omega
  go_enter Tryd.func73, Tryd.ntmps73
  go_wp2_with fail
  go_region_law (refine step_append_room rfl (.tmp 22) (.tmp 25) 26 rfl 43 i0 8 Tryd.underlying26 hi0 hz1 g 0 i c (by simp [Act.eval, Act.put]) A m (c - (i + 1)) news (by simp [Act.eval, Act.put]) S1.out hsrc.out s2.out (by omega) s3.out ?_; rw [← HW.out])
  go_wp2
  go_ret
  have him : i + m = n - 1 := by omega
  refine ⟨by rw [him]; rfl, ?_, grown_trans G1.out (setCells_grown _ _ _ _)⟩
  rw [← him]
  exact Owns.beyond encKp_len (by rw [him]; exact O2.out) _ _ (Nat.le_refl _)

set_option maxHeartbeats 2000000 in
set_option maxRecDepth 100000 in
theorem deleteIn_any (g c base i : Nat) (l : List IntentV) (w : World) (hown : OwnN w base (.slice (some ⟨g, 0, none⟩) l.length c) l) (hi : i < l.length) (hl : l.length ≤ 100000) (hone : ∀ x ∈ l, ∀ u ∈ encIn x, u.oneCell' = true) :
    Calls Tryd.prog 86 #[.slice (some ⟨g, 0, none⟩) l.length c, .int .i64 (i : Int), .int .i64 ((i : Int) + 1)] w fun e w' => e = .returned (.slice (some ⟨g, 0, none⟩) (l.length - 1) c) ∧ OwnN w' base (.slice (some ⟨g, 0, none⟩) (l.length - 1) c) (l.eraseIdx i) ∧ w.grownBy w' (some g) := by
  obtain ⟨i0, hi0, hz0, hz1, hz2⟩ := info_parts infoIn
  have hcc := hown.cells.1
  have hcf := hown.cells.2.1
  have hnc := hown.cells.2.2.2.1
  have hcm := hown.cells.2.2.2.2
  unfold maxLen at hcm
  obtain ⟨n, hn⟩ : ∃ n, l.length = n := ⟨_, rfl⟩
  obtain ⟨m, hm⟩ : ∃ m, n - (i + 1) = m := ⟨_, rfl⟩
  obtain ⟨news, hnews⟩ : ∃ news, (l.drop (i + 1)).flatMap encIn = news := ⟨_, rfl⟩
  have hnl : news.length = m * 4 := by rw [← hnews, flat_len encIn_len, List.length_drop, hn, hm]
  rw [hn] at hown hi hl hnc ⊢
  have hrow : ∀ j u, news[j]? = some u → w.drew.cell? ⟨g, (i + 1) * 4 + j, none⟩ = some u := by
    intro j u hj
    obtain ⟨cur, h1, h2, h3, h4, h5, h6, h7⟩ := hown.blk
    have hlt : j < m * 4 := by rw [← hnl]; exact lt_get hj
    show w.cell? _ = _
    rw [blk_cell h1]
    have e1 : (l.flatMap encIn)[(i + 1) * 4 + j]? = some u := by
      rw [flat_split l (i + 1), List.getElem?_append_right (by rw [flat_len encIn_len, List.length_take, Nat.min_eq_left (by omega)]; omega), flat_len encIn_len, List.length_take, Nat.min_eq_left (by omega), hnews]
      rw [show (i + 1) * 4 + j - (i + 1) * 4 = j by omega]; exact hj
    rw [← h7, List.getElem?_take] at e1
    split at e1
    · simpa using e1
    · cases e1
  obtain ⟨A, hA, hsrc⟩ : ∃ A : Addr, (if c = i + 1 then (some ⟨g, 0, none⟩ : Option Addr) else some ⟨g, (i + 1) * 4, none⟩) = some A ∧ Hid (∀ j u, news[j]? = some u → w.drew.cell? (A.add j) = some u) := by
    by_cases h : c = i + 1
    · refine ⟨⟨g, 0, none⟩, by simp [h], fun j u hj => ?_⟩
      have := lt_get hj
      rw [hnl] at this
      have : m = 0 := by omega
      subst this
      omega
    · refine ⟨⟨g, (i + 1) * 4, none⟩, by simp [h], fun j u hj => ?_⟩
      rw [show ((⟨g, (i + 1) * 4, none⟩ : Addr).add j) = ⟨g, (i + 1) * 4 + j, none⟩ by unfold Addr.add; split <;> simp_all]
      exact hrow j u hj
  have s2 : Hid (∀ u ∈ news, u.oneCell' = true) := by
    intro u hu
    rw [← hnews] at hu
    obtain ⟨x, hx, hu⟩ := List.mem_flatMap.1 hu
    exact hone x (List.mem_of_mem_drop hx) u hu
  have s3 : Hid (∀ j, j < news.length → (w.drew.cell? ⟨g, 0 + i * 4 + j, none⟩).isSome = true ∧ w.drew.frozen? ⟨g, 0 + i * 4 + j, none⟩ = false) := by
    intro j hj
    rw [hnl] at hj
    rw [Nat.zero_add]
    exact ⟨hcc _ (by omega), hcf _⟩
  obtain ⟨W1, hW1⟩ : ∃ W1, W1 = w.drew.setCells g (0 + i * 4) news := ⟨_, rfl⟩
  have hown1 : OwnN W1 base (.slice (some ⟨g, 0, none⟩) n c) (l.take i ++ l.drop (i + 1) ++ l.drop (i + (l.drop (i + 1)).length)) := by
    rw [hW1, ← hnews, Nat.zero_add]
    exact Owns.write encIn_len (Owns.below hown (below_drewN (Below.refl _ _) 1)) i (l.drop (i + 1)) (by simp; omega)
  have hown2 : OwnN W1 base (.slice (some ⟨g, 0, none⟩) (n - 1) c) (l.eraseIdx i) := by
    have := Owns.cut encIn_len hown1 (n - 1) (by omega)
    rw [List.take_append_of_le_length (by simp; omega), List.take_of_length_le (by simp; omega)] at this
    rw [List.eraseIdx_eq_take_drop_succ]
    exact this
  have hg1 : w.grownBy W1 (some g) := by
    have := setCells_grown g (0 + i * 4) news w.drew
    rw [← hW1] at this
    exact ⟨this.os, this.tape, this.output, this.size, this.block⟩
  have hcc1 := hown1.cells.1
  have hcf1 := hown1.cells.2.1
  obtain ⟨vs, hclr, hvs⟩ := run_clear_rows' (P := Tryd.prog) W1 25 41 (.agg #[.int .i64 0, .int .i64 0, .int .i64 0, .bool false]) 4 Tryd.underlying25 (fun w => by kernel_rfl) rfl (by decide) g ((i + m) * 4) (n - (i + m)) (c - (i + m)) (fun j hj => hcc1 _ (by omega)) (fun j hj => hcf1 _)
  have O2 := hid hown2
  have G1 := hid hg1
  have HW := hid hW1
  have HN := hid hn
  have S1 := hid hnl
  clear hown1 hown2 hg1 hW1 hnews hrow hcc1 hcf1 hown hcc hone hn
  have hic : i ≤ c := by omega
  have hjc : i + 1 ≤ c := by omega
  have d1 : ((i : Int) == (i : Int) + 1) = false := by simp; omega
  have d2 : (0 : Int) ≤ (i : Int) + 1 := by omega
  have d3 : (i : Int) + 1 ≤ (n : Int) := by omega
  go_enter Tryd.func86, Tryd.ntmps86
  go_wp2_with fail
  go_region_law (refine step_append_room rfl (.tmp 22) (.tmp 25) 25 rfl 41 i0 4 Tryd.underlying25 hi0 hz1 g 0 i c (by simp [Act.eval, Act.put]) A m (c - (i + 1)) news (by simp [Act.eval, Act.put]) S1.out hsrc.out s2.out (by omega) s3.out ?_; rw [← HW.out])
  go_wp2
  go_ret
  have him : i + m = n - 1 := by omega
  refine ⟨by rw [him]; rfl, ?_, grown_trans G1.out (setCells_grown _ _ _ _)⟩
  rw [← him]
  exact Owns.beyond encIn_len (by rw [him]; exact O2.out) _ _ (Nat.le_refl _)
end Go.Proofs.YthnigndpibgibaaDoor
