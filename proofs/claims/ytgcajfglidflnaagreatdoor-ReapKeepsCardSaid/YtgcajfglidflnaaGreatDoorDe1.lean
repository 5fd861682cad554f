/- A launch that is meant. -/
import Derived.Test.YtgcajfglidflnaaGreatDoorInk
import Derived.Test.YtgcajfglidflnaaGreatDoorCut
namespace Go.Proofs.YtgcajfglidflnaaGreatDoor
open Go.RowKit Go.Shelf
section
variable {base : World} {b : Nat} {B : BrainV} {mv iv kv : Value} {W : World}
set_option maxRecDepth 100000 in
set_option maxHeartbeats 4000000 in
theorem intent_any (s : Value) (L : List Int) (hs : RowOf 1 encI base s L) (hL : L.length = 3) (h : BO base b B mv iv kv W) (hl : B.I.length ≤ 10000) : Calls Tryz.prog 74 #[.pointer (some ⟨b, 0, none⟩), s] W fun e W' => DeedEnd base b W (intentB B (L.getD 0 0) (L.getD 1 0) (L.getD 2 0)) e W' := by
 obtain ⟨i0, hi, hz0, hz1, hz2⟩ := info_parts infoIn
 obtain ⟨sa, sc, rfl, hs1, hs2, hs3, hop⟩ := hs.open
 obtain ⟨b1, o1, rfl, hb1, hr1⟩ := hop (by omega)
 obtain ⟨x0, hx0⟩ := get_lt (l := L) (k := 0) (by omega)
 obtain ⟨x1, hx1⟩ := get_lt (l := L) (k := 1) (by omega)
 obtain ⟨x2, hx2⟩ := get_lt (l := L) (k := 2) (by omega)
 have g0 := rowN1 (hr1.below h.bel hb1) hx0
 have g1 := rowN1 (hr1.below h.bel hb1) hx1
 have g2 := rowN1 (hr1.below h.bel hb1) hx2
 have e0 : L.getD 0 0 = x0 := by rw [List.getD_eq_getElem?_getD, hx0]; rfl
 have e1 : L.getD 1 0 = x1 := by rw [List.getD_eq_getElem?_getD, hx1]; rfl
 have e2 : L.getD 2 0 = x2 := by rw [List.getD_eq_getElem?_getD, hx2]; rfl
 simp only [Nat.add_zero] at g0
 have hbw : b1 < W.heap.size := Nat.lt_of_lt_of_le hb1 h.bel.size
 have hLI : (L.length : Int) = 3 := by omega
 rw [e0, e1, e2]
 have hlt := h.lt
 have H := hid h
 have HR := hid hr1
 have HX0 := hid hx0
 have HX1 := hid hx1
 have HX2 := hid hx2
 cases hq : B.g 2 with
 | false =>
  have c2 := h.cell 2 (.bool false) (by rw [← hq]; rfl)
  have e : intentB B x0 x1 x2 = B := by unfold intentB; rw [if_neg (by simp [hq])]
  rw [e]
  clear h hs hop hr1 hx0 hx1 hx2 e0 e1 e2 e hq
  go_enter Tryz.func74, Tryz.ntmps74
  go_wp2
  go_end0
  exact ⟨rfl, ⟨_, _, _, H.out⟩, KeepsX.refl _ _⟩
 | true =>
  have c2 := h.cell 2 (.bool true) (by rw [← hq]; rfl)
  have c1 := h.cell 1 (.int .i64 (B.f 1)) rfl
  have f1 := h.free 1
  by_cases hok : 1 ≤ x0 ∧ x1 ≤ 3 ∧ x2 ≤ 1 ∧ B.f 1 < 1099511627776
  ·obtain ⟨n0, n1, n2, n3⟩ := hok
   have m0 : ¬ x0 < 1 := by omega
   have m1 : ¬ 3 < x1 := by omega
   have m2 : ¬ 1 < x2 := by omega
   have m3 : ¬ 1099511627776 ≤ B.f 1 := by omega
   have e : intentB B x0 x1 x2 = { B with f := upd B.f 1 (wrap64 (B.f 1 + 1)), I := B.I ++ [⟨wrap64 (B.f 1 + 1), x0, x1, x2 == 1⟩] } := by unfold intentB; rw [if_pos ⟨hq, n0, n1, n2, n3⟩]
   rw [e]
   obtain ⟨sq, hsq⟩ : ∃ sq, wrap64 (B.f 1 + 1) = sq := ⟨_, rfl⟩
   rw [hsq]
   obtain ⟨ia, inn, ic, hiv⟩ := Owns.shape h.ri
   subst hiv
   obtain ⟨V, hV⟩ : ∃ V, V = W.setCell ⟨b, 1, none⟩ (.int .i64 sq) := ⟨_, rfl⟩
   have HV := hid (show BO base b { B with f := upd B.f 1 sq } mv (.slice ia inn ic) kv V by rw [hV]; exact h.set 1 _ rfl)
   have HKV := hid (show KeepsX b W V by rw [hV]; exact (KeepsX.refl _ _).set _ _)
   have r0 : V.cell? ⟨b1, o1, none⟩ = some (.int .i64 x0) := by have := rowN1 (hr1.below HV.out.bel hb1) hx0; simpa using this
   have r1 : V.cell? ⟨b1, o1 + 1, none⟩ = some (.int .i64 x1) := rowN1 (hr1.below HV.out.bel hb1) hx1
   have r2 : V.cell? ⟨b1, o1 + 2, none⟩ = some (.int .i64 x2) := rowN1 (hr1.below HV.out.bel hb1) hx2
   have d1 := HV.out.cell 1 (.int .i64 sq) rfl
   have d18 := HV.out.cell 18 (.slice ia inn ic) rfl
   have k18 := HV.out.free 18
   have lV := HV.out.lt
   have lb : b1 < V.heap.size := Nat.lt_of_lt_of_le hb1 HV.out.bel.size
   obtain ⟨U, hU⟩ : ∃ U, U = (V.alloc (.cells #[.int .i64 sq, .int .i64 x0, .int .i64 x1, .bool (x2 == 1)] 54)).drew := ⟨_, rfl⟩
   have hbU : Below V.heap.size V U := by rw [hU]; exact below_drewN ((Below.refl _ _).alloc (Nat.le_refl _) _) 1
   have HU := hid (HV.out.below hbU)
   have HBU := hid hbU
   have HUU := hid hU
   have l1 : B.I.length + 1 ≤ maxLen := by unfold maxLen; omega
   have l2 : (B.I.length + 1) * 32 ≤ 140737488355328 := by omega
   have HVV := hid hV
   clear h hs hop hr1 hx0 hx1 hx2 e0 e1 e2 e hq hU hbU hV
   go_enter Tryz.func74, Tryz.ntmps74
   go_wp2_with fail
   rw [← HVV.out]
   have HALL : ∀ W, Below base.heap.size base W → W.cell? ⟨b, 1, none⟩ = some (.int .i64 sq) → W.cell? ⟨b, 18, none⟩ = some (.slice ia inn ic) → (fun W => Below base.heap.size base W ∧ W.cell? ⟨b1, o1, none⟩ = some (.int .i64 x0) ∧ W.cell? ⟨b1, o1 + 1, none⟩ = some (.int .i64 x1) ∧ W.cell? ⟨b1, o1 + 2, none⟩ = some (.int .i64 x2) ∧ W.cell? ⟨b, 1, none⟩ = some (.int .i64 sq) ∧ W.cell? ⟨b, 18, none⟩ = some (.slice ia inn ic)) W := fun W hb hq hq2 => ⟨hb, by have := rowN1 (HR.out.below hb hb1) HX0.out; simpa using this, rowN1 (HR.out.below hb hb1) HX1.out, rowN1 (HR.out.below hb hb1) HX2.out, hq, hq2⟩
   have HS0 := HALL V.drew HV.out.drew1.bel d1 d18
   have HS1 := HALL U HU.out.bel (cell_below d1 HBU.out) (cell_below d18 HBU.out)
   have HALL := hid HALL
   rw [HUU.out] at HS1
   have hbb := HV.out.hb
   refine wp_region_cut 22 3 (fun W => Below base.heap.size base W ∧ W.cell? ⟨b1, o1, none⟩ = some (.int .i64 x0) ∧ W.cell? ⟨b1, o1 + 1, none⟩ = some (.int .i64 x1) ∧ W.cell? ⟨b1, o1 + 2, none⟩ = some (.int .i64 x2) ∧ W.cell? ⟨b, 1, none⟩ = some (.int .i64 sq) ∧ W.cell? ⟨b, 18, none⟩ = some (.slice ia inn ic)) (by kernel_rfl) (by kernel_rfl) (by kernel_rfl) ?_
   simp only [List.take_succ_cons, List.take_zero]
   refine wpAnyH_take (i := 0) (v := ?_) rfl (by kernel_rfl) (by kernel_rfl) (by kernel_rfl) (fun _ _ _ h => h) (Or.inl ⟨by rfl, ?_⟩) HS0 ?_
   rotate_left
   ·(intro w hSw; (try dsimp only at hSw); go_simp; try with_reducible rfl)
   try simp only [Act.put, List.setIfInBounds_toArray]
   refine wpAnyH_take (i := 1) (v := ?_) rfl (by kernel_rfl) (by kernel_rfl) (by kernel_rfl) (fun _ _ _ h => h) (Or.inl ⟨by rfl, ?_⟩) HS0 ?_
   rotate_left
   ·(intro w hSw; (try dsimp only at hSw); go_simp; try with_reducible rfl)
   try simp only [Act.put]
   refine wpAnyH_take (i := 2) (v := ?_) rfl (by kernel_rfl) (by kernel_rfl) (by kernel_rfl) (fun _ _ _ h => h) (Or.inl ⟨by rfl, ?_⟩) HS0 ?_
   rotate_left
   ·(intro w hSw; (try dsimp only at hSw); go_simp; try with_reducible rfl)
   try simp only [Act.put]
   refine wpAnyH_take (i := 3) (v := ?_) rfl (by kernel_rfl) (by kernel_rfl) (by kernel_rfl) (fun _ _ _ h => h) (Or.inl ⟨by rfl, ?_⟩) HS0 ?_
   rotate_left
   ·(intro w hSw; (try dsimp only at hSw); go_simp; try with_reducible rfl)
   try simp only [Act.put]
   refine wpAnyH_take (i := 4) (v := ?_) rfl (by kernel_rfl) (by kernel_rfl) (by kernel_rfl) (fun _ _ _ h => h) (Or.inl ⟨by rfl, ?_⟩) HS0 ?_
   rotate_left
   ·(intro w hSw; (try dsimp only at hSw); go_simp; try with_reducible rfl)
   try simp only [Act.put]
   refine wpAnyH_take (i := 5) (v := ?_) rfl (by kernel_rfl) (by kernel_rfl) (by kernel_rfl) (fun _ _ _ h => h) (Or.inl ⟨by rfl, ?_⟩) HS0 ?_
   rotate_left
   ·(intro w hSw; (try dsimp only at hSw); go_simp; try with_reducible rfl)
   try simp only [Act.put]
   refine wpAnyH_take (i := 6) (v := ?_) rfl (by kernel_rfl) (by kernel_rfl) (by kernel_rfl) (fun _ _ _ h => h) (Or.inl ⟨by rfl, ?_⟩) HS0 ?_
   rotate_left
   ·(intro w hSw; (try dsimp only at hSw); go_simp; try with_reducible rfl)
   try simp only [Act.put]
   refine wpAnyH_take (i := 7) (v := ?_) rfl (by kernel_rfl) (by kernel_rfl) (by kernel_rfl) (fun _ _ _ h => h) (Or.inl ⟨by rfl, ?_⟩) HS0 ?_
   rotate_left
   ·(intro w hSw; (try dsimp only at hSw); go_simp; try with_reducible rfl)
   try simp only [Act.put]
   refine wpAnyH_take (i := 8) (v := ?_) rfl (by kernel_rfl) (by kernel_rfl) (by kernel_rfl) (fun _ _ _ h => h) (Or.inl ⟨by rfl, ?_⟩) HS0 ?_
   rotate_left
   ·(intro w hSw; (try dsimp only at hSw); go_simp; try with_reducible rfl)
   try simp only [Act.put]
   refine wpAnyH_take (i := 9) (v := ?_) rfl (by kernel_rfl) (by kernel_rfl) (by kernel_rfl) (fun _ _ _ h => h) (Or.inl ⟨by rfl, ?_⟩) HS0 ?_
   rotate_left
   ·(intro w hSw; (try dsimp only at hSw); go_simp; try with_reducible rfl)
   try simp only [Act.put]
   refine wpAnyH_take (i := 10) (v := ?_) rfl (by kernel_rfl) (by kernel_rfl) (by kernel_rfl) (fun _ _ _ h => h) (Or.inl ⟨by rfl, ?_⟩) HS0 ?_
   rotate_left
   ·(intro w hSw; (try dsimp only at hSw); go_simp; try with_reducible rfl)
   try simp only [Act.put]
   refine wpAnyH_take (i := 11) (v := ?_) rfl (by kernel_rfl) (by kernel_rfl) (by kernel_rfl) (fun _ _ _ h => h) (Or.inl ⟨by rfl, ?_⟩) HS0 ?_
   rotate_left
   ·(intro w hSw; (try dsimp only at hSw); go_simp; try with_reducible rfl)
   try simp only [Act.put]
   refine wpAnyH_take (i := 12) (v := ?_) rfl (by kernel_rfl) (by kernel_rfl) (by kernel_rfl) (fun _ _ _ h => h) (Or.inl ⟨by rfl, ?_⟩) HS0 ?_
   rotate_left
   ·(intro w hSw; (try dsimp only at hSw); go_simp; try with_reducible rfl)
   try simp only [Act.put]
   refine wpAnyH_take (i := 13) (v := ?_) rfl (by kernel_rfl) (by kernel_rfl) (by kernel_rfl) (fun _ _ _ h => h) (Or.inl ⟨by rfl, ?_⟩) HS0 ?_
   rotate_left
   ·(intro w hSw; (try dsimp only at hSw); go_simp; try with_reducible rfl)
   try simp only [Act.put]
   refine wpAnyH_take (i := 14) (v := ?_) rfl (by kernel_rfl) (by kernel_rfl) (by kernel_rfl) (fun _ _ _ h => h) (Or.inl ⟨by rfl, ?_⟩) HS0 ?_
   rotate_left
   ·(intro w hSw; (try dsimp only at hSw); go_simp; try with_reducible rfl)
   try simp only [Act.put]
   refine wpAnyH_take (i := 15) (v := ?_) rfl (by kernel_rfl) (by kernel_rfl) (by kernel_rfl) (fun _ _ _ h => h) (Or.inl ⟨by rfl, ?_⟩) HS0 ?_
   rotate_left
   ·(intro w hSw; (try dsimp only at hSw); go_simp; try with_reducible rfl)
   try simp only [Act.put]
   refine wpAnyH_take (i := 16) (v := ?_) rfl (by kernel_rfl) (by kernel_rfl) (by kernel_rfl) (fun _ _ _ h => h) (Or.inl ⟨by rfl, ?_⟩) HS0 ?_
   rotate_left
   ·(intro w hSw; (try dsimp only at hSw); go_simp; try with_reducible rfl)
   try simp only [Act.put]
   refine wpAnyH_take (i := 17) (v := ?_) rfl (by kernel_rfl) (by kernel_rfl) (by kernel_rfl) (fun _ _ _ h => h) (Or.inl ⟨by rfl, ?_⟩) HS0 ?_
   rotate_left
   ·(intro w hSw; (try dsimp only at hSw); go_simp; try with_reducible rfl)
   try simp only [Act.put]
   refine wpAnyH_take (i := 18) (v := ?_) rfl (by kernel_rfl) (by kernel_rfl) (by kernel_rfl) (fun _ _ _ h => h) (Or.inl ⟨by rfl, ?_⟩) HS0 ?_
   rotate_left
   ·(intro w hSw; (try dsimp only at hSw); go_simp; try with_reducible rfl)
   try simp only [Act.put]
   refine wpAnyH_take (i := 19) (v := ?_) rfl (by kernel_rfl) (by kernel_rfl) (by kernel_rfl) (fun _ _ _ h => h) (Or.inl ⟨by rfl, ?_⟩) HS0 ?_
   rotate_left
   ·(intro w hSw; (try dsimp only at hSw); go_simp; try with_reducible rfl)
   try simp only [Act.put]
   refine wpAnyH_ready (rs := [20]) (by kernel_rfl) (by simp) ?_
   refine AllReadyH.cons rfl (fun K hK => ?_) AllReadyH.nil
   go_simp
   refine hK.out _ _ HS1 (fun hHeld => ?_)
   clear hK K
   refine wpAnyH_ready (rs := [21]) (by kernel_rfl) (by simp) ?_
   refine AllReadyH.cons rfl (fun K hK => ?_) AllReadyH.nil
   refine step_append_one rfl _ _ 28 rfl base.heap.size 54 i0 _ 32 Tryz.underlying28 hi hz0 hz1 hz2 rfl (by decide) encIn_len _ B.I rfl (by have := HU.out.ri; rw [HUU.out] at this; exact this) ⟨V.heap.size, 0, none⟩ ⟨sq, x0, x1, x2 == 1⟩ rfl (encIn_one _) (new_cellsN V ⟨sq, x0, x1, x2 == 1⟩ _) l1 l2 (by have := HU.out.bel.size; rw [HUU.out] at this; exact this) ?_
   intro v' x9 hown' _ hg'
   rw [← HUU.out] at hg'
   obtain ⟨va, vn, vc, hv'⟩ := Owns.shape hown'
   subst hv'
   have HO := hid hown'
   have HG := hid hg'
   have hbx := blk_grown HU.out.box hg' (fun e' => by obtain ⟨c', hc'⟩ := Owns.typed HU.out.ri b e'.symm; have := HU.out.box; unfold BB at this; rw [hc'] at this; cases this)
   have d18x : x9.cell? ⟨b, 18, none⟩ = some (.slice ia inn ic) := blk_cell hbx 18
   have k18x := blk_free hbx 18
   have lx := blk_lt hbx
   have HS2 := HALL.out x9 (HU.out.bel.grown hg' HU.out.bel.size (fun k e => (Owns.block HU.out.ri k e).1)) (blk_cell hbx 1) d18x
   clear hown' hg' hbx hHeld HS0 HS1
   refine hK.out _ _ HS2 (fun hHeld => ?_)
   clear hK K
   refine wpAnyH_done (by kernel_rfl) ?_ _
   refine cutQ_held (fun _ => True) (fun f => ?_)
   refine wpAnyH_take (i := 22) (v := ?_) rfl (by kernel_rfl) (by kernel_rfl) (by kernel_rfl) (fun _ _ _ h => h) (Or.inl ⟨by rfl, ?_⟩) trivial ?_
   rotate_left
   ·(intro w hSw; (try dsimp only at hSw); go_simp; try with_reducible rfl)
   try simp only [Act.put, List.setIfInBounds_toArray]
   refine wpAnyH_take (i := 23) (v := ?_) rfl (by kernel_rfl) (by kernel_rfl) (by kernel_rfl) (fun _ _ _ h => h) (Or.inl ⟨by rfl, ?_⟩) trivial ?_
   rotate_left
   ·(intro w hSw; (try dsimp only at hSw); go_simp; try with_reducible rfl)
   try simp only [Act.put]
   refine wpAnyH_ready (rs := [24]) (by kernel_rfl) (by simp) ?_
   refine AllReadyH.cons rfl (fun K hK => ?_) AllReadyH.nil
   go_simp
   refine hK.out _ _ trivial (fun _ => ?_)
   clear hK K
   refine wpAnyH_done (by kernel_rfl) ?_ _
   go_wp2
   go_end0
   exact ⟨rfl, ⟨_, _, _, HU.out.setInt HG.out HO.out⟩, ((HKV.out.trans (KeepsX.below HBU.out)).grownI HG.out (Owns.typed HU.out.ri)).set 18 _⟩
  ·have e : intentB B x0 x1 x2 = B := by unfold intentB; rw [if_neg (by rintro ⟨_, p⟩; exact hok p)]
   rw [e]
   clear h hs hop hr1 hx0 hx1 hx2 e0 e1 e2 e hq
   by_cases n0 : x0 < 1
   ·go_enter Tryz.func74, Tryz.ntmps74
    go_wp2
    go_end0
    exact ⟨rfl, ⟨_, _, _, H.out⟩, KeepsX.refl _ _⟩
   by_cases n1 : 3 < x1
   ·go_enter Tryz.func74, Tryz.ntmps74
    go_wp2
    go_end0
    exact ⟨rfl, ⟨_, _, _, H.out⟩, KeepsX.refl _ _⟩
   by_cases n2 : 1 < x2
   ·go_enter Tryz.func74, Tryz.ntmps74
    go_wp2
    go_end0
    exact ⟨rfl, ⟨_, _, _, H.out⟩, KeepsX.refl _ _⟩
   have n3 : 1099511627776 ≤ B.f 1 := by omega
   go_enter Tryz.func74, Tryz.ntmps74
   go_wp2
   go_end0
   exact ⟨rfl, ⟨_, _, _, H.out⟩, KeepsX.refl _ _⟩
end
end Go.Proofs.YtgcajfglidflnaaGreatDoor
