/- Deeds: one that is gone; a stray one that is kept. -/
import Derived.Test.YthnigndpibgibaaDoorInk
import Derived.Deep.RegionHeld3
namespace Go.Proofs.YthnigndpibgibaaDoor
open Go.RowKit Go.Shelf
attribute [-go_sem] loadVar
attribute [local go_sem] load_other

theorem lint (L : List Int) (i : Nat) (x : Int) (h : L[i]? = some x) : L.getD i 0 = x := by rw [List.getD_eq_getElem?_getD, h]; rfl
theorem bo_bel {base : World} {b : Nat} {B : BrainV} {W : World} (h : ∃ mv iv kv, BO base b B mv iv kv W) : Below base.heap.size base W := by
  obtain ⟨_, _, _, h⟩ := h
  exact h.bel
section
variable {base : World} {b : Nat} {B : BrainV} {mv iv kv : Value} {W : World}
set_option maxRecDepth 100000 in
set_option maxHeartbeats 2000000 in
theorem d3_any (s : Value) (h : BO base b B mv iv kv W) (i : Nat) (hi : i < B.K.length) (hl : B.K.length ≤ 10000) : Calls Tryd.prog 72 #[.pointer (some ⟨b, 0, none⟩), .int .i64 i, s] W fun e W' => DeedEnd base b W (goneAt B i) e W' := by
  obtain ⟨x, hx⟩ := get_lt hi
  obtain ⟨g, c, rfl, hg, hra, hfz, hl6, cur, hcur⟩ := h.kopen hx
  have c19 := h.cell 19 (.slice (some ⟨g, 0, none⟩) B.K.length c) rfl
  have f19 := h.free 19
  have hlt := h.lt
  have HD := hid (deleteKp_any g c base.heap.size i B.K W h.rk hi (by omega) (fun x _ => encKp_one x))
  have H := hid h
  clear h hx hra hcur
  go_enter Tryd.func72, Tryd.ntmps72
  go_wp2_with fail
  refine HD.out.mono ?_
  rintro e x1 ⟨rfl, hown', hg'⟩
  have HO := hid hown'
  have HG := hid hg'
  have hbx := blk_grown H.out.box hg' (fun e' => by obtain ⟨c', hc'⟩ := Owns.typed H.out.rk b e'.symm; have := H.out.box; unfold BB at this; rw [hc'] at this; cases this)
  have d19 : x1.cell? ⟨b, 19, none⟩ = some (.slice (some ⟨g, 0, none⟩) B.K.length c) := blk_cell hbx 19
  have e19 := blk_free hbx 19
  have lx := blk_lt hbx
  clear hown' hg' hbx c19 f19 hlt
  go_wp2
  go_end0
  exact ⟨rfl, ⟨_, _, _, H.out.setKept HG.out HO.out⟩, ((KeepsX.refl b W).grown (kv := .slice (some ⟨g, 0, none⟩) B.K.length c) HG.out (Owns.typed H.out.rk)).set 19 _⟩

def takeB (B : BrainV) (L : List Int) : BrainV :=
  if 1 ≤ L.getD 0 0 ∧ idxL B.K (fun x => x.id == L.getD 0 0) < 0 then keepB B ⟨L.getD 0 0, L.getD 1 0, L.getD 2 0, L.getD 3 0, 8, L.getD 4 0, false, false⟩ else B
theorem BO.load (h : BO base b B mv iv kv W) : (loadVar 30 ⟨b, 0, none⟩).run Tryd.prog W = .ok (.agg (brT B.f B.g mv iv kv)) W := h.box.load (brT_bc _ _ _ _ _)
set_option maxRecDepth 100000 in
set_option maxHeartbeats 4000000 in
theorem take_any (s : Value) (L : List Int) (hs : RowOf 1 encI base s L) (hL : L.length = 5) (h : BO base b B mv iv kv W) (hl : B.K.length ≤ 1000) : Calls Tryd.prog 68 #[.pointer (some ⟨b, 0, none⟩), s] W fun e W' => DeedEnd base b W (takeB B L) e W' := by
  obtain ⟨sa, sc, rfl, hs1, hs2, hs3, hop⟩ := hs.open
  obtain ⟨b1, o1, rfl, hb1, hr1⟩ := hop (by omega)
  obtain ⟨x0, hx0⟩ := get_lt (l := L) (k := 0) (by omega)
  obtain ⟨x1, hx1⟩ := get_lt (l := L) (k := 1) (by omega)
  obtain ⟨x2, hx2⟩ := get_lt (l := L) (k := 2) (by omega)
  obtain ⟨x3, hx3⟩ := get_lt (l := L) (k := 3) (by omega)
  obtain ⟨x4, hx4⟩ := get_lt (l := L) (k := 4) (by omega)
  have hbw : b1 < W.heap.size := Nat.lt_of_lt_of_le hb1 h.bel.size
  have hLI : (L.length : Int) = 5 := by omega
  obtain ⟨R, hR⟩ : ∃ R, takeB B L = R := ⟨_, rfl⟩
  rw [hR]
  unfold takeB at hR
  rw [lint L 0 x0 hx0, lint L 1 x1 hx1, lint L 2 x2 hx2, lint L 3 x3 hx3, lint L 4 x4 hx4] at hR
  have HR := hid hR
  have g0 : W.cell? ⟨b1, o1, none⟩ = some (.int .i64 x0) := by have := rowN1 (hr1.below h.bel hb1) hx0; simpa using this
  have hlt := h.lt
  have H := hid h
  have HR1 := hid hr1
  have X0 := hid hx0
  have X1 := hid hx1
  have X2 := hid hx2
  have X3 := hid hx3
  have X4 := hid hx4
  by_cases h0 : 1 ≤ x0
  · obtain ⟨r, hr⟩ : ∃ r, idxL B.K (fun x => x.id == x0) = r := ⟨_, rfl⟩
    have hf := fun V (hV : Below W.heap.size W V) => bfind_any (brT B.f B.g mv iv kv) iv kv (brT_bc _ _ _ _ _) B.K x0 V (Owns.row (h.below hV).rk encKp_len (by decide)) hl
    rw [hr] at hf
    have HF := hid hf
    have HRR := hid hr
    have kq := fun d os => cell_regrown g0 d os
    have kl := fun d os => (h.below (below_regrown W d os)).load
    have HCALL := hid (fun d os => Calls.regrown_of (d := d) (os := os) (w := W) (HF.out _ (below_regrown W d os)))
    clear h hs hop hr1 hx0 hx1 hx2 hx3 hx4 hR hf hr
    go_enter Tryd.func68, Tryd.ntmps68
    go_wp2_with fail
    refine wp_region_quiet_below (by kernel_rfl) (by kernel_rfl) ?_
    repeat (quiet_step (exact HCALL.out _ _))
    refine wpQuiet_nil ?_
    intro _ hw'
    obtain ⟨⟨dq, osq⟩, hw''⟩ := hw'
    subst hw''
    have hbq := below_regrown W dq osq
    obtain ⟨V, hV⟩ : ∃ V, V = Sort.grow (redrawn W dq) osq := ⟨_, rfl⟩
    rw [← hV] at hbq ⊢
    clear hV kq kl HCALL
    have HBQ := hid hbq
    by_cases hneg : r < 0
    · have HRK := hid (show R = keepB B ⟨x0, x1, x2, x3, 8, x4, false, false⟩ by rw [← HR.out, if_pos ⟨h0, by rw [HRR.out]; exact hneg⟩])
      have HV := hid (H.out.below hbq)
      have r0 : V.cell? ⟨b1, o1, none⟩ = some (.int .i64 x0) := by have := rowN1 (HR1.out.below HV.out.bel hb1) X0.out; simpa using this
      have r1 : V.cell? ⟨b1, o1 + 1, none⟩ = some (.int .i64 x1) := rowN1 (HR1.out.below HV.out.bel hb1) X1.out
      have r2 : V.cell? ⟨b1, o1 + 2, none⟩ = some (.int .i64 x2) := rowN1 (HR1.out.below HV.out.bel hb1) X2.out
      have r3 : V.cell? ⟨b1, o1 + 3, none⟩ = some (.int .i64 x3) := rowN1 (HR1.out.below HV.out.bel hb1) X3.out
      have r4 : V.cell? ⟨b1, o1 + 4, none⟩ = some (.int .i64 x4) := rowN1 (HR1.out.below HV.out.bel hb1) X4.out
      have lb : b1 < V.heap.size := Nat.lt_of_lt_of_le hb1 HV.out.bel.size
      have HK := hid (keep_any ⟨x0, x1, x2, x3, 8, x4, false, false⟩ HV.out.drew1 (by omega))
      rw [← HRK.out] at HK
      unfold encKv at HK
      dsimp only at HK
      clear hbq g0 hbw hlt
      go_wp2_with fail
      have HALL := hid (show ∀ W, Below base.heap.size base W → (fun W => Below base.heap.size base W ∧ W.cell? ⟨b1, o1, none⟩ = some (.int .i64 x0) ∧ W.cell? ⟨b1, o1 + 1, none⟩ = some (.int .i64 x1) ∧ W.cell? ⟨b1, o1 + 2, none⟩ = some (.int .i64 x2) ∧ W.cell? ⟨b1, o1 + 3, none⟩ = some (.int .i64 x3) ∧ W.cell? ⟨b1, o1 + 4, none⟩ = some (.int .i64 x4)) W from fun W hb => ⟨hb, by have := rowN1 (HR1.out.below hb hb1) X0.out; simpa using this, rowN1 (HR1.out.below hb hb1) X1.out, rowN1 (HR1.out.below hb hb1) X2.out, rowN1 (HR1.out.below hb hb1) X3.out, rowN1 (HR1.out.below hb hb1) X4.out⟩)
      have HVD := hid (show Below base.heap.size base V.drew from HV.out.drew1.bel)
      go_region_held3 (fun W => Below base.heap.size base W ∧ W.cell? ⟨b1, o1, none⟩ = some (.int .i64 x0) ∧ W.cell? ⟨b1, o1 + 1, none⟩ = some (.int .i64 x1) ∧ W.cell? ⟨b1, o1 + 2, none⟩ = some (.int .i64 x2) ∧ W.cell? ⟨b1, o1 + 3, none⟩ = some (.int .i64 x3) ∧ W.cell? ⟨b1, o1 + 4, none⟩ = some (.int .i64 x4)) (first | exact HALL.out _ HVD.out | exact HALL.out _ HBEL.out) ((go_at_call 87; refine HK.out.mono ?_; rintro e y1 ⟨rfl, hbo, hkx⟩; have HBO := hid hbo; have HKX := hid hkx; have HBEL := hid (bo_bel hbo); clear hbo hkx))
      all_goals
        go_wp2
        go_end0
        exact ⟨rfl, HBO.out, ((KeepsX.below HBQ.out).drew1).trans HKX.out⟩
    · obtain rfl : B = R := by rw [← HR.out, if_neg (by rintro ⟨_, p⟩; rw [HRR.out] at p; exact hneg p)]
      clear hbq
      go_wp2
      go_end0
      exact ⟨rfl, ⟨_, _, _, H.out.below HBQ.out⟩, KeepsX.below HBQ.out⟩
  · obtain rfl : B = R := by rw [← HR.out, if_neg (by rintro ⟨p, _⟩; exact h0 p)]
    have d0 : decide (1 ≤ x0) = false := by simpa using h0
    have h0' : x0 < 1 := by omega
    clear h hs hop hr1 hx0 hx1 hx2 hx3 hx4 hR
    go_enter Tryd.func68, Tryd.ntmps68
    go_wp2_with fail
    go_quiet (fail)
    go_wp2
    go_end0
    exact ⟨rfl, ⟨_, _, _, H.out.drew _⟩, (KeepsX.refl _ _).drew _⟩
end
end Go.Proofs.YthnigndpibgibaaDoor
