import Derived.Test.YtgcajfglidflnaaGreatDoorInk
import Derived.Deep.RegionHeld3
/- Deeds: one that is gone; a stray one that is kept. -/
namespace Go.Proofs.YtgcajfglidflnaaGreatDoor
open Go.RowKit Go.Shelf
attribute [-go_sem] loadVar
attribute [local go_sem] load_other

theorem lint (L : List Int) (i : Nat) (x : Int) (h : L[i]? = some x) : L.getD i 0 = x := by rw [List.getD_eq_getElem?_getD, h]; rfl
theorem bo_bel {base : World} {b : Nat} {B : BrainV} {W : World} (h : ∃ mv iv kv, BO base b B mv iv kv W) : Below base.heap.size base W := by
 obtain ⟨_, _, _, h⟩ := h
 exact h.bel
section
variable {base : World} {b : Nat} {B : BrainV} {mv iv kv : Value} {W : World}
set_option maxRecDepth 100000 in
set_option maxHeartbeats 2000000 in
theorem d3_any (s : Value) (h : BO base b B mv iv kv W) (i : Nat) (hi : i < B.K.length) (hl : B.K.length ≤ 10000) : Calls Tryz.prog 80 #[.pointer (some ⟨b, 0, none⟩), .int .i64 i, s] W fun e W' => DeedEnd base b W (goneAt B i) e W' := by
 obtain ⟨x, hx⟩ := get_lt hi
 obtain ⟨g, c, rfl, hg, hra, hfz, hl6, cur, hcur⟩ := h.kopen hx
 have c19 := h.cell 19 (.slice (some ⟨g, 0, none⟩) B.K.length c) rfl
 have f19 := h.free 19
 have hlt := h.lt
 have HD := hid (deleteKp_any g c base.heap.size i B.K W h.rk hi (by omega) (fun x _ => encKp_one x))
 have H := hid h
 clear h hx hra hcur
 go_enter Tryz.func80, Tryz.ntmps80
 go_wp2_with fail
 refine HD.out.mono ?_
 rintro e x1 ⟨rfl, hown', hg'⟩
 have HO := hid hown'
 have HG := hid hg'
 have hbx := blk_grown H.out.box hg' (fun e' => by obtain ⟨c', hc'⟩ := Owns.typed H.out.rk b e'.symm; have := H.out.box; unfold BB at this; rw [hc'] at this; cases this)
 have d19 : x1.cell? ⟨b, 19, none⟩ = some (.slice (some ⟨g, 0, none⟩) B.K.length c) := blk_cell hbx 19
 have e19 := blk_free hbx 19
 have lx := blk_lt hbx
 clear hown' hg' hbx c19 f19 hlt
 go_wp2
 go_end0
 exact ⟨rfl, ⟨_, _, _, H.out.setKept HG.out HO.out⟩, ((KeepsX.refl b W).grown (kv := .slice (some ⟨g, 0, none⟩) B.K.length c) HG.out (Owns.typed H.out.rk)).set 19 _⟩

def takeB (B : BrainV) (L : List Int) : BrainV :=
 if 1 ≤ L.getD 0 0 ∧ idxL B.K (fun x => x.id == L.getD 0 0) < 0 then keepB B ⟨L.getD 0 0, L.getD 1 0, L.getD 2 0, L.getD 3 0, 8, L.getD 4 0, false, false⟩ else B
theorem BO.load (h : BO base b B mv iv kv W) : (loadVar 33 ⟨b, 0, none⟩).run Tryz.prog W = .ok (.agg (brT B.f B.g mv iv kv)) W := h.box.load (brT_bc _ _ _ _ _)
set_option maxRecDepth 100000 in
set_option maxHeartbeats 4000000 in
theorem take_any (s : Value) (L : List Int) (hs : RowOf 1 encI base s L) (hL : L.length = 5) (h : BO base b B mv iv kv W) (hl : B.K.length ≤ 1000) : Calls Tryz.prog 76 #[.pointer (some ⟨b, 0, none⟩), s] W fun e W' => DeedEnd base b W (takeB B L) e W' := by
 obtain ⟨sa, sc, rfl, hs1, hs2, hs3, hop⟩ := hs.open
 obtain ⟨b1, o1, rfl, hb1, hr1⟩ := hop (by omega)
 obtain ⟨x0, hx0⟩ := get_lt (l := L) (k := 0) (by omega)
 obtain ⟨x1, hx1⟩ := get_lt (l := L) (k := 1) (by omega)
 obtain ⟨x2, hx2⟩ := get_lt (l := L) (k := 2) (by omega)
 obtain ⟨x3, hx3⟩ := get_lt (l := L) (k := 3) (by omega)
 obtain ⟨x4, hx4⟩ := get_lt (l := L) (k := 4) (by omega)
 have hbw : b1 < W.heap.size := Nat.lt_of_lt_of_le hb1 h.bel.size
 have hLI : (L.length : Int) = 5 := by omega
 obtain ⟨R, hR⟩ : ∃ R, takeB B L = R := ⟨_, rfl⟩
 rw [hR]
 unfold takeB at hR
 rw [lint L 0 x0 hx0, lint L 1 x1 hx1, lint L 2 x2 hx2, lint L 3 x3 hx3, lint L 4 x4 hx4] at hR
 have HR := hid hR
 have g0 : W.cell? ⟨b1, o1, none⟩ = some (.int .i64 x0) := by have := rowN1 (hr1.below h.bel hb1) hx0; simpa using this
 have hlt := h.lt
 have H := hid h
 have HR1 := hid hr1
 have X0 := hid hx0
 have X1 := hid hx1
 have X2 := hid hx2
 have X3 := hid hx3
 have X4 := hid hx4
 by_cases h0 : 1 ≤ x0
 ·obtain ⟨r, hr⟩ : ∃ r, idxL B.K (fun x => x.id == x0) = r := ⟨_, rfl⟩
  have hf := fun V (hV : Below W.heap.size W V) => bfind_any (brT B.f B.g mv iv kv) iv kv (brT_bc _ _ _ _ _) B.K x0 V (Owns.row (h.below hV).rk encKp_len (by decide)) hl
  rw [hr] at hf
  have HF := hid hf
  have HRR := hid hr
  have kq := fun d os => cell_regrown g0 d os
  have kl := fun d os => (h.below (below_regrown W d os)).load
  have HCALL := hid (fun d os => Calls.regrown_of (d := d) (os := os) (w := W) (HF.out _ (below_regrown W d os)))
  clear h hs hop hr1 hx0 hx1 hx2 hx3 hx4 hR hf hr
  go_enter Tryz.func76, Tryz.ntmps76
  go_wp2_with fail
  refine wp_region_quiet_below (by kernel_rfl) (by kernel_rfl) ?_
  repeat (quiet_step (exact HCALL.out _ _))
  refine wpQuiet_nil ?_
  intro _ hw'
  obtain ⟨⟨dq, osq⟩, hw''⟩ := hw'
  subst hw''
  have hbq := below_regrown W dq osq
  obtain ⟨V, hV⟩ : ∃ V, V = Sort.grow (redrawn W dq) osq := ⟨_, rfl⟩
  rw [← hV] at hbq ⊢
  clear hV kq kl HCALL
  have HBQ := hid hbq
  by_cases hneg : r < 0
  ·have HRK := hid (show R = keepB B ⟨x0, x1, x2, x3, 8, x4, false, false⟩ by rw [← HR.out, if_pos ⟨h0, by rw [HRR.out]; exact hneg⟩])
   have HV := hid (H.out.below hbq)
   have r0 : V.cell? ⟨b1, o1, none⟩ = some (.int .i64 x0) := by have := rowN1 (HR1.out.below HV.out.bel hb1) X0.out; simpa using this
   have r1 : V.cell? ⟨b1, o1 + 1, none⟩ = some (.int .i64 x1) := rowN1 (HR1.out.below HV.out.bel hb1) X1.out
   have r2 : V.cell? ⟨b1, o1 + 2, none⟩ = some (.int .i64 x2) := rowN1 (HR1.out.below HV.out.bel hb1) X2.out
   have r3 : V.cell? ⟨b1, o1 + 3, none⟩ = some (.int .i64 x3) := rowN1 (HR1.out.below HV.out.bel hb1) X3.out
   have r4 : V.cell? ⟨b1, o1 + 4, none⟩ = some (.int .i64 x4) := rowN1 (HR1.out.below HV.out.bel hb1) X4.out
   have lb : b1 < V.heap.size := Nat.lt_of_lt_of_le hb1 HV.out.bel.size
   have HK := hid (keep_any ⟨x0, x1, x2, x3, 8, x4, false, false⟩ HV.out.drew1 (by omega))
   rw [← HRK.out] at HK
   unfold encKv at HK
   dsimp only at HK
   clear hbq g0 hbw hlt
   go_wp2_with fail
   have HALL := hid (show ∀ W, Below base.heap.size base W → (fun W => Below base.heap.size base W ∧ W.cell? ⟨b1, o1, none⟩ = some (.int .i64 x0) ∧ W.cell? ⟨b1, o1 + 1, none⟩ = some (.int .i64 x1) ∧ W.cell? ⟨b1, o1 + 2, none⟩ = some (.int .i64 x2) ∧ W.cell? ⟨b1, o1 + 3, none⟩ = some (.int .i64 x3) ∧ W.cell? ⟨b1, o1 + 4, none⟩ = some (.int .i64 x4)) W from fun W hb => ⟨hb, by have := rowN1 (HR1.out.below hb hb1) X0.out; simpa using this, rowN1 (HR1.out.below hb hb1) X1.out, rowN1 (HR1.out.below hb hb1) X2.out, rowN1 (HR1.out.below hb hb1) X3.out, rowN1 (HR1.out.below hb hb1) X4.out⟩)
   have HVD := hid (show Below base.heap.size base V.drew from HV.out.drew1.bel)
   go_region_held3 (fun W => Below base.heap.size base W ∧ W.cell? ⟨b1, o1, none⟩ = some (.int .i64 x0) ∧ W.cell? ⟨b1, o1 + 1, none⟩ = some (.int .i64 x1) ∧ W.cell? ⟨b1, o1 + 2, none⟩ = some (.int .i64 x2) ∧ W.cell? ⟨b1, o1 + 3, none⟩ = some (.int .i64 x3) ∧ W.cell? ⟨b1, o1 + 4, none⟩ = some (.int .i64 x4)) (first | exact HALL.out _ HVD.out | exact HALL.out _ HBEL.out) ((go_at_call 95; refine HK.out.mono ?_; rintro e y1 ⟨rfl, hbo, hkx⟩; have HBO := hid hbo; have HKX := hid hkx; have HBEL := hid (bo_bel hbo); clear hbo hkx))
   all_goals
    go_wp2
    go_end0
    exact ⟨rfl, HBO.out, ((KeepsX.below HBQ.out).drew1).trans HKX.out⟩
  ·obtain rfl : B = R := by rw [← HR.out, if_neg (by rintro ⟨_, p⟩; rw [HRR.out] at p; exact hneg p)]
   clear hbq
   go_wp2
   go_end0
   exact ⟨rfl, ⟨_, _, _, H.out.below HBQ.out⟩, KeepsX.below HBQ.out⟩
 ·obtain rfl : B = R := by rw [← HR.out, if_neg (by rintro ⟨p, _⟩; exact h0 p)]
  have d0 : decide (1 ≤ x0) = false := by simpa using h0
  have h0' : x0 < 1 := by omega
  clear h hs hop hr1 hx0 hx1 hx2 hx3 hx4 hR
  go_enter Tryz.func76, Tryz.ntmps76
  go_wp2_with fail
  go_quiet (fail)
  go_wp2
  go_end0
  exact ⟨rfl, ⟨_, _, _, H.out.drew _⟩, (KeepsX.refl _ _).drew _⟩
end
end Go.Proofs.YtgcajfglidflnaaGreatDoor

/- Deeds on one that is kept, deeds on a refresh: what wraps them. -/
namespace Go.Proofs.YtgcajfglidflnaaGreatDoor
open Go.RowKit Go.Shelf
attribute [-go_sem] loadVar
attribute [local go_sem] load_other
theorem run_store_func (P : Program) (w : World) (a : Addr) (m : Mode) (f : Fn) (x y : Array Value) : (store a (.func f x y) m).run P w = stored P w a (.func f x y) m := run_store P w a _ m rfl
attribute [local go_sem] run_store_func

/-- What is done with the Kept of an id, if there is one. -/
def keptB (B : BrainV) (D : Nat → KeptV → BrainV) (x0 : Int) : BrainV :=
 if idxL B.K (fun x => x.id == x0) < 0 then B else match B.K[(idxL B.K (fun x => x.id == x0)).toNat]? with
  | some x => D (idxL B.K (fun x => x.id == x0)).toNat x
  | none => B
section
variable {base : World} {b : Nat} {B : BrainV} {mv iv kv : Value} {W : World}
theorem deed_after {V : World} {R : BrainV} {e : Ending} {W' : World} (hb : Below W.heap.size W V) (h : DeedEnd base b V R e W') : DeedEnd base b W R e W' :=
 ⟨h.1, h.2.1, (KeepsX.below hb).trans h.2.2⟩
set_option maxRecDepth 100000 in
set_option maxHeartbeats 2000000 in
theorem kept1_any (fd : FuncId) (D : Nat → KeptV → BrainV) (p : Nat) (s : Value) (L : List Int) (hs : RowOf 1 encI base s L) (hL : 1 ≤ L.length) (h : BO base b B mv iv kv W) (hl : B.K.length ≤ 1000) (hp : W.cell? ⟨p, 0, none⟩ = some (.func (.func fd) #[] #[]))
  (hcf : ∀ args w, (callFunc fd args).run Tryz.prog w = .ok (.enter fd args) w)
  (hD : ∀ V (i : Nat) x, Below W.heap.size W V → B.K[i]? = some x → Calls Tryz.prog fd #[.pointer (some ⟨b, 0, none⟩), .int .i64 i, s] V fun e V' => DeedEnd base b V (D i x) e V') :
  Calls Tryz.prog 96 #[.pointer (some ⟨b, 0, none⟩), s, .pointer (some ⟨p, 0, none⟩)] W fun e W' => DeedEnd base b W (keptB B D (L.getD 0 0)) e W' := by
 obtain ⟨sa, sc, rfl, hs1, hs2, hs3, hop⟩ := hs.open
 obtain ⟨b1, o1, rfl, hb1, hr1⟩ := hop (by omega)
 obtain ⟨x0, hx0⟩ := get_lt (l := L) (k := 0) (by omega)
 have hbw : b1 < W.heap.size := Nat.lt_of_lt_of_le hb1 h.bel.size
 obtain ⟨n, hn⟩ : ∃ n, L.length = n := ⟨_, rfl⟩
 have hn0 : 0 < n := by omega
 rw [hn] at hD ⊢
 obtain ⟨R, hR⟩ : ∃ R, keptB B D (L.getD 0 0) = R := ⟨_, rfl⟩
 rw [hR]
 unfold keptB at hR
 rw [lint L 0 x0 hx0] at hR
 obtain ⟨r, hr⟩ : ∃ r, idxL B.K (fun x => x.id == x0) = r := ⟨_, rfl⟩
 rw [hr] at hR
 have HR := hid hR
 have g0 : W.cell? ⟨b1, o1, none⟩ = some (.int .i64 x0) := by have := rowN1 (hr1.below h.bel hb1) hx0; simpa using this
 have hlt := h.lt
 have hpl := lt_of_cell hp
 dsimp only at hpl
 have H := hid h
 have hf := fun V (hV : Below W.heap.size W V) => bfind_any (brT B.f B.g mv iv kv) iv kv (brT_bc _ _ _ _ _) B.K x0 V (Owns.row (h.below hV).rk encKp_len (by decide)) hl
 rw [hr] at hf
 have HF := hid hf
 have HRR := hid hr
 have HD := hid hD
 have HP := hid hp
 have kq := fun d os => cell_regrown g0 d os
 have kl := fun d os => (h.below (below_regrown W d os)).load
 have HCALL := hid (fun d os => Calls.regrown_of (d := d) (os := os) (w := W) (HF.out _ (below_regrown W d os)))
 clear h hs hop hr1 hx0 hR hf hr hD hp
 go_enter Tryz.func96, Tryz.ntmps96
 go_wp2_with fail
 refine wp_region_quiet_below (by kernel_rfl) (by kernel_rfl) ?_
 repeat (quiet_step (exact HCALL.out _ _))
 refine wpQuiet_nil ?_
 intro _ hw'
 obtain ⟨⟨dq, osq⟩, hw''⟩ := hw'
 subst hw''
 have hbq := below_regrown W dq osq
 obtain ⟨V, hV⟩ : ∃ V, V = Sort.grow (redrawn W dq) osq := ⟨_, rfl⟩
 rw [← hV] at hbq ⊢
 clear hV kq kl HCALL
 have HBQ := hid hbq
 have pV := cell_below HP.out hbq
 have lV := lt_of_cell pV
 dsimp only at lV
 by_cases hneg : r < 0
 ·obtain rfl : B = R := by rw [← HR.out, if_pos hneg]
  have dn : decide (0 ≤ r) = false := by simpa using hneg
  clear hbq
  go_wp2
  go_end0
  exact ⟨rfl, ⟨_, _, _, H.out.below HBQ.out⟩, KeepsX.below HBQ.out⟩
 ·obtain ⟨i, x, rfl, hix⟩ : ∃ (i : Nat) (x : KeptV), r = i ∧ B.K[i]? = some x := by
   rcases idxL_cases B.K (fun x => x.id == x0) with ⟨e, _⟩ | ⟨k, x, e, hk, _⟩
   ·rw [HRR.out] at e; omega
   ·rw [HRR.out] at e; exact ⟨k, x, e, hk⟩
  have HRX := hid (show R = D i x by rw [← HR.out, if_neg hneg]; simp [hix])
  have HDD := hid (HD.out V i x hbq hix)
  have dn : decide (0 ≤ (i : Int)) = true := by simp
  clear hbq hneg
  go_wp2_with fail
  refine HDD.out.mono ?_
  rintro e y1 hde
  obtain ⟨rfl, h2, h3⟩ := deed_after HBQ.out hde
  have H2 := hid h2
  have H3 := hid h3
  clear h2 h3 hde
  go_wp2
  go_end0
  rw [HRX.out]
  exact ⟨rfl, H2.out, H3.out⟩
/-- What is done with a refresh, if one is active. -/
def activeB (B R : BrainV) : BrainV := if B.f 20 = 1 then R else B
set_option maxRecDepth 100000 in
set_option maxHeartbeats 1000000 in
theorem active1_any (fd : FuncId) (R : BrainV) (p : Nat) (s : Value) (h : BO base b B mv iv kv W) (hp : W.cell? ⟨p, 0, none⟩ = some (.func (.func fd) #[] #[]))
  (hcf : ∀ args w, (callFunc fd args).run Tryz.prog w = .ok (.enter fd args) w)
  (hD : Calls Tryz.prog fd #[.pointer (some ⟨b, 0, none⟩), s] W fun e V' => DeedEnd base b W R e V') :
  Calls Tryz.prog 98 #[.pointer (some ⟨b, 0, none⟩), s, .pointer (some ⟨p, 0, none⟩)] W fun e W' => DeedEnd base b W (activeB B R) e W' := by
 have c20 := h.cell 20 (.int .u8 (B.f 20)) rfl
 have hlt := h.lt
 have hpl := lt_of_cell hp
 dsimp only at hpl
 have H := hid h
 have HD := hid hD
 clear h hD
 unfold activeB
 by_cases hq : B.f 20 = 1
 ·rw [if_pos hq]
  rw [hq] at c20
  go_enter Tryz.func98, Tryz.ntmps98
  go_wp2_with fail
  refine HD.out.mono ?_
  rintro e y1 ⟨rfl, h2, h3⟩
  have H2 := hid h2
  have H3 := hid h3
  clear h2 h3
  go_wp2
  go_end0
  exact ⟨rfl, H2.out, H3.out⟩
 ·rw [if_neg hq]
  have hst2 : (B.f 20 == 1) = false := by simpa using hq
  go_enter Tryz.func98, Tryz.ntmps98
  go_wp2
  go_end0
  exact ⟨rfl, ⟨_, _, _, H.out⟩, KeepsX.refl _ _⟩
end
/-- A deed's cells: how many numbers, what it does. -/
def deedV (n : Int) (fv : Value) : Value := .agg #[.int .i64 n, fv]
theorem res_deed {fn : Func} {tmps : Array Value} {r : Tmp} {b : Nat} {c0 c1 : Value} {W : World} (hres : fn.results = #[.cell r 127]) (h : tmps.getD r undef = .pointer (some ⟨b, 0, none⟩)) (hb : W.heap[b]? = some (.cells #[c0, c1] 127)) :
  (results fn tmps).run Tryz.prog W = .ok (.agg #[c0, c1]) W := by
 have k0 := blk_cell hb 0
 have k1 := blk_cell hb 1
 simp only [List.getElem?_toArray, List.getElem?_cons_succ, List.getElem?_cons_zero] at k0 k1
 rw [Array.getD_eq_getD_getElem?] at h
 simp [results, hres, go_sem, h, k0, k1]
set_option maxHeartbeats 1000000 in
theorem keptC_any (n : Int) (fd : FuncId) (W : World) : Calls Tryz.prog 77 #[.int .i64 n, .func (.func fd) #[] #[]] W fun e W' => e = .returned (deedV n (.func (.func 96) #[] #[.pointer (some ⟨W.heap.size, 0, none⟩)])) ∧ W'.cell? ⟨W.heap.size, 0, none⟩ = some (.func (.func fd) #[] #[]) ∧ Below W.heap.size W W' := by
 have hmf := mkfunc
 unfold deedV
 go_enter Tryz.func77, Tryz.ntmps77
 go_wp2
 refine bodyPost_ret (res_deed (b := W.heap.size + 1) rfl rfl (heap_new2 W _ _)) rfl ⟨rfl, ?_, ((Below.refl _ _).alloc (Nat.le_refl _) _).alloc (by simp) _⟩
 exact cell_below (blk_cell (heap_new W _) 0) ((Below.refl _ _).alloc (Nat.le_refl _) _)
set_option maxHeartbeats 1000000 in
theorem activeC_any (n : Int) (fd : FuncId) (W : World) : Calls Tryz.prog 85 #[.int .i64 n, .func (.func fd) #[] #[]] W fun e W' => e = .returned (deedV n (.func (.func 98) #[] #[.pointer (some ⟨W.heap.size, 0, none⟩)])) ∧ W'.cell? ⟨W.heap.size, 0, none⟩ = some (.func (.func fd) #[] #[]) ∧ Below W.heap.size W W' := by
 have hmf := mkfunc
 unfold deedV
 go_enter Tryz.func85, Tryz.ntmps85
 go_wp2
 refine bodyPost_ret (res_deed (b := W.heap.size + 1) rfl rfl (heap_new2 W _ _)) rfl ⟨rfl, ?_, ((Below.refl _ _).alloc (Nat.le_refl _) _).alloc (by simp) _⟩
 exact cell_below (blk_cell (heap_new W _) 0) ((Below.refl _ _).alloc (Nat.le_refl _) _)
end Go.Proofs.YtgcajfglidflnaaGreatDoor

/- The map of deeds. Printed by gn_deeds.py. -/
namespace Go.Proofs.YtgcajfglidflnaaGreatDoor
open Go.RowKit Go.Shelf

/-- A block is a map from kinds to deeds. -/
def DMap (w : World) (m : Nat) (ds : List (Int × Value)) : Prop :=
 ∃ es clock, w.heap[m]? = some (.map es clock) ∧ es.toList.map (fun e => (e.key, e.val)) = ds.map fun d => (Value.int .u8 d.1, d.2)
theorem DMap.lt {w : World} {m : Nat} {ds : List (Int × Value)} (h : DMap w m ds) : m < w.heap.size := by
 obtain ⟨es, cl, hb, _⟩ := h
 exact (Array.getElem?_eq_some_iff.1 hb).1
theorem DMap.below {w w' : World} {m B : Nat} {ds : List (Int × Value)} (h : DMap w m ds) (hb : Below B w w') (hm : m < B) : DMap w' m ds := by
 obtain ⟨es, cl, hq, h⟩ := h
 exact ⟨es, cl, (hb.block m hm).trans hq, h⟩
theorem findNow_run (k : Int) : ∀ (es : List MapEntry) (ds : List (Int × Value)) (i : Nat), es.map (fun e => (e.key, e.val)) = ds.map (fun d => (Value.int .u8 d.1, d.2)) →
  ∃ r, Instr.findNow (.int .u8) (.int .u8 k) es i = some r ∧ ((∃ j v, r = some (j, v) ∧ ds.lookup k = some v) ∨ r = none ∧ ds.lookup k = none)
 | [], ds, i, h => by
  have : ds = [] := by cases ds <;> simp_all
  subst this
  exact ⟨none, rfl, .inr ⟨rfl, rfl⟩⟩
 | e :: es, [], i, h => by simp at h
 | e :: es, d :: ds, i, h => by
  simp only [List.map_cons, List.cons.injEq, Prod.mk.injEq] at h
  obtain ⟨⟨h1, h2⟩, h3⟩ := h
  obtain ⟨r, hr, hs⟩ := findNow_run k es ds (i + 1) h3
  obtain ⟨d1, d2⟩ := d
  dsimp only at h1 h2
  by_cases hk : k = d1
  ·subst hk
   refine ⟨some (i, e.val), by simp [Instr.findNow, Instr.sameNow, h1], .inl ⟨i, e.val, rfl, by simp [List.lookup, h2]⟩⟩
  ·have hb : (k == d1) = false := by simpa using hk
   refine ⟨r, by simp [Instr.findNow, Instr.sameNow, h1, hb, hr], ?_⟩
   simpa only [List.lookup, hb] using hs
theorem keyOk8 (em : Bool) (k : Int) (w : World) : (Instr.checkKey em 10000 5 (.int .u8 k)).run Tryz.prog w = .ok () w := by
 have hu : Tryz.prog.underlying 5 = some (.int .u8) := by kernel_rfl
 rw [show (10000 : Nat) = 9999 + 1 from rfl, Instr.checkKey]
 simp only [Sem.run_bind, run_underlying hu, Result.andThen_ok]
 simp
theorem deed_map : Tryz.prog.underlying 129 = some (.map 5 127) := by kernel_rfl
theorem insert_run (k : Int) (v : Value) (w : World) (m : Nat) (ds : List (Int × Value)) (h : DMap w m ds) (hq : ds.lookup k = none) :
  ∃ w', (Instr.mapUpdate 129 (.map (some m)) (.int .u8 k) v).run Tryz.prog w = .ok () w' ∧ DMap w' m (ds ++ [(k, v)]) ∧ w.grownBy w' (some m) := by
 have hu : Tryz.prog.underlying 5 = some (.int .u8) := by kernel_rfl
 have hlt := h.lt
 obtain ⟨es, clock, hb, hk⟩ := h
 have hg : (getObj m).run Tryz.prog w = .ok (.map es clock) w := by simp [getObj, Sem.run, hb]
 obtain ⟨r, hr, hs⟩ := findNow_run k es.toList ds 0 hk
 rcases hs with ⟨j, v', _, h⟩ | ⟨rfl, _⟩
 ·rw [hq] at h; cases h
 refine ⟨{ w with heap := w.heap.setIfInBounds m (.map (es.push { key := .int .u8 k, val := v, born := clock }) (clock + 1)) }, ?_, ?_, ?_⟩
 ·simp only [Instr.mapUpdate, Sem.run_bind, run_underlying deed_map, Result.andThen_ok, hg, keyOk8, Instr.findKey, run_underlying hu, hr]
  simp [setObj, Sem.run, hb]
 ·exact ⟨es.push { key := .int .u8 k, val := v, born := clock }, clock + 1, by simp [hlt], by simp [hk]⟩
 ·exact ⟨rfl, rfl, rfl, by simp, fun i hi hne => by simp only [Array.getElem?_setIfInBounds]; rw [if_neg (fun e => hne (by rw [e]))]⟩
def zeroDeed : Value := .agg #[.int .i64 0, .nilFunc]
theorem look_run (k : Int) (w : World) (m : Nat) (ds : List (Int × Value)) (h : DMap w m ds) :
  (Instr.lookup 129 (.map (some m)) (.int .u8 k) true).run Tryz.prog w = .ok (.tuple #[(ds.lookup k).getD zeroDeed, .bool (ds.lookup k).isSome]) w := by
 have hu : Tryz.prog.underlying 5 = some (.int .u8) := by kernel_rfl
 have hz : ∀ w, (zeroValue 127).run Tryz.prog w = .ok zeroDeed w := fun w => by kernel_rfl
 obtain ⟨es, clock, hb, hk⟩ := h
 have hg : (getObj m).run Tryz.prog w = .ok (.map es clock) w := by simp [getObj, Sem.run, hb]
 obtain ⟨r, hr, hs⟩ := findNow_run k es.toList ds 0 hk
 simp only [Instr.lookup, Sem.run_bind, run_underlying deed_map, Result.andThen_ok, hg]
 simp only [Sem.run_pure, Result.andThen_ok, keyOk8, Instr.findKey, Sem.run_bind, run_underlying hu, hr]
 rcases hs with ⟨j, v, rfl, h⟩ | ⟨rfl, h⟩
 ·simp [h]
 ·simp [h, hz]

/-- The map as it is being laid: what was there lies as it lay; the boxes of what deeds do. -/
structure DInv (W : World) (m : Nat) (w : World) (ds : List (Int × Value)) (cs : List (Nat × FuncId)) : Prop where
 map : DMap w m ds
 hm : W.heap.size ≤ m
 bel : Below W.heap.size W w
 boxes : ∀ c ∈ cs, (W.heap.size ≤ c.1 ∧ c.1 ≠ m) ∧ w.cell? ⟨c.1, 0, none⟩ = some (.func (.func c.2) #[] #[])
theorem DInv.insert {W w w' : World} {m : Nat} {ds ds' : List (Int × Value)} {cs : List (Nat × FuncId)} (h : DInv W m w ds cs) (hd : DMap w' m ds') (hg : w.grownBy w' (some m)) : DInv W m w' ds' cs := by
 refine ⟨hd, h.hm, h.bel.grown hg h.bel.size (fun k e => by cases e; exact h.hm), fun c hc => ⟨(h.boxes c hc).1, ?_⟩⟩
 obtain ⟨h1, h2⟩ := h.boxes c hc
 have hl := lt_of_cell h2
 dsimp only at hl
 exact (World.cell?_of_block (w := w) (hg.block c.1 hl (by simpa using h1.2))).trans h2
theorem DInv.box {W w w' : World} {m : Nat} {ds : List (Int × Value)} {cs : List (Nat × FuncId)} {fd : FuncId} (h : DInv W m w ds cs) (hc : w'.cell? ⟨w.heap.size, 0, none⟩ = some (.func (.func fd) #[] #[])) (hb : Below w.heap.size w w') : DInv W m w' ds ((w.heap.size, fd) :: cs) := by
 refine ⟨h.map.below hb h.map.lt, h.hm, h.bel.trans (hb.mono h.bel.size), fun c hm => ?_⟩
 rcases List.mem_cons.1 hm with rfl | hm
 ·exact ⟨⟨h.bel.size, Nat.ne_of_gt h.map.lt⟩, hc⟩
 ·exact ⟨(h.boxes c hm).1, cell_below (h.boxes c hm).2 hb⟩
theorem DInv.made (W : World) : DInv W W.heap.size (W.alloc (.map #[] 0)) [] [] :=
 ⟨⟨#[], 0, by show (W.heap.push _)[W.heap.size]? = _; simp, rfl⟩, Nat.le_refl _, (Below.refl _ _).alloc (Nat.le_refl _) _, by simp⟩
theorem wpList_insert {W w : World} {ops : Array Oper} {rest : List Oper} {o : Oper} {a : Act} {Q : Exit → Act → World → Prop} {m : Nat} {ds : List (Int × Value)} {cs : List (Nat × FuncId)} (h : DInv W m w ds cs)
  (hg : o.guard = none) (x k v : Operand) (hop : o.op = Op.insert 129 x k v) (hx : a.eval x = .map (some m)) (kk : Int) (hk : a.eval k = .int .u8 kk) (hno : ds.lookup kk = none)
  (hK : ∀ w', DInv W m w' (ds ++ [(kk, a.eval v)]) cs → wpList Tryz.prog ops Q rest (a.put o.dst undef) w') : wpList Tryz.prog ops Q (o :: rest) a w := by
 refine wpList_plain hg fun K' hK' => ?_
 obtain ⟨w', hrun, r1, r2⟩ := insert_run kk (a.eval v) w m ds h.map hno
 unfold Oper.wp
 simp [execOp, hop, hx, hk, hrun, Result.andThen]
 exact hK' _ _ (hK w' (h.insert r1 r2))

set_option maxRecDepth 100000 in
set_option maxHeartbeats 2000000 in
theorem deeds_any (W : World) : Calls Tryz.prog 68 #[] W fun e W' => ∃ m p6 p7 p9 p10 p5 p12 p13 p14 p15 p16 : Nat, e = .returned (.map (some m)) ∧ DInv W m W' [(1, deedV 0 (.func (.func 73) #[] #[])), (3, deedV 3 (.func (.func 74) #[] #[])), (4, deedV 3 (.func (.func 75) #[] #[])), (8, deedV 5 (.func (.func 76) #[] #[])), (6, deedV 3 (.func (.func 96) #[] #[.pointer (some ⟨p6, 0, none⟩)])), (7, deedV 1 (.func (.func 96) #[] #[.pointer (some ⟨p7, 0, none⟩)])), (9, deedV 2 (.func (.func 96) #[] #[.pointer (some ⟨p9, 0, none⟩)])), (10, deedV 1 (.func (.func 96) #[] #[.pointer (some ⟨p10, 0, none⟩)])), (11, deedV 2 (.func (.func 84) #[] #[])), (5, deedV 1 (.func (.func 98) #[] #[.pointer (some ⟨p5, 0, none⟩)])), (12, deedV 0 (.func (.func 98) #[] #[.pointer (some ⟨p12, 0, none⟩)])), (13, deedV 0 (.func (.func 98) #[] #[.pointer (some ⟨p13, 0, none⟩)])), (14, deedV 1 (.func (.func 98) #[] #[.pointer (some ⟨p14, 0, none⟩)])), (15, deedV 0 (.func (.func 98) #[] #[.pointer (some ⟨p15, 0, none⟩)])), (16, deedV 0 (.func (.func 98) #[] #[.pointer (some ⟨p16, 0, none⟩)]))] [(p16, 91), (p15, 90), (p14, 89), (p13, 88), (p12, 87), (p5, 86), (p10, 83), (p9, 82), (p7, 80), (p6, 78)] := by
 have hmm := @run_makeMap Tryz.prog
 have HM := hid (DInv.made W)
 go_enter Tryz.func68, Tryz.ntmps68
 go_wp2_with (refine wpList_insert HM.out rfl _ _ _ rfl rfl 1 rfl rfl ?_)
 intro v1 hv
 have HM := hid hv
 clear hv
 go_wp2_with (refine wpList_insert HM.out rfl _ _ _ rfl rfl 3 rfl rfl ?_)
 intro v3 hv
 have HM := hid hv
 clear hv
 go_wp2_with (refine wpList_insert HM.out rfl _ _ _ rfl rfl 4 rfl rfl ?_)
 intro v4 hv
 have HM := hid hv
 clear hv
 go_wp2_with (refine wpList_insert HM.out rfl _ _ _ rfl rfl 8 rfl rfl ?_)
 intro v8 hv
 have HM := hid hv
 clear hv
 go_wp2_with fail
 refine (keptC_any 3 78 _).mono ?_
 rintro e y6 ⟨rfl, hc, hb⟩
 have HM := hid (HM.out.box hc hb)
 clear hc hb
 go_wp2_with (refine wpList_insert HM.out rfl _ _ _ rfl rfl 6 rfl rfl ?_)
 intro v6 hv
 have HM := hid hv
 clear hv
 go_wp2_with fail
 refine (keptC_any 1 80 _).mono ?_
 rintro e y7 ⟨rfl, hc, hb⟩
 have HM := hid (HM.out.box hc hb)
 clear hc hb
 go_wp2_with (refine wpList_insert HM.out rfl _ _ _ rfl rfl 7 rfl rfl ?_)
 intro v7 hv
 have HM := hid hv
 clear hv
 go_wp2_with fail
 refine (keptC_any 2 82 _).mono ?_
 rintro e y9 ⟨rfl, hc, hb⟩
 have HM := hid (HM.out.box hc hb)
 clear hc hb
 go_wp2_with (refine wpList_insert HM.out rfl _ _ _ rfl rfl 9 rfl rfl ?_)
 intro v9 hv
 have HM := hid hv
 clear hv
 go_wp2_with fail
 refine (keptC_any 1 83 _).mono ?_
 rintro e y10 ⟨rfl, hc, hb⟩
 have HM := hid (HM.out.box hc hb)
 clear hc hb
 go_wp2_with (refine wpList_insert HM.out rfl _ _ _ rfl rfl 10 rfl rfl ?_)
 intro v10 hv
 have HM := hid hv
 clear hv
 go_wp2_with (refine wpList_insert HM.out rfl _ _ _ rfl rfl 11 rfl rfl ?_)
 intro v11 hv
 have HM := hid hv
 clear hv
 go_wp2_with fail
 refine (activeC_any 1 86 _).mono ?_
 rintro e y5 ⟨rfl, hc, hb⟩
 have HM := hid (HM.out.box hc hb)
 clear hc hb
 go_wp2_with (refine wpList_insert HM.out rfl _ _ _ rfl rfl 5 rfl rfl ?_)
 intro v5 hv
 have HM := hid hv
 clear hv
 go_wp2_with fail
 refine (activeC_any 0 87 _).mono ?_
 rintro e y12 ⟨rfl, hc, hb⟩
 have HM := hid (HM.out.box hc hb)
 clear hc hb
 go_wp2_with (refine wpList_insert HM.out rfl _ _ _ rfl rfl 12 rfl rfl ?_)
 intro v12 hv
 have HM := hid hv
 clear hv
 go_wp2_with fail
 refine (activeC_any 0 88 _).mono ?_
 rintro e y13 ⟨rfl, hc, hb⟩
 have HM := hid (HM.out.box hc hb)
 clear hc hb
 go_wp2_with (refine wpList_insert HM.out rfl _ _ _ rfl rfl 13 rfl rfl ?_)
 intro v13 hv
 have HM := hid hv
 clear hv
 go_wp2_with fail
 refine (activeC_any 1 89 _).mono ?_
 rintro e y14 ⟨rfl, hc, hb⟩
 have HM := hid (HM.out.box hc hb)
 clear hc hb
 go_wp2_with (refine wpList_insert HM.out rfl _ _ _ rfl rfl 14 rfl rfl ?_)
 intro v14 hv
 have HM := hid hv
 clear hv
 go_wp2_with fail
 refine (activeC_any 0 90 _).mono ?_
 rintro e y15 ⟨rfl, hc, hb⟩
 have HM := hid (HM.out.box hc hb)
 clear hc hb
 go_wp2_with (refine wpList_insert HM.out rfl _ _ _ rfl rfl 15 rfl rfl ?_)
 intro v15 hv
 have HM := hid hv
 clear hv
 go_wp2_with fail
 refine (activeC_any 0 91 _).mono ?_
 rintro e y16 ⟨rfl, hc, hb⟩
 have HM := hid (HM.out.box hc hb)
 clear hc hb
 go_wp2_with (refine wpList_insert HM.out rfl _ _ _ rfl rfl 16 rfl rfl ?_)
 intro v16 hv
 have HM := hid hv
 clear hv
 go_wp2
 go_ret
 exact ⟨W.heap.size, _, _, _, _, _, _, _, _, _, _, rfl, HM.out⟩
end Go.Proofs.YtgcajfglidflnaaGreatDoor

/- A group's row that is taken in. -/
namespace Go.Proofs.YtgcajfglidflnaaGreatDoor
open Go.RowKit Go.Shelf
attribute [-go_sem] loadVar storeVar
attribute [local go_sem] load_other2 store_other2

def groupF (B : BrainV) (L : List Int) : Nat → Int := fun i => if 3 ≤ i ∧ i < 16 then (if i = 15 ∧ B.g 2 = true then B.f 15 else ofF L (i - 3)) else B.f i
def groupB (B : BrainV) (L : List Int) : BrainV :=
 if ofB L = true then { f := groupF B L, g := upd (upd B.g 16 (ofG L)) 2 true, M := L.drop 14, I := B.I, K := B.K } else B
section
variable {base : World} {b : Nat} {B : BrainV} {mv iv kv : Value} {W : World}
theorem KeepsX.row {V U : World} {c : Array Value} {t : TypeId} (h : KeepsX b W V) (hg : V.grownBy U (some b)) (hc : V.heap[b]? = some (.cells c t)) : KeepsX b W U := by
 refine h.trans ⟨hg.size, fun k c' t' hk h1 _ _ => blk_grown hk hg (by simpa using h1), ⟨hg.size, fun k o hk ho => ?_⟩⟩
 refine (hg.block k (Array.getElem?_eq_some_iff.1 hk).1 (fun e => ?_)).trans hk
 cases e
 rw [hc] at hk
 cases hk
 cases ho
/-- Cells of a block, written one behind the other. -/
def setL : Array Value → Nat → List Value → Array Value
 | cur, _, [] => cur
 | cur, o, v :: r => setL (cur.setIfInBounds o v) (o + 1) r
theorem setCells_heap (b : Nat) : ∀ (vs : List Value) (o : Nat) (w : World) (cur : Array Value) (t : TypeId), w.heap[b]? = some (.cells cur t) → (w.setCells b o vs).heap[b]? = some (.cells (setL cur o vs) t)
 | [], _, _, _, _, h => h
 | v :: r, o, w, cur, t, h => by
  rw [World.setCells]
  exact setCells_heap b r (o + 1) _ _ t (blk_set h o v)
theorem setL_brT (F : Nat → Int) (G : Nat → Bool) (f : Nat → Int) (g : Bool) (m0 m iv kv : Value) : setL (brT F G m0 iv kv) 3 (confA f g m).toList = brT (fun i => if 3 ≤ i ∧ i < 16 then f (i - 3) else F i) (upd G 16 g) m iv kv := by kernel_rfl
/-- A brain whose group is another one. -/
theorem BO.setConf (h : BO base b B mv iv kv W) (f : Nat → Int) (g : Bool) {m : Value} {M : List Int} (ho : OwnI W base.heap.size m M) :
  BO base b { f := fun i => if 3 ≤ i ∧ i < 16 then f (i - 3) else B.f i, g := upd (upd B.g 16 g) 2 true, M := M, I := B.I, K := B.K } m iv kv ((W.setCells b 3 (confA f g m).toList).setCell ⟨b, 2, none⟩ (.bool true)) := by
 have hg1 := setCells_grown b 3 (confA f g m).toList W
 have hbb : (W.setCells b 3 (confA f g m).toList).heap[b]? = some (.cells (brT (fun i => if 3 ≤ i ∧ i < 16 then f (i - 3) else B.f i) (upd B.g 16 g) m iv kv) 33) := by
  rw [setCells_heap b _ 3 W _ _ h.box, setL_brT]
 have hb2 : BB ((W.setCells b 3 (confA f g m).toList).setCell ⟨b, 2, none⟩ (.bool true)) b (brT (fun i => if 3 ≤ i ∧ i < 16 then f (i - 3) else B.f i) (upd (upd B.g 16 g) 2 true) m iv kv) := blk_set hbb 2 _
 have ne : ∀ {α : Type} {k : Nat} {e : TypeId} {enc : α → List Value} {v : Value} {l : List α}, Owns k e enc W base.heap.size v l → e ≠ 33 → v.ownBlock = none ∨ v.ownBlock ≠ some b := fun {α k e enc v l} ho hne => by
  rcases Owns.form ho with ⟨rfl, _⟩ | ⟨gi, ci, rfl, _, _⟩
  ·exact .inl rfl
  ·refine .inr fun e' => ?_
   obtain ⟨c, hc⟩ := Owns.typed ho b e'
   have := h.box
   unfold BB at this
   rw [this] at hc
   cases hc
   exact hne rfl
 refine ⟨hb2, h.hb, ?_, ?_, ?_, ?_⟩
 ·exact (owns_at (World.ownsRow.kept ho hg1 (ne ho (by decide))) hbb (by decide) 2 _).trow encI_len (by decide)
 ·exact owns_at (World.ownsRow.kept h.ri hg1 (ne h.ri (by decide))) hbb (by decide) 2 _
 ·exact owns_at (World.ownsRow.kept h.rk hg1 (ne h.rk (by decide))) hbb (by decide) 2 _
 ·exact (h.bel.grown hg1 h.bel.size (fun k e => by cases e; exact h.hb)).setCell (p := ⟨b, 2, none⟩) h.hb _
theorem there_brT {V : World} {F : Nat → Int} {G : Nat → Bool} {m0 iv kv : Value} (h : BB V b (brT F G m0 iv kv)) (f : Nat → Int) (g : Bool) (m : Value) : V.there b 3 (confA f g m).size := by
 intro j hj
 have hj : j < 15 := hj
 refine ⟨?_, blk_free h _⟩
 rw [blk_cell h]
 rw [Array.getElem?_eq_getElem (show 3 + j < (brT F G m0 iv kv).size by show 3 + j < 27; omega)]
 rfl
set_option maxRecDepth 100000 in
set_option maxHeartbeats 4000000 in
theorem group_any (s : Value) (L : List Int) (hs : RowOf 1 encI base s L) (hlen : L.length ≤ 100000) (hLm : Limits base) (h : BO base b B mv iv kv W) :
  Calls Tryz.prog 71 #[.pointer (some ⟨b, 0, none⟩), s] W fun e W' => DeedEnd base b W (groupB B L) e W' := by
 have HC := hid (cof_any s L W (hs.below h.bel) hlen (hLm.below h.bel))
 have H := hid h
 obtain ⟨sa, sc, rfl, hs1, hs2, hs3, hop⟩ := hs.open
 clear h hs hop
 obtain ⟨R, hR⟩ : ∃ R, groupB B L = R := ⟨_, rfl⟩
 rw [hR]
 have HR := hid hR
 clear hR
 go_enter Tryz.func71, Tryz.ntmps71
 go_wp2_with fail
 refine HC.out.mono ?_
 rintro e w1 ⟨hb1, hend⟩
 have H1 := hid (H.out.below hb1)
 have HB1 := hid hb1
 have lw := H1.out.lt
 have hz := hb1.size
 rcases hend with ⟨hok, m, rfl, hom⟩ | ⟨hno, f, g, ma, mn, mc, rfl⟩
 ·have HRX := hid (show R = { f := groupF B L, g := upd (upd B.g 16 (ofG L)) 2 true, M := L.drop 14, I := B.I, K := B.K } by rw [← HR.out]; unfold groupB; rw [if_pos hok])
  have HOM := hid (hom.mono (show base.heap.size ≤ W.heap.size from H.out.bel.size))
  obtain ⟨ma, mn, mc, hm⟩ := Owns.shape hom
  subst hm
  obtain ⟨T, hT⟩ : ∃ T, T = w1.alloc (.cells #[.int .i64 0, .int .i64 0, .int .i64 0, .int .i64 0, .int .i64 0, .int .i64 0, .int .i64 0, .int .i64 0, .int .i64 0, .int .i64 0, .int .i64 0, .int .i64 0, .int .i64 0, .bool false, .slice none 0 0] 27) := ⟨_, rfl⟩
  have nT : T.heap[w1.heap.size]? = some (.cells #[.int .i64 0, .int .i64 0, .int .i64 0, .int .i64 0, .int .i64 0, .int .i64 0, .int .i64 0, .int .i64 0, .int .i64 0, .int .i64 0, .int .i64 0, .int .i64 0, .int .i64 0, .bool false, .slice none 0 0] 27) := by rw [hT]; exact heap_new _ _
  have hbT : Below w1.heap.size w1 T := by rw [hT]; exact (Below.refl _ _).alloc (Nat.le_refl _) _
  obtain ⟨V, hV⟩ : ∃ V, V = T.setRow w1.heap.size (confA (ofF L) (ofG L) (.slice ma mn mc)) := ⟨_, rfl⟩
  have hst : (storeVar 27 ⟨w1.heap.size, 0, none⟩ (.agg (confA (ofF L) (ofG L) (.slice ma mn mc)))).run Tryz.prog T = .ok () V := by
   rw [hV, run_storeVar_row T w1.heap.size 27 27 _ (confA (ofF L) (ofG L) (.slice ma mn mc)) nT (conf_size _ _ _) rfl (by simp [confA, Value.oneCell'])]
  have nV : V.heap[w1.heap.size]? = some (.cells (confA (ofF L) (ofG L) (.slice ma mn mc)) 27) := by rw [hV]; exact setRow_heap T w1.heap.size _ _ _ _ nT
  have hbV : Below w1.heap.size w1 V := by rw [hV]; exact below_setRow hbT (Nat.le_refl _) _
  have HV := hid (H1.out.below hbV)
  have HOV := hid (HOM.out.below hbV)
  have HBV := hid (HB1.out.trans (hbV.mono hz))
  have NV := hid nV
  have hne : b ≠ w1.heap.size := Nat.ne_of_lt lw
  rw [hT] at hst
  have c2 := HV.out.cell 2 (.bool (B.g 2)) rfl
  have c15 := HV.out.cell 15 (.int .i64 (B.f 15)) rfl
  have lV := HV.out.lt
  have nlV : w1.heap.size < V.heap.size := blk_lt nV
  have d12 := blk_cell nV 12
  have e12 := blk_free nV 12
  have hld := load_conf nV
  have hz0 : ((0 : Int) == 0) = true := rfl
  clear hom hT nT hbT hV hbV nV hb1
  cases hg2 : B.g 2 with
  | true =>
   rw [hg2] at c2
   obtain ⟨V2, hV2⟩ : ∃ V2, V2 = V.setCell ⟨w1.heap.size, 12, none⟩ (.int .i64 (B.f 15)) := ⟨_, rfl⟩
   have hb2 : Below w1.heap.size V V2 := by rw [hV2]; exact (Below.refl _ _).setCell (p := ⟨w1.heap.size, 12, none⟩) (Nat.le_refl _) _
   have n2 : V2.heap[w1.heap.size]? = some (.cells (confA (upd (ofF L) 12 (B.f 15)) (ofG L) (.slice ma mn mc)) 27) := by
    rw [hV2, ← confA_set _ _ _ 12 (by decide)]
    exact blk_set NV.out 12 _
   have H2 := hid (show BO base b B mv iv kv V2 by
    have hb3 := blk_other HV.out.box (p := ⟨w1.heap.size, 12, none⟩) hne (.int .i64 (B.f 15))
    rw [← hV2] at hb3
    have hkt : KeptT 3 V V2 := by rw [hV2]; exact KeptT.set (p := ⟨w1.heap.size, 12, none⟩) NV.out (by decide) _
    exact ⟨hb3, HV.out.hb, HV.out.rm.kept hkt, by rw [hV2]; exact owns_at HV.out.ri NV.out (by decide) 12 _, by rw [hV2]; exact owns_at HV.out.rk NV.out (by decide) 12 _, HV.out.bel.trans (hb2.mono (Nat.le_trans H1.out.bel.size (Nat.le_refl _)))⟩)
   have hld2 := load_conf n2
   have hst2 : (storeVar 27 ⟨b, 3, none⟩ (.agg (confA (upd (ofF L) 12 (B.f 15)) (ofG L) (.slice ma mn mc)))).run Tryz.prog V2 = .ok () (V2.setCells b 3 (confA (upd (ofF L) 12 (B.f 15)) (ofG L) (.slice ma mn mc)).toList) := run_storeVar_mid V2 b 3 27 _ (there_brT H2.out.box _ _ _) (conf_size _ _ _) (by simp [confA, Value.oneCell'])
   have HO2 := hid (show OwnI V2 base.heap.size (.slice ma mn mc) (L.drop 14) by rw [hV2]; exact owns_at HOV.out NV.out (by decide) 12 _)
   have HF := hid (H2.out.setConf (upd (ofF L) 12 (B.f 15)) (ofG L) HO2.out)
   have HB2 := hid (HBV.out.trans (hb2.mono hz))
   have h2 := H2.out.cell 2 (.bool true) (by rw [← hg2]; rfl)
   have l2 := H2.out.lt
   have nl2 : w1.heap.size < V2.heap.size := blk_lt n2
   obtain ⟨U, hU⟩ : ∃ U, U = V2.setCells b 3 (confA (upd (ofF L) 12 (B.f 15)) (ofG L) (.slice ma mn mc)).toList := ⟨_, rfl⟩
   rw [← hU] at hst2 HF
   have u2 : U.cell? ⟨b, 2, none⟩ = some (.bool true) := by rw [hU, World.cell?_setCells_out _ _ _ _ _ (fun _ _ => .inl (show 2 < 3 by decide))]; exact h2
   have v2 : U.frozen? ⟨b, 2, none⟩ = false := by rw [hU, World.frozen?_setCells]; exact H2.out.free 2
   have HU := hid hU
   have HV2 := hid hV2
   clear hU hld n2 hb2
   rw [hV2] at hld2 hst2 h2
   clear hV2
   go_wp2
   go_end0
   rw [HRX.out]
   have hgf : groupF B L = fun i => if 3 ≤ i ∧ i < 16 then upd (ofF L) 12 (B.f 15) (i - 3) else B.f i := by
    funext i
    unfold groupF upd
    rw [hg2]
    by_cases hi : i = 15
    ·subst hi; simp
    ·have : ¬ i - 3 = 12 ∨ ¬ (3 ≤ i ∧ i < 16) := by omega
     by_cases h3 : 3 ≤ i ∧ i < 16
     ·have h12 : ¬ i - 3 = 12 := by omega
      simp [h3, hi, h12]
     ·simp [h3]
   rw [hgf]
   refine ⟨rfl, ⟨_, _, _, HF.out⟩, ?_⟩
   have hk := (KeepsX.below HB2.out).row (by have := setCells_grown b 3 (confA (upd (ofF L) 12 (B.f 15)) (ofG L) (.slice ma mn mc)).toList V2; rw [← HU.out] at this; exact this) H2.out.box
   exact hk.set 2 _
  | false =>
   rw [hg2] at c2
   have hst2 : (storeVar 27 ⟨b, 3, none⟩ (.agg (confA (ofF L) (ofG L) (.slice ma mn mc)))).run Tryz.prog V = .ok () (V.setCells b 3 (confA (ofF L) (ofG L) (.slice ma mn mc)).toList) := run_storeVar_mid V b 3 27 _ (there_brT HV.out.box _ _ _) (conf_size _ _ _) (by simp [confA, Value.oneCell'])
   have HF := hid (HV.out.setConf (ofF L) (ofG L) HOV.out)
   obtain ⟨U, hU⟩ : ∃ U, U = V.setCells b 3 (confA (ofF L) (ofG L) (.slice ma mn mc)).toList := ⟨_, rfl⟩
   rw [← hU] at hst2 HF
   have u2 : U.cell? ⟨b, 2, none⟩ = some (.bool false) := by rw [hU, World.cell?_setCells_out _ _ _ _ _ (fun _ _ => .inl (show 2 < 3 by decide))]; exact c2
   have v2 : U.frozen? ⟨b, 2, none⟩ = false := by rw [hU, World.frozen?_setCells]; exact HV.out.free 2
   have HU := hid hU
   clear hU
   go_wp2
   go_end0
   rw [HRX.out]
   have hgf : groupF B L = fun i => if 3 ≤ i ∧ i < 16 then ofF L (i - 3) else B.f i := by funext i; unfold groupF; rw [hg2]; simp
   rw [hgf]
   refine ⟨rfl, ⟨_, _, _, HF.out⟩, ?_⟩
   have hk := (KeepsX.below HBV.out).row (by have := setCells_grown b 3 (confA (ofF L) (ofG L) (.slice ma mn mc)).toList V; rw [← HU.out] at this; exact this) HV.out.box
   exact hk.set 2 _
 ·obtain rfl : B = R := by rw [← HR.out]; unfold groupB; rw [if_neg (by simp [hno])]
  obtain ⟨T, hT⟩ : ∃ T, T = w1.alloc (.cells #[.int .i64 0, .int .i64 0, .int .i64 0, .int .i64 0, .int .i64 0, .int .i64 0, .int .i64 0, .int .i64 0, .int .i64 0, .int .i64 0, .int .i64 0, .int .i64 0, .int .i64 0, .bool false, .slice none 0 0] 27) := ⟨_, rfl⟩
  have nT : T.heap[w1.heap.size]? = some (.cells #[.int .i64 0, .int .i64 0, .int .i64 0, .int .i64 0, .int .i64 0, .int .i64 0, .int .i64 0, .int .i64 0, .int .i64 0, .int .i64 0, .int .i64 0, .int .i64 0, .int .i64 0, .bool false, .slice none 0 0] 27) := by rw [hT]; exact heap_new _ _
  have hbT : Below w1.heap.size w1 T := by rw [hT]; exact (Below.refl _ _).alloc (Nat.le_refl _) _
  obtain ⟨V, hV⟩ : ∃ V, V = T.setRow w1.heap.size (confA f g (.slice ma mn mc)) := ⟨_, rfl⟩
  have hst : (storeVar 27 ⟨w1.heap.size, 0, none⟩ (.agg (confA f g (.slice ma mn mc)))).run Tryz.prog T = .ok () V := by
   rw [hV, run_storeVar_row T w1.heap.size 27 27 _ (confA f g (.slice ma mn mc)) nT (conf_size _ _ _) rfl (by simp [confA, Value.oneCell'])]
  have hbV : Below w1.heap.size w1 V := by rw [hV]; exact below_setRow hbT (Nat.le_refl _) _
  have HV := hid (H1.out.below hbV)
  have HBV := hid (HB1.out.trans (hbV.mono hz))
  rw [hT] at hst
  clear hb1 hV hbT hbV nT hT
  go_wp2
  go_end0
  exact ⟨rfl, ⟨_, _, _, HV.out⟩, KeepsX.below HBV.out⟩
end
end Go.Proofs.YtgcajfglidflnaaGreatDoor
