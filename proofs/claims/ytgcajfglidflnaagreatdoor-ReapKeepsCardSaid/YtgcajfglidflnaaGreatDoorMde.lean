/- brain.made, walked. Printed by gn_made.py. -/
import Derived.Test.YtgcajfglidflnaaGreatDoorDfm
import Derived.Test.YtgcajfglidflnaaGreatDoorCut
import Derived.Deep.RegionHeld3
namespace Go.Proofs.YtgcajfglidflnaaGreatDoor
open Go.RowKit Go.Shelf
attribute [-go_sem] loadVar
attribute [local go_sem] load_other

def madeX (B : BrainV) (i : Nat) (x : IntentV) (id since : Int) : BrainV :=
 if B.f 20 = 1 then { keepB { B with I := B.I.eraseIdx i } ⟨id, x.token, x.version, x.zone, if x.warm then 9 else 1, since, false, false⟩ with f := upd B.f 26 0 }
 else keepB { B with I := B.I.eraseIdx i } ⟨id, x.token, x.version, x.zone, if x.warm then 9 else 1, since, false, false⟩
def madeB (B : BrainV) (L : List Int) : BrainV :=
 if idxL B.I (fun x => x.token == L.getD 0 0) < 0 ∨ L.getD 1 0 < 1 ∨ 0 ≤ idxL B.K (fun x => x.id == L.getD 1 0) then B
 else match B.I[(idxL B.I (fun x => x.token == L.getD 0 0)).toNat]? with
  | none => B
  | some x => madeX B (idxL B.I (fun x => x.token == L.getD 0 0)).toNat x (L.getD 1 0) (L.getD 2 0)
section
variable {base : World} {b : Nat} {B : BrainV} {mv iv kv : Value} {W : World}
theorem BO.iopen (h : BO base b B mv iv kv W) {i : Nat} {x : IntentV} (hx : B.I[i]? = some x) : ∃ g c, iv = .slice (some ⟨g, 0, none⟩) B.I.length c ∧ g < W.heap.size ∧ RowAt 4 encIn W g 0 B.I ∧ B.I.length ≤ 9223372036854775807 := by
 have hlt := lt_get hx
 have hr := Owns.row h.ri encIn_len (by decide)
 rcases Owns.form h.ri with ⟨rfl, h0⟩ | ⟨g, c, rfl, hg, hl⟩
 ·rw [h0] at hlt; simp at hlt
 ·obtain ⟨a, c', e, h1, h2, h3, hop⟩ := hr.open
  cases e
  obtain ⟨b1, o1, e, hb1, hr1⟩ := hop (by omega)
  cases e
  exact ⟨g, c, rfl, hb1, hr1, by omega⟩
set_option maxRecDepth 100000 in
set_option maxHeartbeats 4000000 in
theorem made_any (s : Value) (L : List Int) (hs : RowOf 1 encI base s L) (hL : L.length = 3) (h : BO base b B mv iv kv W) (hlI : B.I.length ≤ 1000) (hl : B.K.length ≤ 1000) : Calls Tryz.prog 75 #[.pointer (some ⟨b, 0, none⟩), s] W fun e W' => DeedEnd base b W (madeB B L) e W' := by
 obtain ⟨sa, sc, rfl, hs1, hs2, hs3, hop⟩ := hs.open
 obtain ⟨b1, o1, rfl, hb1, hr1⟩ := hop (by omega)
 obtain ⟨x0, hx0⟩ := get_lt (l := L) (k := 0) (by omega)
 obtain ⟨x1, hx1⟩ := get_lt (l := L) (k := 1) (by omega)
 obtain ⟨x2, hx2⟩ := get_lt (l := L) (k := 2) (by omega)
 have hbw : b1 < W.heap.size := Nat.lt_of_lt_of_le hb1 h.bel.size
 have hLI : (L.length : Int) = 3 := by omega
 obtain ⟨R, hR⟩ : ∃ R, madeB B L = R := ⟨_, rfl⟩
 rw [hR]
 unfold madeB at hR
 rw [lint L 0 x0 hx0, lint L 1 x1 hx1, lint L 2 x2 hx2] at hR
 obtain ⟨r, hr⟩ : ∃ r, idxL B.I (fun x => x.token == x0) = r := ⟨_, rfl⟩
 obtain ⟨r2, hr2⟩ : ∃ r, idxL B.K (fun x => x.id == x1) = r := ⟨_, rfl⟩
 rw [hr, hr2] at hR
 have HR := hid hR
 have g0 : W.cell? ⟨b1, o1, none⟩ = some (.int .i64 x0) := by have := rowN1 (hr1.below h.bel hb1) hx0; simpa using this
 have hlt := h.lt
 have H := hid h
 have HR1 := hid hr1
 have X1 := hid hx1
 have X2 := hid hx2
 have hf := fun V (hV : Below W.heap.size W V) => btoken_any (brT B.f B.g mv iv kv) iv kv (brT_bc _ _ _ _ _) B.I x0 V (Owns.row (h.below hV).ri encIn_len (by decide)) hlI
 rw [hr] at hf
 have hf2 := fun V (hV : Below W.heap.size W V) => bfind_any (brT B.f B.g mv iv kv) iv kv (brT_bc _ _ _ _ _) B.K x1 V (Owns.row (h.below hV).rk encKp_len (by decide)) hl
 rw [hr2] at hf2
 have HF := hid hf
 have HF2 := hid hf2
 have HRR := hid hr
 have kq := fun d os => cell_regrown g0 d os
 have kl := fun d os => (h.below (below_regrown W d os)).load
 have HCALL := hid (fun d os => Calls.regrown_of (d := d) (os := os) (w := W) (HF.out _ (below_regrown W d os)))
 clear h hs hop hr1 hx0 hx1 hx2 hR hf hf2 hr hr2
 go_enter Tryz.func75, Tryz.ntmps75
 go_wp2_with fail
 refine wp_region_quiet_below (by kernel_rfl) (by kernel_rfl) ?_
 repeat (quiet_step (exact HCALL.out _ _))
 refine wpQuiet_nil ?_
 intro _ hw'
 obtain ⟨⟨dq, osq⟩, hw''⟩ := hw'
 subst hw''
 have hbq := below_regrown W dq osq
 obtain ⟨V, hV⟩ : ∃ V, V = Sort.grow (redrawn W dq) osq := ⟨_, rfl⟩
 rw [← hV] at hbq ⊢
 clear hV kq kl HCALL g0
 have HBQ := hid hbq
 have HV := hid (H.out.below hbq)
 have v1 : V.cell? ⟨b1, o1 + 1, none⟩ = some (.int .i64 x1) := rowN1 (HR1.out.below HV.out.bel hb1) X1.out
 have lb : b1 < V.heap.size := Nat.lt_of_lt_of_le hb1 HV.out.bel.size
 have lV := HV.out.lt
 clear hbq hlt hbw
 by_cases hneg : r < 0
 ·obtain rfl : B = R := by rw [← HR.out, if_pos (.inl hneg)]
  go_wp2_with fail
  go_quiet (fail)
  go_wp2
  go_end0
  exact ⟨rfl, ⟨_, _, _, HV.out.drew _⟩, (KeepsX.below HBQ.out).drew _⟩
 have hnn : 0 ≤ r := by omega
 by_cases h1 : x1 < 1
 ·obtain rfl : B = R := by rw [← HR.out, if_pos (.inr (.inl h1))]
  have dn : decide (r < 0) = false := by simpa using hnn
  have d1 : decide (x1 < 1) = true := by simpa using h1
  clear h1 hneg hnn
  go_wp2_with fail
  go_quiet (fail)
  go_wp2
  go_end0
  exact ⟨rfl, ⟨_, _, _, HV.out.drew _⟩, (KeepsX.below HBQ.out).drew _⟩
 have h1n : 1 ≤ x1 := by omega
 have kq := fun d os => cell_regrown v1 d os
 have kl := fun d os => (HV.out.below (below_regrown V d os)).load
 have HCALL := hid (fun d os => Calls.regrown_of (d := d) (os := os) (w := V) (HF2.out _ (HBQ.out.trans ((below_regrown V d os).mono HBQ.out.size))))
 go_wp2_with fail
 refine wp_region_quiet_below (by kernel_rfl) (by kernel_rfl) ?_
 repeat (quiet_step (exact HCALL.out _ _))
 refine wpQuiet_nil ?_
 intro _ hw'
 obtain ⟨⟨dq2, osq2⟩, hw''⟩ := hw'
 subst hw''
 have hbq := below_regrown V dq2 osq2
 obtain ⟨U, hU⟩ : ∃ U, U = Sort.grow (redrawn V dq2) osq2 := ⟨_, rfl⟩
 rw [← hU] at hbq ⊢
 clear hU kq kl HCALL v1
 have HBU := hid (HBQ.out.trans (hbq.mono HBQ.out.size))
 have HU := hid (HV.out.below hbq)
 clear hbq lb lV
 by_cases hneg2 : 0 ≤ r2
 ·obtain rfl : B = R := by rw [← HR.out, if_pos (.inr (.inr hneg2))]
  go_wp2
  go_end0
  exact ⟨rfl, ⟨_, _, _, HU.out⟩, KeepsX.below HBU.out⟩
 have hn2 : r2 < 0 := by omega
 have lU := HU.out.lt
 obtain ⟨i, x, rfl, hix⟩ : ∃ (i : Nat) (x : IntentV), r = i ∧ B.I[i]? = some x := by
  rcases idxL_cases B.I (fun x => x.token == x0) with ⟨e, _⟩ | ⟨k, x, e, hk, _⟩
  ·rw [HRR.out] at e; omega
  ·rw [HRR.out] at e; exact ⟨k, x, e, hk⟩
 have HRX := hid (show R = madeX B i x x1 x2 by rw [← HR.out, if_neg (by omega)]; simp [hix])
 obtain ⟨g, c, rfl, hg, hra, hIl⟩ := HU.out.iopen hix
 have u18 := HU.out.cell 18 (.slice (some ⟨g, 0, none⟩) B.I.length c) rfl
 obtain ⟨k0, k1, k2, k3⟩ := rowI hra hix
 simp only [Nat.zero_add] at k0 k1 k2 k3
 obtain ⟨wm, hwm⟩ : ∃ wm, x.warm = wm := ⟨_, rfl⟩
 rw [hwm] at k3
 have hil := lt_get hix
 have hiL : (i : Int) < (B.I.length : Int) := by omega
 obtain ⟨T, hT⟩ : ∃ T, T = U.alloc (.cells #[.int .i64 x.token, .int .i64 x.version, .int .i64 x.zone, .bool wm] 54) := ⟨_, rfl⟩
 have hbT : Below U.heap.size U T := by rw [hT]; exact (Below.refl _ _).alloc (Nat.le_refl _) _
 have HT := hid (HU.out.below hbT)
 have nT : T.heap[U.heap.size]? = some (.cells #[.int .i64 x.token, .int .i64 x.version, .int .i64 x.zone, .bool wm] 54) := by rw [hT]; exact heap_new U _
 have hne : U.heap.size ≠ g := Nat.ne_of_gt hg
 have hneb : U.heap.size ≠ b := Nat.ne_of_gt lU
 have HD := hid (deleteIn_any g c base.heap.size i B.I T HT.out.ri hil (by omega) (fun x _ => encIn_one x))
 have t18 := HT.out.cell 18 (.slice (some ⟨g, 0, none⟩) B.I.length c) rfl
 have lT := HT.out.lt
 have f18 := HT.out.free 18
 have w3 := blk_cell nT 3
 simp only [List.getElem?_toArray, List.getElem?_cons_succ, List.getElem?_cons_zero] at w3
 have NT := hid nT
 have HBT := hid (HBU.out.trans (hbT.mono HBU.out.size))
 have HTT := hid hT
 rw [hT] at t18 lT f18 w3
 have HLI := hid hlI
 have HLK := hid hl
 have HIX := hid hix
 clear hbT nT hra hT
 have HWM := hid hwm
 clear hwm
 cases wm
 ·go_wp2_with fail
  rw [← HTT.out]
  refine HD.out.mono ?_
  rintro e T1 ⟨rfl, hown', hg'⟩
  have HO := hid hown'
  have HG := hid hg'
  have hbx := blk_grown HT.out.box hg' (fun e' => by obtain ⟨c', hc'⟩ := Owns.typed HT.out.ri b e'.symm; have := HT.out.box; unfold BB at this; rw [hc'] at this; cases this)
  have d18 : T1.cell? ⟨b, 18, none⟩ = some (.slice (some ⟨g, 0, none⟩) B.I.length c) := blk_cell hbx 18
  have e18 := blk_free hbx 18
  have lx := blk_lt hbx
  obtain ⟨Z, hZ⟩ : ∃ Z, Z = T1.setCell ⟨b, 18, none⟩ (.slice (some ⟨g, 0, none⟩) (B.I.length - 1) c) := ⟨_, rfl⟩
  have HZ := hid (show BO base b { B with I := B.I.eraseIdx i } mv (.slice (some ⟨g, 0, none⟩) (B.I.length - 1) c) kv Z by rw [hZ]; exact HT.out.setInt HG.out HO.out)
  have HKZ := hid (show KeepsX b W Z by rw [hZ]; exact ((KeepsX.below HBT.out).grownI (kv := .slice (some ⟨g, 0, none⟩) B.I.length c) HG.out (Owns.typed HT.out.ri)).set 18 _)
  have nZ : Z.heap[U.heap.size]? = some (.cells #[.int .i64 x.token, .int .i64 x.version, .int .i64 x.zone, .bool false] 54) := by rw [hZ]; exact blk_other (blk_grown NT.out hg' (by simpa using hne)) (p := ⟨b, 18, none⟩) hneb _
  have nD : Z.drew.heap[U.heap.size]? = some (.cells #[.int .i64 x.token, .int .i64 x.version, .int .i64 x.zone, .bool false] 54) := nZ
  have HALL : ∀ W, Below base.heap.size base W → W.heap[U.heap.size]? = some (.cells #[.int .i64 x.token, .int .i64 x.version, .int .i64 x.zone, .bool false] 54) → (fun W => W.cell? ⟨b1, o1 + 1, none⟩ = some (.int .i64 x1) ∧ W.cell? ⟨b1, o1 + 2, none⟩ = some (.int .i64 x2) ∧ W.cell? ⟨U.heap.size, 0, none⟩ = some (.int .i64 x.token) ∧ W.cell? ⟨U.heap.size, 1, none⟩ = some (.int .i64 x.version) ∧ W.cell? ⟨U.heap.size, 2, none⟩ = some (.int .i64 x.zone)) W := fun W hb hn => ⟨rowN1 (HR1.out.below hb hb1) X1.out, rowN1 (HR1.out.below hb hb1) X2.out, blk_cell hn 0, blk_cell hn 1, blk_cell hn 2⟩
  have HS0 := HALL Z.drew HZ.out.drew1.bel nD
  have lZ := HZ.out.lt
  have lbZ : b1 < Z.heap.size := Nat.lt_of_lt_of_le hb1 HZ.out.bel.size
  have lnZ : U.heap.size < Z.heap.size := blk_lt nZ
  have HZZ := hid hZ
  have HKP := hid (keep_any ⟨x1, x.token, x.version, x.zone, if x.warm then 9 else 1, x2, false, false⟩ HZ.out.drew1 (by have := HLK.out; show B.K.length ≤ 10000; omega))
  rw [HWM.out] at HKP
  unfold encKv at HKP
  dsimp only at HKP
  clear hown' hg' hbx hZ nZ nD HALL
  go_wp2_with fail
  rw [← HZZ.out]
  have HS0 := HS0
  refine wp_region_cut 15 1 (fun W => W.cell? ⟨b1, o1 + 1, none⟩ = some (.int .i64 x1) ∧ W.cell? ⟨b1, o1 + 2, none⟩ = some (.int .i64 x2) ∧ W.cell? ⟨U.heap.size, 0, none⟩ = some (.int .i64 x.token) ∧ W.cell? ⟨U.heap.size, 1, none⟩ = some (.int .i64 x.version) ∧ W.cell? ⟨U.heap.size, 2, none⟩ = some (.int .i64 x.zone)) (by kernel_rfl) (by kernel_rfl) (by kernel_rfl) ?_
  simp only [List.take_succ_cons, List.take_zero]
  refine wpAnyH_take (i := 0) (v := ?_) rfl (by kernel_rfl) (by kernel_rfl) (by kernel_rfl) (fun _ _ _ h => h) (Or.inl ⟨by kernel_rfl, ?_⟩) HS0 ?_
  rotate_left
  ·(intro w hSw; (try dsimp only at hSw); go_simp; try with_reducible rfl)
  try simp only [Act.put, List.setIfInBounds_toArray]
  refine wpAnyH_take (i := 1) (v := ?_) rfl (by kernel_rfl) (by kernel_rfl) (by kernel_rfl) (fun _ _ _ h => h) (Or.inl ⟨by kernel_rfl, ?_⟩) HS0 ?_
  rotate_left
  ·(intro w hSw; (try dsimp only at hSw); go_simp; try with_reducible rfl)
  try simp only [Act.put]
  refine wpAnyH_take (i := 2) (v := ?_) rfl (by kernel_rfl) (by kernel_rfl) (by kernel_rfl) (fun _ _ _ h => h) (Or.inl ⟨by kernel_rfl, ?_⟩) HS0 ?_
  rotate_left
  ·(intro w hSw; (try dsimp only at hSw); go_simp; try with_reducible rfl)
  try simp only [Act.put]
  refine wpAnyH_take (i := 3) (v := ?_) rfl (by kernel_rfl) (by kernel_rfl) (by kernel_rfl) (fun _ _ _ h => h) (Or.inl ⟨by kernel_rfl, ?_⟩) HS0 ?_
  rotate_left
  ·(intro w hSw; (try dsimp only at hSw); go_simp; try with_reducible rfl)
  try simp only [Act.put]
  refine wpAnyH_take (i := 4) (v := ?_) rfl (by kernel_rfl) (by kernel_rfl) (by kernel_rfl) (fun _ _ _ h => h) (Or.inl ⟨by kernel_rfl, ?_⟩) HS0 ?_
  rotate_left
  ·(intro w hSw; (try dsimp only at hSw); go_simp; try with_reducible rfl)
  try simp only [Act.put]
  refine wpAnyH_take (i := 5) (v := ?_) rfl (by kernel_rfl) (by kernel_rfl) (by kernel_rfl) (fun _ _ _ h => h) (Or.inl ⟨by kernel_rfl, ?_⟩) HS0 ?_
  rotate_left
  ·(intro w hSw; (try dsimp only at hSw); go_simp; try with_reducible rfl)
  try simp only [Act.put]
  refine wpAnyH_take (i := 6) (v := ?_) rfl (by kernel_rfl) (by kernel_rfl) (by kernel_rfl) (fun _ _ _ h => h) (Or.inl ⟨by kernel_rfl, ?_⟩) HS0 ?_
  rotate_left
  ·(intro w hSw; (try dsimp only at hSw); go_simp; try with_reducible rfl)
  try simp only [Act.put]
  refine wpAnyH_take (i := 7) (v := ?_) rfl (by kernel_rfl) (by kernel_rfl) (by kernel_rfl) (fun _ _ _ h => h) (Or.inl ⟨by kernel_rfl, ?_⟩) HS0 ?_
  rotate_left
  ·(intro w hSw; (try dsimp only at hSw); go_simp; try with_reducible rfl)
  try simp only [Act.put]
  refine wpAnyH_take (i := 8) (v := ?_) rfl (by kernel_rfl) (by kernel_rfl) (by kernel_rfl) (fun _ _ _ h => h) (Or.inl ⟨by kernel_rfl, ?_⟩) HS0 ?_
  rotate_left
  ·(intro w hSw; (try dsimp only at hSw); go_simp; try with_reducible rfl)
  try simp only [Act.put]
  refine wpAnyH_take (i := 9) (v := ?_) rfl (by kernel_rfl) (by kernel_rfl) (by kernel_rfl) (fun _ _ _ h => h) (Or.inl ⟨by kernel_rfl, ?_⟩) HS0 ?_
  rotate_left
  ·(intro w hSw; (try dsimp only at hSw); go_simp; try with_reducible rfl)
  try simp only [Act.put]
  refine wpAnyH_take (i := 10) (v := ?_) rfl (by kernel_rfl) (by kernel_rfl) (by kernel_rfl) (fun _ _ _ h => h) (Or.inl ⟨by kernel_rfl, ?_⟩) HS0 ?_
  rotate_left
  ·(intro w hSw; (try dsimp only at hSw); go_simp; try with_reducible rfl)
  try simp only [Act.put]
  refine wpAnyH_take (i := 11) (v := ?_) rfl (by kernel_rfl) (by kernel_rfl) (by kernel_rfl) (fun _ _ _ h => h) (Or.inl ⟨by kernel_rfl, ?_⟩) HS0 ?_
  rotate_left
  ·(intro w hSw; (try dsimp only at hSw); go_simp; try with_reducible rfl)
  try simp only [Act.put]
  refine wpAnyH_take (i := 12) (v := ?_) rfl (by kernel_rfl) (by kernel_rfl) (by kernel_rfl) (fun _ _ _ h => h) (Or.inl ⟨by kernel_rfl, ?_⟩) HS0 ?_
  rotate_left
  ·(intro w hSw; (try dsimp only at hSw); go_simp; try with_reducible rfl)
  try simp only [Act.put]
  refine wpAnyH_take (i := 13) (v := ?_) rfl (by kernel_rfl) (by kernel_rfl) (by kernel_rfl) (fun _ _ _ h => h) (Or.inl ⟨by kernel_rfl, ?_⟩) HS0 ?_
  rotate_left
  ·(intro w hSw; (try dsimp only at hSw); go_simp; try with_reducible rfl)
  try simp only [Act.put]
  refine wpAnyH_take (i := 14) (v := ?_) rfl (by kernel_rfl) (by kernel_rfl) (by kernel_rfl) (fun _ _ _ h => h) (Or.inl ⟨by kernel_rfl, ?_⟩) HS0 ?_
  rotate_left
  ·(intro w hSw; (try dsimp only at hSw); go_simp; try with_reducible rfl)
  try simp only [Act.put]
  refine wpAnyH_done (by kernel_rfl) ?_ _
  refine cutQ_held (fun _ => True) (fun f => ?_)
  refine wpAnyH_ready (rs := [15]) (by kernel_rfl) (by simp) ?_
  refine AllReadyH.cons rfl (fun K hK => ?_) AllReadyH.nil
  go_simp
  refine HKP.out.mono ?_
  rintro e y1 ⟨rfl, ⟨mv', iv', kv', hbo⟩, hkx⟩
  dsimp only
  refine hK.out _ _ trivial (fun _ => ?_)
  clear hK K
  have HBO := hid hbo
  have HKX := hid hkx
  have s20 := hbo.cell 20 (.int .u8 (B.f 20)) rfl
  have s26 := hbo.cell 26 (.int .i64 (B.f 26)) rfl
  have sl := hbo.lt
  have f26 := hbo.free 26
  clear hbo hkx HS0
  by_cases hst : B.f 20 = 1
  ·rw [hst] at s20
   refine wpAnyH_done (by kernel_rfl) ?_ _
   go_wp2
   go_end0
   refine ⟨rfl, ?_, (HKZ.out.drew1.trans HKX.out).set 26 _⟩
   rw [HRX.out]
   unfold madeX
   rw [if_pos hst, HWM.out]
   exact ⟨_, _, _, HBO.out.set 26 (.int .i64 0) (f' := upd B.f 26 0) (g' := B.g) rfl⟩
  ·have hst2 : (B.f 20 == 1) = false := by simpa using hst
   refine wpAnyH_done (by kernel_rfl) ?_ _
   go_wp2
   go_end0
   refine ⟨rfl, ?_, HKZ.out.drew1.trans HKX.out⟩
   rw [HRX.out]
   unfold madeX
   rw [if_neg hst, HWM.out]
   exact ⟨_, _, _, HBO.out⟩
 ·go_wp2_with fail
  rw [← HTT.out]
  refine HD.out.mono ?_
  rintro e T1 ⟨rfl, hown', hg'⟩
  have HO := hid hown'
  have HG := hid hg'
  have hbx := blk_grown HT.out.box hg' (fun e' => by obtain ⟨c', hc'⟩ := Owns.typed HT.out.ri b e'.symm; have := HT.out.box; unfold BB at this; rw [hc'] at this; cases this)
  have d18 : T1.cell? ⟨b, 18, none⟩ = some (.slice (some ⟨g, 0, none⟩) B.I.length c) := blk_cell hbx 18
  have e18 := blk_free hbx 18
  have lx := blk_lt hbx
  obtain ⟨Z, hZ⟩ : ∃ Z, Z = T1.setCell ⟨b, 18, none⟩ (.slice (some ⟨g, 0, none⟩) (B.I.length - 1) c) := ⟨_, rfl⟩
  have HZ := hid (show BO base b { B with I := B.I.eraseIdx i } mv (.slice (some ⟨g, 0, none⟩) (B.I.length - 1) c) kv Z by rw [hZ]; exact HT.out.setInt HG.out HO.out)
  have HKZ := hid (show KeepsX b W Z by rw [hZ]; exact ((KeepsX.below HBT.out).grownI (kv := .slice (some ⟨g, 0, none⟩) B.I.length c) HG.out (Owns.typed HT.out.ri)).set 18 _)
  have nZ : Z.heap[U.heap.size]? = some (.cells #[.int .i64 x.token, .int .i64 x.version, .int .i64 x.zone, .bool true] 54) := by rw [hZ]; exact blk_other (blk_grown NT.out hg' (by simpa using hne)) (p := ⟨b, 18, none⟩) hneb _
  have nD : Z.drew.heap[U.heap.size]? = some (.cells #[.int .i64 x.token, .int .i64 x.version, .int .i64 x.zone, .bool true] 54) := nZ
  have HALL : ∀ W, Below base.heap.size base W → W.heap[U.heap.size]? = some (.cells #[.int .i64 x.token, .int .i64 x.version, .int .i64 x.zone, .bool true] 54) → (fun W => W.cell? ⟨b1, o1 + 1, none⟩ = some (.int .i64 x1) ∧ W.cell? ⟨b1, o1 + 2, none⟩ = some (.int .i64 x2) ∧ W.cell? ⟨U.heap.size, 0, none⟩ = some (.int .i64 x.token) ∧ W.cell? ⟨U.heap.size, 1, none⟩ = some (.int .i64 x.version) ∧ W.cell? ⟨U.heap.size, 2, none⟩ = some (.int .i64 x.zone)) W := fun W hb hn => ⟨rowN1 (HR1.out.below hb hb1) X1.out, rowN1 (HR1.out.below hb hb1) X2.out, blk_cell hn 0, blk_cell hn 1, blk_cell hn 2⟩
  have HS0 := HALL Z.drew HZ.out.drew1.bel nD
  have lZ := HZ.out.lt
  have lbZ : b1 < Z.heap.size := Nat.lt_of_lt_of_le hb1 HZ.out.bel.size
  have lnZ : U.heap.size < Z.heap.size := blk_lt nZ
  have HZZ := hid hZ
  have HKP := hid (keep_any ⟨x1, x.token, x.version, x.zone, if x.warm then 9 else 1, x2, false, false⟩ HZ.out.drew1 (by have := HLK.out; show B.K.length ≤ 10000; omega))
  rw [HWM.out] at HKP
  unfold encKv at HKP
  dsimp only at HKP
  clear hown' hg' hbx hZ nZ nD HALL
  go_wp2_with fail
  rw [← HZZ.out]
  have HS0 := HS0
  refine wp_region_cut 15 1 (fun W => W.cell? ⟨b1, o1 + 1, none⟩ = some (.int .i64 x1) ∧ W.cell? ⟨b1, o1 + 2, none⟩ = some (.int .i64 x2) ∧ W.cell? ⟨U.heap.size, 0, none⟩ = some (.int .i64 x.token) ∧ W.cell? ⟨U.heap.size, 1, none⟩ = some (.int .i64 x.version) ∧ W.cell? ⟨U.heap.size, 2, none⟩ = some (.int .i64 x.zone)) (by kernel_rfl) (by kernel_rfl) (by kernel_rfl) ?_
  simp only [List.take_succ_cons, List.take_zero]
  refine wpAnyH_take (i := 0) (v := ?_) rfl (by kernel_rfl) (by kernel_rfl) (by kernel_rfl) (fun _ _ _ h => h) (Or.inl ⟨by kernel_rfl, ?_⟩) HS0 ?_
  rotate_left
  ·(intro w hSw; (try dsimp only at hSw); go_simp; try with_reducible rfl)
  try simp only [Act.put, List.setIfInBounds_toArray]
  refine wpAnyH_take (i := 1) (v := ?_) rfl (by kernel_rfl) (by kernel_rfl) (by kernel_rfl) (fun _ _ _ h => h) (Or.inl ⟨by kernel_rfl, ?_⟩) HS0 ?_
  rotate_left
  ·(intro w hSw; (try dsimp only at hSw); go_simp; try with_reducible rfl)
  try simp only [Act.put]
  refine wpAnyH_take (i := 2) (v := ?_) rfl (by kernel_rfl) (by kernel_rfl) (by kernel_rfl) (fun _ _ _ h => h) (Or.inl ⟨by kernel_rfl, ?_⟩) HS0 ?_
  rotate_left
  ·(intro w hSw; (try dsimp only at hSw); go_simp; try with_reducible rfl)
  try simp only [Act.put]
  refine wpAnyH_take (i := 3) (v := ?_) rfl (by kernel_rfl) (by kernel_rfl) (by kernel_rfl) (fun _ _ _ h => h) (Or.inl ⟨by kernel_rfl, ?_⟩) HS0 ?_
  rotate_left
  ·(intro w hSw; (try dsimp only at hSw); go_simp; try with_reducible rfl)
  try simp only [Act.put]
  refine wpAnyH_take (i := 4) (v := ?_) rfl (by kernel_rfl) (by kernel_rfl) (by kernel_rfl) (fun _ _ _ h => h) (Or.inl ⟨by kernel_rfl, ?_⟩) HS0 ?_
  rotate_left
  ·(intro w hSw; (try dsimp only at hSw); go_simp; try with_reducible rfl)
  try simp only [Act.put]
  refine wpAnyH_take (i := 5) (v := ?_) rfl (by kernel_rfl) (by kernel_rfl) (by kernel_rfl) (fun _ _ _ h => h) (Or.inl ⟨by kernel_rfl, ?_⟩) HS0 ?_
  rotate_left
  ·(intro w hSw; (try dsimp only at hSw); go_simp; try with_reducible rfl)
  try simp only [Act.put]
  refine wpAnyH_take (i := 6) (v := ?_) rfl (by kernel_rfl) (by kernel_rfl) (by kernel_rfl) (fun _ _ _ h => h) (Or.inl ⟨by kernel_rfl, ?_⟩) HS0 ?_
  rotate_left
  ·(intro w hSw; (try dsimp only at hSw); go_simp; try with_reducible rfl)
  try simp only [Act.put]
  refine wpAnyH_take (i := 7) (v := ?_) rfl (by kernel_rfl) (by kernel_rfl) (by kernel_rfl) (fun _ _ _ h => h) (Or.inl ⟨by kernel_rfl, ?_⟩) HS0 ?_
  rotate_left
  ·(intro w hSw; (try dsimp only at hSw); go_simp; try with_reducible rfl)
  try simp only [Act.put]
  refine wpAnyH_take (i := 8) (v := ?_) rfl (by kernel_rfl) (by kernel_rfl) (by kernel_rfl) (fun _ _ _ h => h) (Or.inl ⟨by kernel_rfl, ?_⟩) HS0 ?_
  rotate_left
  ·(intro w hSw; (try dsimp only at hSw); go_simp; try with_reducible rfl)
  try simp only [Act.put]
  refine wpAnyH_take (i := 9) (v := ?_) rfl (by kernel_rfl) (by kernel_rfl) (by kernel_rfl) (fun _ _ _ h => h) (Or.inl ⟨by kernel_rfl, ?_⟩) HS0 ?_
  rotate_left
  ·(intro w hSw; (try dsimp only at hSw); go_simp; try with_reducible rfl)
  try simp only [Act.put]
  refine wpAnyH_take (i := 10) (v := ?_) rfl (by kernel_rfl) (by kernel_rfl) (by kernel_rfl) (fun _ _ _ h => h) (Or.inl ⟨by kernel_rfl, ?_⟩) HS0 ?_
  rotate_left
  ·(intro w hSw; (try dsimp only at hSw); go_simp; try with_reducible rfl)
  try simp only [Act.put]
  refine wpAnyH_take (i := 11) (v := ?_) rfl (by kernel_rfl) (by kernel_rfl) (by kernel_rfl) (fun _ _ _ h => h) (Or.inl ⟨by kernel_rfl, ?_⟩) HS0 ?_
  rotate_left
  ·(intro w hSw; (try dsimp only at hSw); go_simp; try with_reducible rfl)
  try simp only [Act.put]
  refine wpAnyH_take (i := 12) (v := ?_) rfl (by kernel_rfl) (by kernel_rfl) (by kernel_rfl) (fun _ _ _ h => h) (Or.inl ⟨by kernel_rfl, ?_⟩) HS0 ?_
  rotate_left
  ·(intro w hSw; (try dsimp only at hSw); go_simp; try with_reducible rfl)
  try simp only [Act.put]
  refine wpAnyH_take (i := 13) (v := ?_) rfl (by kernel_rfl) (by kernel_rfl) (by kernel_rfl) (fun _ _ _ h => h) (Or.inl ⟨by kernel_rfl, ?_⟩) HS0 ?_
  rotate_left
  ·(intro w hSw; (try dsimp only at hSw); go_simp; try with_reducible rfl)
  try simp only [Act.put]
  refine wpAnyH_take (i := 14) (v := ?_) rfl (by kernel_rfl) (by kernel_rfl) (by kernel_rfl) (fun _ _ _ h => h) (Or.inl ⟨by kernel_rfl, ?_⟩) HS0 ?_
  rotate_left
  ·(intro w hSw; (try dsimp only at hSw); go_simp; try with_reducible rfl)
  try simp only [Act.put]
  refine wpAnyH_done (by kernel_rfl) ?_ _
  refine cutQ_held (fun _ => True) (fun f => ?_)
  refine wpAnyH_ready (rs := [15]) (by kernel_rfl) (by simp) ?_
  refine AllReadyH.cons rfl (fun K hK => ?_) AllReadyH.nil
  go_simp
  refine HKP.out.mono ?_
  rintro e y1 ⟨rfl, ⟨mv', iv', kv', hbo⟩, hkx⟩
  dsimp only
  refine hK.out _ _ trivial (fun _ => ?_)
  clear hK K
  have HBO := hid hbo
  have HKX := hid hkx
  have s20 := hbo.cell 20 (.int .u8 (B.f 20)) rfl
  have s26 := hbo.cell 26 (.int .i64 (B.f 26)) rfl
  have sl := hbo.lt
  have f26 := hbo.free 26
  clear hbo hkx HS0
  by_cases hst : B.f 20 = 1
  ·rw [hst] at s20
   refine wpAnyH_done (by kernel_rfl) ?_ _
   go_wp2
   go_end0
   refine ⟨rfl, ?_, (HKZ.out.drew1.trans HKX.out).set 26 _⟩
   rw [HRX.out]
   unfold madeX
   rw [if_pos hst, HWM.out]
   exact ⟨_, _, _, HBO.out.set 26 (.int .i64 0) (f' := upd B.f 26 0) (g' := B.g) rfl⟩
  ·have hst2 : (B.f 20 == 1) = false := by simpa using hst
   refine wpAnyH_done (by kernel_rfl) ?_ _
   go_wp2
   go_end0
   refine ⟨rfl, ?_, HKZ.out.drew1.trans HKX.out⟩
   rw [HRX.out]
   unfold madeX
   rw [if_neg hst, HWM.out]
   exact ⟨_, _, _, HBO.out⟩
end
end Go.Proofs.YtgcajfglidflnaaGreatDoor
