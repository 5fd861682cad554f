/- Deeds that change one that is kept, in place. -/
import Derived.Test.YthnigndpibgibaaDoorLg
namespace Go.Proofs.YthnigndpibgibaaDoor
open Go.RowKit Go.Shelf

/-- A brain whose Kept at a place is another one. -/
def setK (B : BrainV) (i : Nat) (x : KeptV) : BrainV := { B with K := B.K.set i x }
theorem set_eq_take {α : Type} (l : List α) (i : Nat) (x : α) (hi : i < l.length) : l.set i x = l.take i ++ [x] ++ l.drop (i + 1) := by
  rw [List.set_eq_take_append_cons_drop, if_pos hi]
  simp
theorem flat_set {α : Type} {k : Nat} {enc : α → List Value} (hk : ∀ x, (enc x).length = k) {j : Nat} (hj : j < k) {u : Value} {x x' : α} (he : (enc x).set j u = enc x') : ∀ (l : List α) (i : Nat) (y : α), l[i]? = some y → y = x →
    (l.flatMap enc).set (i * k + j) u = (l.set i x').flatMap enc
  | [], i, y, h, _ => by simp at h
  | z :: l, 0, y, h, hy => by
    simp at h
    subst h
    subst hy
    simp only [List.flatMap_cons, List.set_cons_zero]
    rw [Nat.zero_mul, Nat.zero_add, List.set_append_left _ _ (by rw [hk]; exact hj), he]
  | z :: l, i + 1, y, h, hy => by
    simp only [List.getElem?_cons_succ] at h
    simp only [List.flatMap_cons, List.set_cons_succ]
    rw [List.set_append_right _ _ (by rw [hk, Nat.add_mul]; omega), hk, show (i + 1) * k + j - k = i * k + j by rw [Nat.add_mul]; omega, flat_set hk hj he l i y h hy]
/-- One cell of a slice's thing is written. -/
theorem Owns.cell {α : Type} {k : Nat} {e : TypeId} {enc : α → List Value} {W : World} {base g n c : Nat} {l : List α} (hk : ∀ x, (enc x).length = k) (h : Owns k e enc W base (.slice (some ⟨g, 0, none⟩) n c) l)
    {i : Nat} {x x' : α} (hx : l[i]? = some x) (j : Nat) (hj : j < k) (u : Value) (he : (enc x).set j u = enc x') : Owns k e enc (W.setCell ⟨g, i * k + j, none⟩ u) base (.slice (some ⟨g, 0, none⟩) n c) (l.set i x') := by
  have hi := lt_get hx
  obtain ⟨cur, h1, h2, h3, h4, h5, h6, h7⟩ := Owns.blk h
  have hic : i * k + j < c * k := by
    have : (i + 1) * k ≤ c * k := Nat.mul_le_mul_right k (by omega)
    rw [Nat.add_mul, Nat.one_mul] at this
    omega
  refine Owns.mk hk (blk_set h1 (i * k + j) u) (by simpa using h2) h3 h4 h5 (by simpa using h6) ?_
  rw [Array.toList_setIfInBounds, List.take_set, h7]
  exact flat_set hk hj he l i x hx rfl

/-- One cell of one that is kept is written. -/
theorem BO.kcell {base : World} {b : Nat} {B : BrainV} {mv iv : Value} {W : World} {g n c : Nat} (h : BO base b B mv iv (.slice (some ⟨g, 0, none⟩) n c) W) {i : Nat} {x x' : KeptV} (hx : B.K[i]? = some x) (j : Nat) (hj : j < 8) (u : Value) (he : (encKp x).set j u = encKp x') :
    BO base b (setK B i x') mv iv (.slice (some ⟨g, 0, none⟩) n c) (W.setCell ⟨g, i * 8 + j, none⟩ u) ∧ (setK B i x').K[i]? = some x' := by
  obtain ⟨cur, h1, h2, h3, h4, h5, h6, h7⟩ := Owns.blk h.rk
  have hne : b ≠ g := by rintro rfl; have := h.box; unfold BB at this; rw [h1] at this; cases this
  refine ⟨⟨blk_other h.box (p := ⟨g, _, none⟩) hne _, h.hb, h.rm.kept (KeptT.set (p := ⟨g, _, none⟩) h1 (by decide) u), owns_at h.ri h1 (by decide) _ u, Owns.cell encKp_len h.rk hx j hj u he, h.bel.setCell (p := ⟨g, _, none⟩) h5 _⟩, ?_⟩
  show (B.K.set i x')[i]? = some x'
  rw [List.getElem?_set_self (lt_get hx)]
theorem KeepsX.kset {b : Nat} {W V : World} {g : Nat} {cur : Array Value} (h : KeepsX b W V) (hg : V.heap[g]? = some (.cells cur 43)) (o : Nat) (u : Value) : KeepsX b W (V.setCell ⟨g, o, none⟩ u) := by
  refine ⟨by simpa [World.setCell] using h.size, fun k c t hk h1 h2 h3 => ?_, keeps_set h.others _ _⟩
  refine blk_other (h.block k c t hk h1 h2 h3) (p := ⟨g, o, none⟩) (fun e => ?_) u
  have := h.block k c t hk h1 h2 h3
  rw [show k = g from e, hg] at this
  cases this
  exact h3 rfl
theorem setK_twice (B : BrainV) (i : Nat) (x y : KeptV) : setK (setK B i x) i y = setK B i y := by
  unfold setK
  simp

def phaseB (B : BrainV) (i : Nat) (x : KeptV) (t s : Int) : BrainV := if legalB x.phase t = true then setK B i { x with phase := t, since := s, complete := false } else B
def guardB (B : BrainV) (i : Nat) (x : KeptV) (t : Int) : BrainV := if t < 2 then setK B i { x with guarded := t == 1 } else B
def completeB (B : BrainV) (i : Nat) (x : KeptV) : BrainV := setK B i { x with complete := x.complete || (x.phase == 1 || x.phase == 7) }
section
variable {base : World} {b : Nat} {B : BrainV} {mv iv kv : Value} {W : World}
theorem BO.kopen (h : BO base b B mv iv kv W) {i : Nat} {x : KeptV} (hx : B.K[i]? = some x) : ∃ g c, kv = .slice (some ⟨g, 0, none⟩) B.K.length c ∧ g < W.heap.size ∧ RowAt 8 encKp W g 0 B.K ∧ (∀ j, W.frozen? ⟨g, j, none⟩ = false) ∧ B.K.length ≤ 9223372036854775807 ∧ ∃ cur, W.heap[g]? = some (.cells cur 43) := by
  have hlt := lt_get hx
  have hr := Owns.row h.rk encKp_len (by decide)
  rcases Owns.form h.rk with ⟨rfl, h0⟩ | ⟨g, c, rfl, hg, hl⟩
  · rw [h0] at hlt; simp at hlt
  · obtain ⟨cur, h1, _, _, _, _, _, _⟩ := Owns.blk h.rk
    obtain ⟨a', c', he, hb1, _, _, hop⟩ := hr.open
    simp only [Value.slice.injEq] at he
    obtain ⟨rfl, -, rfl⟩ := he
    obtain ⟨b1, o1, e1, _, hra⟩ := hop (by omega)
    cases e1
    exact ⟨g, c, rfl, hl, hra, blk_free h1, hb1, cur, h1⟩
set_option maxRecDepth 100000 in
set_option maxHeartbeats 2000000 in
theorem d5_any (s : Value) (h : BO base b B mv iv kv W) (i : Nat) (x : KeptV) (hx : B.K[i]? = some x) : Calls Tryd.prog 75 #[.pointer (some ⟨b, 0, none⟩), .int .i64 i, s] W fun e W' => DeedEnd base b W (completeB B i x) e W' := by
  obtain ⟨g, c, rfl, hg, hra, hfz, hl6, cur, hcur⟩ := h.kopen hx
  have c19 := h.cell 19 (.slice (some ⟨g, 0, none⟩) B.K.length c) rfl
  obtain ⟨g0, g1, g2, g3, g4, g5, g6, g7⟩ := rowK hra hx
  simp only [Nat.zero_add] at g0 g1 g2 g3 g4 g5 g6 g7
  have hkl := lt_get hx
  have hiL : (i : Int) < (B.K.length : Int) := by omega
  have hlt := h.lt
  have H := hid h
  have HX := hid hx
  have HC := hid hcur
  clear h hx hra hcur
  unfold completeB
  obtain ⟨bc, hbc⟩ : ∃ q, x.complete = q := ⟨_, rfl⟩
  obtain ⟨b1, hb1⟩ : ∃ q, (x.phase == 1) = q := ⟨_, rfl⟩
  obtain ⟨b7, hb7⟩ : ∃ q, (x.phase == 7) = q := ⟨_, rfl⟩
  have HE := hid (show ∀ v, v = (bc || (b1 || b7)) → (encKp x).set 7 (.bool v) = encKp { x with complete := x.complete || (x.phase == 1 || x.phase == 7) } from fun v hv => by rw [hv, hbc, hb1, hb7]; rfl)
  rw [hbc] at g7
  clear hbc
  cases bc <;> cases b1 <;> cases b7 <;>
  · go_enter Tryd.func75, Tryd.ntmps75
    go_wp2
    go_end0
    exact ⟨rfl, ⟨mv, iv, _, (H.out.kcell HX.out 7 (by decide) _ (HE.out _ rfl)).1⟩, (KeepsX.refl _ _).kset HC.out _ _⟩
set_option maxRecDepth 100000 in
set_option maxHeartbeats 2000000 in
theorem d4_any (s : Value) (L : List Int) (hs : RowOf 1 encI base s L) (hL : L.length = 2) (h : BO base b B mv iv kv W) (i : Nat) (x : KeptV) (hx : B.K[i]? = some x) : Calls Tryd.prog 74 #[.pointer (some ⟨b, 0, none⟩), .int .i64 i, s] W fun e W' => DeedEnd base b W (guardB B i x (L.getD 1 0)) e W' := by
  obtain ⟨sa, sc, rfl, hs1, hs2, hs3, hop⟩ := hs.open
  obtain ⟨b1, o1, rfl, hb1, hr1⟩ := hop (by omega)
  obtain ⟨x1, hx1⟩ := get_lt (l := L) (k := 1) (by omega)
  have q1 := rowN1 (hr1.below h.bel hb1) hx1
  have e1 : L.getD 1 0 = x1 := by rw [List.getD_eq_getElem?_getD, hx1]; rfl
  have hbw : b1 < W.heap.size := Nat.lt_of_lt_of_le hb1 h.bel.size
  have hLI : (L.length : Int) = 2 := by omega
  rw [e1]
  obtain ⟨g, c, rfl, hg, hra, hfz, hl6, cur, hcur⟩ := h.kopen hx
  have c19 := h.cell 19 (.slice (some ⟨g, 0, none⟩) B.K.length c) rfl
  obtain ⟨g0, g1, g2, g3, g4, g5, g6, g7⟩ := rowK hra hx
  simp only [Nat.zero_add] at g0 g1 g2 g3 g4 g5 g6 g7
  have hkl := lt_get hx
  have hiL : (i : Int) < (B.K.length : Int) := by omega
  have hlt := h.lt
  have H := hid h
  have HX := hid hx
  have HC := hid hcur
  clear h hx hra hcur hs hop hr1 hx1 e1
  unfold guardB
  by_cases hq : x1 < 2
  · rw [if_pos hq]
    go_enter Tryd.func74, Tryd.ntmps74
    go_wp2
    go_region
    all_goals
      go_wp2
      go_end0
      exact ⟨rfl, ⟨mv, iv, _, BO.drew1 (H.out.kcell (x' := { x with guarded := x1 == 1 }) HX.out 6 (by decide) (.bool (x1 == 1)) rfl).1⟩, KeepsX.drew1 ((KeepsX.refl _ _).kset HC.out _ _)⟩
  · rw [if_neg hq]
    go_enter Tryd.func74, Tryd.ntmps74
    go_wp2
    go_end0
    exact ⟨rfl, ⟨mv, iv, _, H.out⟩, KeepsX.refl _ _⟩
set_option maxRecDepth 100000 in
set_option maxHeartbeats 4000000 in
theorem d2_any (s : Value) (L : List Int) (hs : RowOf 1 encI base s L) (hL : L.length = 3) (hn : ∀ y ∈ L, badN y = false) (hC : Changes base) (h : BO base b B mv iv kv W) (i : Nat) (x : KeptV) (hx : B.K[i]? = some x) (hph : in8 x.phase) :
    Calls Tryd.prog 70 #[.pointer (some ⟨b, 0, none⟩), .int .i64 i, s] W fun e W' => DeedEnd base b W (phaseB B i x (L.getD 1 0) (L.getD 2 0)) e W' := by
  obtain ⟨sa, sc, rfl, hs1, hs2, hs3, hop⟩ := hs.open
  obtain ⟨b1, o1, rfl, hb1, hr1⟩ := hop (by omega)
  obtain ⟨x1, hx1⟩ := get_lt (l := L) (k := 1) (by omega)
  obtain ⟨x2, hx2⟩ := get_lt (l := L) (k := 2) (by omega)
  have q1 := rowN1 (hr1.below h.bel hb1) hx1
  have q2 := rowN1 (hr1.below h.bel hb1) hx2
  have e1 : L.getD 1 0 = x1 := by rw [List.getD_eq_getElem?_getD, hx1]; rfl
  have e2 : L.getD 2 0 = x2 := by rw [List.getD_eq_getElem?_getD, hx2]; rfl
  have hx10 : 0 ≤ x1 := by have := hn x1 (mem_get hx1); simp [badN] at this; omega
  have hbw : b1 < W.heap.size := Nat.lt_of_lt_of_le hb1 h.bel.size
  have hLI : (L.length : Int) = 3 := by omega
  rw [e1, e2]
  obtain ⟨g, c, rfl, hg, hra, hfz, hl6, cur, hcur⟩ := h.kopen hx
  have c19 := h.cell 19 (.slice (some ⟨g, 0, none⟩) B.K.length c) rfl
  obtain ⟨g0, g1, g2, g3, g4, g5, g6, g7⟩ := rowK hra hx
  simp only [Nat.zero_add] at g0 g1 g2 g3 g4 g5 g6 g7
  have hkl := lt_get hx
  have hiL : (i : Int) < (B.K.length : Int) := by omega
  have hlt := h.lt
  obtain ⟨q, hq⟩ : ∃ q, legalB x.phase x1 = q := ⟨_, rfl⟩
  have HLG := hid (fun V (hV : Below W.heap.size W V) => legal_any x.phase x1 hph hx10 V (hC.below (h.bel.trans (hV.mono h.bel.size))))
  rw [hq] at HLG
  have HQ := hid hq
  have H := hid h
  have HX := hid hx
  have HC := hid hcur
  clear h hx hra hcur hs hop hr1 hx1 hx2 e1 e2 hn hC hq
  obtain ⟨R, hR⟩ : ∃ R, phaseB B i x x1 x2 = R := ⟨_, rfl⟩
  rw [hR]
  have HR := hid hR
  clear hR
  go_enter Tryd.func70, Tryd.ntmps70
  go_wp2
  have k4 := fun d os => cell_regrown g4 d os
  have kq := fun d os => cell_regrown q1 d os
  have HCALL := hid (fun d os => Calls.regrown_of (d := d) (os := os) (w := W) (HLG.out _ (below_regrown W d os)))
  refine wp_region_quiet_below (by kernel_rfl) (by kernel_rfl) ?_
  repeat (quiet_step (exact HCALL.out _ _))
  refine wpQuiet_nil ?_
  intro _ hw'
  obtain ⟨⟨dq, osq⟩, hw''⟩ := hw'
  subst hw''
  have hbq := below_regrown W dq osq
  obtain ⟨V, hV⟩ : ∃ V, V = Sort.grow (redrawn W dq) osq := ⟨_, rfl⟩
  rw [← hV] at hbq ⊢
  clear hV k4 kq
  cases q with
  | false =>
    obtain rfl : B = R := by rw [← HR.out]; unfold phaseB; rw [HQ.out]; rfl
    have HBQ := hid hbq
    clear hbq
    go_wp2
    go_end0
    exact ⟨rfl, ⟨mv, iv, _, H.out.below HBQ.out⟩, KeepsX.below HBQ.out⟩
  | true =>
    have HRR := hid (show R = setK B i { x with phase := x1, since := x2, complete := false } by rw [← HR.out]; unfold phaseB; rw [HQ.out]; rfl)
    have hx11 : x1 < 11 := by have := HQ.out; unfold legalB at this; simp at this; omega
    have r4 := (hbq.cell (p := ⟨g, i * 8 + 4, none⟩) hg).trans g4
    have r5 := (hbq.cell (p := ⟨g, i * 8 + 5, none⟩) hg).trans g5
    have r7 := (hbq.cell (p := ⟨g, i * 8 + 7, none⟩) hg).trans g7
    have t4 := (hbq.frozen (p := ⟨g, i * 8 + 4, none⟩) hg).trans (hfz _)
    have t5 := (hbq.frozen (p := ⟨g, i * 8 + 5, none⟩) hg).trans (hfz _)
    have t7 := (hbq.frozen (p := ⟨g, i * 8 + 7, none⟩) hg).trans (hfz _)
    have s1 := (hbq.cell (p := ⟨b1, o1 + 1, none⟩) hbw).trans q1
    have s2 := (hbq.cell (p := ⟨b1, o1 + 2, none⟩) hbw).trans q2
    have u1 : g < V.heap.size := Nat.lt_of_lt_of_le hg hbq.size
    have u2 : b1 < V.heap.size := Nat.lt_of_lt_of_le hbw hbq.size
    have HV := hid (H.out.below hbq)
    have HCV := hid ((hbq.block _ hg).trans HC.out)
    have HBQ := hid hbq
    clear hbq g0 g1 g2 g3 g4 g5 g6 g7 q1 q2 c19 hfz hlt hbw hg
    go_wp2
    go_region
    all_goals
      go_wp2
      go_end0
      have k1 := HV.out.kcell (x' := { x with phase := x1 }) HX.out 4 (by decide) (.int .u8 x1) rfl
      have k2 := k1.1.kcell (x' := { x with phase := x1, since := x2 }) k1.2 5 (by decide) (.int .i64 x2) rfl
      have k3 := k2.1.kcell (x' := { x with phase := x1, since := x2, complete := false }) k2.2 7 (by decide) (.bool false) rfl
      rw [setK_twice, setK_twice] at k3
      have j1 := blk_set HCV.out (i * 8 + 4) (.int .u8 x1)
      have j2 := blk_set j1 (i * 8 + 5) (.int .i64 x2)
      exact ⟨rfl, ⟨mv, iv, _, BO.drew1 (by rw [HRR.out]; exact k3.1)⟩, KeepsX.drew1 ((((KeepsX.below HBQ.out).kset HCV.out _ _).kset j1 _ _).kset j2 _ _)⟩
end
end Go.Proofs.YthnigndpibgibaaDoor
