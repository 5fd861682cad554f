/- A group's row that is taken in. -/
import Derived.Test.YthnigndpibgibaaDoorDm
namespace Go.Proofs.YthnigndpibgibaaDoor
open Go.RowKit Go.Shelf
attribute [-go_sem] loadVar storeVar
attribute [local go_sem] load_other2 store_other2

def groupF (B : BrainV) (L : List Int) : Nat → Int := fun i => if 3 ≤ i ∧ i < 16 then (if i = 15 ∧ B.g 2 = true then B.f 15 else ofF L (i - 3)) else B.f i
def groupB (B : BrainV) (L : List Int) : BrainV :=
  if ofB L = true then { f := groupF B L, g := upd (upd B.g 16 (ofG L)) 2 true, M := L.drop 14, I := B.I, K := B.K } else B
section
variable {base : World} {b : Nat} {B : BrainV} {mv iv kv : Value} {W : World}
theorem KeepsX.row {V U : World} {c : Array Value} {t : TypeId} (h : KeepsX b W V) (hg : V.grownBy U (some b)) (hc : V.heap[b]? = some (.cells c t)) : KeepsX b W U := by
  refine h.trans ⟨hg.size, fun k c' t' hk h1 _ _ => blk_grown hk hg (by simpa using h1), ⟨hg.size, fun k o hk ho => ?_⟩⟩
  refine (hg.block k (Array.getElem?_eq_some_iff.1 hk).1 (fun e => ?_)).trans hk
  cases e
  rw [hc] at hk
  cases hk
  cases ho
/-- Cells of a block, written one behind the other. -/
def setL : Array Value → Nat → List Value → Array Value
  | cur, _, [] => cur
  | cur, o, v :: r => setL (cur.setIfInBounds o v) (o + 1) r
theorem setCells_heap (b : Nat) : ∀ (vs : List Value) (o : Nat) (w : World) (cur : Array Value) (t : TypeId), w.heap[b]? = some (.cells cur t) → (w.setCells b o vs).heap[b]? = some (.cells (setL cur o vs) t)
  | [], _, _, _, _, h => h
  | v :: r, o, w, cur, t, h => by
    rw [World.setCells]
    exact setCells_heap b r (o + 1) _ _ t (blk_set h o v)
theorem setL_brT (F : Nat → Int) (G : Nat → Bool) (f : Nat → Int) (g : Bool) (m0 m iv kv : Value) : setL (brT F G m0 iv kv) 3 (confA f g m).toList = brT (fun i => if 3 ≤ i ∧ i < 16 then f (i - 3) else F i) (upd G 16 g) m iv kv := by kernel_rfl
/-- A brain whose group is another one. -/
theorem BO.setConf (h : BO base b B mv iv kv W) (f : Nat → Int) (g : Bool) {m : Value} {M : List Int} (ho : OwnI W base.heap.size m M) :
    BO base b { f := fun i => if 3 ≤ i ∧ i < 16 then f (i - 3) else B.f i, g := upd (upd B.g 16 g) 2 true, M := M, I := B.I, K := B.K } m iv kv ((W.setCells b 3 (confA f g m).toList).setCell ⟨b, 2, none⟩ (.bool true)) := by
  have hg1 := setCells_grown b 3 (confA f g m).toList W
  have hbb : (W.setCells b 3 (confA f g m).toList).heap[b]? = some (.cells (brT (fun i => if 3 ≤ i ∧ i < 16 then f (i - 3) else B.f i) (upd B.g 16 g) m iv kv) 30) := by
    rw [setCells_heap b _ 3 W _ _ h.box, setL_brT]
  have hb2 : BB ((W.setCells b 3 (confA f g m).toList).setCell ⟨b, 2, none⟩ (.bool true)) b (brT (fun i => if 3 ≤ i ∧ i < 16 then f (i - 3) else B.f i) (upd (upd B.g 16 g) 2 true) m iv kv) := blk_set hbb 2 _
  have ne : ∀ {α : Type} {k : Nat} {e : TypeId} {enc : α → List Value} {v : Value} {l : List α}, Owns k e enc W base.heap.size v l → e ≠ 30 → v.ownBlock = none ∨ v.ownBlock ≠ some b := fun {α k e enc v l} ho hne => by
    rcases Owns.form ho with ⟨rfl, _⟩ | ⟨gi, ci, rfl, _, _⟩
    · exact .inl rfl
    · refine .inr fun e' => ?_
      obtain ⟨c, hc⟩ := Owns.typed ho b e'
      have := h.box
      unfold BB at this
      rw [this] at hc
      cases hc
      exact hne rfl
  refine ⟨hb2, h.hb, ?_, ?_, ?_, ?_⟩
  · exact (owns_at (World.ownsRow.kept ho hg1 (ne ho (by decide))) hbb (by decide) 2 _).trow encI_len (by decide)
  · exact owns_at (World.ownsRow.kept h.ri hg1 (ne h.ri (by decide))) hbb (by decide) 2 _
  · exact owns_at (World.ownsRow.kept h.rk hg1 (ne h.rk (by decide))) hbb (by decide) 2 _
  · exact (h.bel.grown hg1 h.bel.size (fun k e => by cases e; exact h.hb)).setCell (p := ⟨b, 2, none⟩) h.hb _
theorem there_brT {V : World} {F : Nat → Int} {G : Nat → Bool} {m0 iv kv : Value} (h : BB V b (brT F G m0 iv kv)) (f : Nat → Int) (g : Bool) (m : Value) : V.there b 3 (confA f g m).size := by
  intro j hj
  have hj : j < 15 := hj
  refine ⟨?_, blk_free h _⟩
  rw [blk_cell h]
  rw [Array.getElem?_eq_getElem (show 3 + j < (brT F G m0 iv kv).size by show 3 + j < 27; omega)]
  rfl
set_option maxRecDepth 100000 in
set_option maxHeartbeats 4000000 in
theorem group_any (s : Value) (L : List Int) (hs : RowOf 1 encI base s L) (hlen : L.length ≤ 100000) (hLm : Limits base) (h : BO base b B mv iv kv W) :
    Calls Tryd.prog 60 #[.pointer (some ⟨b, 0, none⟩), s] W fun e W' => DeedEnd base b W (groupB B L) e W' := by
  have HC := hid (cof_any s L W (hs.below h.bel) hlen (hLm.below h.bel))
  have H := hid h
  obtain ⟨sa, sc, rfl, hs1, hs2, hs3, hop⟩ := hs.open
  clear h hs hop
  obtain ⟨R, hR⟩ : ∃ R, groupB B L = R := ⟨_, rfl⟩
  rw [hR]
  have HR := hid hR
  clear hR
  go_enter Tryd.func60, Tryd.ntmps60
  go_wp2_with fail
  refine HC.out.mono ?_
  rintro e w1 ⟨hb1, hend⟩
  have H1 := hid (H.out.below hb1)
  have HB1 := hid hb1
  have lw := H1.out.lt
  have hz := hb1.size
  rcases hend with ⟨hok, m, rfl, hom⟩ | ⟨hno, f, g, ma, mn, mc, rfl⟩
  · have HRX := hid (show R = { f := groupF B L, g := upd (upd B.g 16 (ofG L)) 2 true, M := L.drop 14, I := B.I, K := B.K } by rw [← HR.out]; unfold groupB; rw [if_pos hok])
    have HOM := hid (hom.mono (show base.heap.size ≤ W.heap.size from H.out.bel.size))
    obtain ⟨ma, mn, mc, hm⟩ := Owns.shape hom
    subst hm
    obtain ⟨T, hT⟩ : ∃ T, T = w1.alloc (.cells #[.int .i64 0, .int .i64 0, .int .i64 0, .int .i64 0, .int .i64 0, .int .i64 0, .int .i64 0, .int .i64 0, .int .i64 0, .int .i64 0, .int .i64 0, .int .i64 0, .int .i64 0, .bool false, .slice none 0 0] 24) := ⟨_, rfl⟩
    have nT : T.heap[w1.heap.size]? = some (.cells #[.int .i64 0, .int .i64 0, .int .i64 0, .int .i64 0, .int .i64 0, .int .i64 0, .int .i64 0, .int .i64 0, .int .i64 0, .int .i64 0, .int .i64 0, .int .i64 0, .int .i64 0, .bool false, .slice none 0 0] 24) := by rw [hT]; exact heap_new _ _
    have hbT : Below w1.heap.size w1 T := by rw [hT]; exact (Below.refl _ _).alloc (Nat.le_refl _) _
    obtain ⟨V, hV⟩ : ∃ V, V = T.setRow w1.heap.size (confA (ofF L) (ofG L) (.slice ma mn mc)) := ⟨_, rfl⟩
    have hst : (storeVar 24 ⟨w1.heap.size, 0, none⟩ (.agg (confA (ofF L) (ofG L) (.slice ma mn mc)))).run Tryd.prog T = .ok () V := by
      rw [hV, run_storeVar_row T w1.heap.size 24 24 _ (confA (ofF L) (ofG L) (.slice ma mn mc)) nT (conf_size _ _ _) rfl (by simp [confA, Value.oneCell'])]
    have nV : V.heap[w1.heap.size]? = some (.cells (confA (ofF L) (ofG L) (.slice ma mn mc)) 24) := by rw [hV]; exact setRow_heap T w1.heap.size _ _ _ _ nT
    have hbV : Below w1.heap.size w1 V := by rw [hV]; exact below_setRow hbT (Nat.le_refl _) _
    have HV := hid (H1.out.below hbV)
    have HOV := hid (HOM.out.below hbV)
    have HBV := hid (HB1.out.trans (hbV.mono hz))
    have NV := hid nV
    have hne : b ≠ w1.heap.size := Nat.ne_of_lt lw
    rw [hT] at hst
    have c2 := HV.out.cell 2 (.bool (B.g 2)) rfl
    have c15 := HV.out.cell 15 (.int .i64 (B.f 15)) rfl
    have lV := HV.out.lt
    have nlV : w1.heap.size < V.heap.size := blk_lt nV
    have d12 := blk_cell nV 12
    have e12 := blk_free nV 12
    have hld := load_conf nV
    have hz0 : ((0 : Int) == 0) = true := rfl
    clear hom hT nT hbT hV hbV nV hb1
    cases hg2 : B.g 2 with
    | true =>
      rw [hg2] at c2
      obtain ⟨V2, hV2⟩ : ∃ V2, V2 = V.setCell ⟨w1.heap.size, 12, none⟩ (.int .i64 (B.f 15)) := ⟨_, rfl⟩
      have hb2 : Below w1.heap.size V V2 := by rw [hV2]; exact (Below.refl _ _).setCell (p := ⟨w1.heap.size, 12, none⟩) (Nat.le_refl _) _
      have n2 : V2.heap[w1.heap.size]? = some (.cells (confA (upd (ofF L) 12 (B.f 15)) (ofG L) (.slice ma mn mc)) 24) := by
        rw [hV2, ← confA_set _ _ _ 12 (by decide)]
        exact blk_set NV.out 12 _
      have H2 := hid (show BO base b B mv iv kv V2 by
        have hb3 := blk_other HV.out.box (p := ⟨w1.heap.size, 12, none⟩) hne (.int .i64 (B.f 15))
        rw [← hV2] at hb3
        have hkt : KeptT 3 V V2 := by rw [hV2]; exact KeptT.set (p := ⟨w1.heap.size, 12, none⟩) NV.out (by decide) _
        exact ⟨hb3, HV.out.hb, HV.out.rm.kept hkt, by rw [hV2]; exact owns_at HV.out.ri NV.out (by decide) 12 _, by rw [hV2]; exact owns_at HV.out.rk NV.out (by decide) 12 _, HV.out.bel.trans (hb2.mono (Nat.le_trans H1.out.bel.size (Nat.le_refl _)))⟩)
      have hld2 := load_conf n2
      have hst2 : (storeVar 24 ⟨b, 3, none⟩ (.agg (confA (upd (ofF L) 12 (B.f 15)) (ofG L) (.slice ma mn mc)))).run Tryd.prog V2 = .ok () (V2.setCells b 3 (confA (upd (ofF L) 12 (B.f 15)) (ofG L) (.slice ma mn mc)).toList) := run_storeVar_mid V2 b 3 24 _ (there_brT H2.out.box _ _ _) (conf_size _ _ _) (by simp [confA, Value.oneCell'])
      have HO2 := hid (show OwnI V2 base.heap.size (.slice ma mn mc) (L.drop 14) by rw [hV2]; exact owns_at HOV.out NV.out (by decide) 12 _)
      have HF := hid (H2.out.setConf (upd (ofF L) 12 (B.f 15)) (ofG L) HO2.out)
      have HB2 := hid (HBV.out.trans (hb2.mono hz))
      have h2 := H2.out.cell 2 (.bool true) (by rw [← hg2]; rfl)
      have l2 := H2.out.lt
      have nl2 : w1.heap.size < V2.heap.size := blk_lt n2
      obtain ⟨U, hU⟩ : ∃ U, U = V2.setCells b 3 (confA (upd (ofF L) 12 (B.f 15)) (ofG L) (.slice ma mn mc)).toList := ⟨_, rfl⟩
      rw [← hU] at hst2 HF
      have u2 : U.cell? ⟨b, 2, none⟩ = some (.bool true) := by rw [hU, World.cell?_setCells_out _ _ _ _ _ (fun _ _ => .inl (show 2 < 3 by decide))]; exact h2
      have v2 : U.frozen? ⟨b, 2, none⟩ = false := by rw [hU, World.frozen?_setCells]; exact H2.out.free 2
      have HU := hid hU
      have HV2 := hid hV2
      clear hU hld n2 hb2
      rw [hV2] at hld2 hst2 h2
      clear hV2
      go_wp2
      go_end0
      rw [HRX.out]
      have hgf : groupF B L = fun i => if 3 ≤ i ∧ i < 16 then upd (ofF L) 12 (B.f 15) (i - 3) else B.f i := by
        funext i
        unfold groupF upd
        rw [hg2]
        by_cases hi : i = 15
        · subst hi; simp
        · have : ¬ i - 3 = 12 ∨ ¬ (3 ≤ i ∧ i < 16) := by omega
          by_cases h3 : 3 ≤ i ∧ i < 16
          · have h12 : ¬ i - 3 = 12 := by omega
            simp [h3, hi, h12]
          · simp [h3]
      rw [hgf]
      refine ⟨rfl, ⟨_, _, _, HF.out⟩, ?_⟩
      have hk := (KeepsX.below HB2.out).row (by have := setCells_grown b 3 (confA (upd (ofF L) 12 (B.f 15)) (ofG L) (.slice ma mn mc)).toList V2; rw [← HU.out] at this; exact this) H2.out.box
      exact hk.set 2 _
    | false =>
      rw [hg2] at c2
      have hst2 : (storeVar 24 ⟨b, 3, none⟩ (.agg (confA (ofF L) (ofG L) (.slice ma mn mc)))).run Tryd.prog V = .ok () (V.setCells b 3 (confA (ofF L) (ofG L) (.slice ma mn mc)).toList) := run_storeVar_mid V b 3 24 _ (there_brT HV.out.box _ _ _) (conf_size _ _ _) (by simp [confA, Value.oneCell'])
      have HF := hid (HV.out.setConf (ofF L) (ofG L) HOV.out)
      obtain ⟨U, hU⟩ : ∃ U, U = V.setCells b 3 (confA (ofF L) (ofG L) (.slice ma mn mc)).toList := ⟨_, rfl⟩
      rw [← hU] at hst2 HF
      have u2 : U.cell? ⟨b, 2, none⟩ = some (.bool false) := by rw [hU, World.cell?_setCells_out _ _ _ _ _ (fun _ _ => .inl (show 2 < 3 by decide))]; exact c2
      have v2 : U.frozen? ⟨b, 2, none⟩ = false := by rw [hU, World.frozen?_setCells]; exact HV.out.free 2
      have HU := hid hU
      clear hU
      go_wp2
      go_end0
      rw [HRX.out]
      have hgf : groupF B L = fun i => if 3 ≤ i ∧ i < 16 then ofF L (i - 3) else B.f i := by funext i; unfold groupF; rw [hg2]; simp
      rw [hgf]
      refine ⟨rfl, ⟨_, _, _, HF.out⟩, ?_⟩
      have hk := (KeepsX.below HBV.out).row (by have := setCells_grown b 3 (confA (ofF L) (ofG L) (.slice ma mn mc)).toList V; rw [← HU.out] at this; exact this) HV.out.box
      exact hk.set 2 _
  · obtain rfl : B = R := by rw [← HR.out]; unfold groupB; rw [if_neg (by simp [hno])]
    obtain ⟨T, hT⟩ : ∃ T, T = w1.alloc (.cells #[.int .i64 0, .int .i64 0, .int .i64 0, .int .i64 0, .int .i64 0, .int .i64 0, .int .i64 0, .int .i64 0, .int .i64 0, .int .i64 0, .int .i64 0, .int .i64 0, .int .i64 0, .bool false, .slice none 0 0] 24) := ⟨_, rfl⟩
    have nT : T.heap[w1.heap.size]? = some (.cells #[.int .i64 0, .int .i64 0, .int .i64 0, .int .i64 0, .int .i64 0, .int .i64 0, .int .i64 0, .int .i64 0, .int .i64 0, .int .i64 0, .int .i64 0, .int .i64 0, .int .i64 0, .bool false, .slice none 0 0] 24) := by rw [hT]; exact heap_new _ _
    have hbT : Below w1.heap.size w1 T := by rw [hT]; exact (Below.refl _ _).alloc (Nat.le_refl _) _
    obtain ⟨V, hV⟩ : ∃ V, V = T.setRow w1.heap.size (confA f g (.slice ma mn mc)) := ⟨_, rfl⟩
    have hst : (storeVar 24 ⟨w1.heap.size, 0, none⟩ (.agg (confA f g (.slice ma mn mc)))).run Tryd.prog T = .ok () V := by
      rw [hV, run_storeVar_row T w1.heap.size 24 24 _ (confA f g (.slice ma mn mc)) nT (conf_size _ _ _) rfl (by simp [confA, Value.oneCell'])]
    have hbV : Below w1.heap.size w1 V := by rw [hV]; exact below_setRow hbT (Nat.le_refl _) _
    have HV := hid (H1.out.below hbV)
    have HBV := hid (HB1.out.trans (hbV.mono hz))
    rw [hT] at hst
    clear hb1 hV hbT hbV nT hT
    go_wp2
    go_end0
    exact ⟨rfl, ⟨_, _, _, HV.out⟩, KeepsX.below HBV.out⟩
end
end Go.Proofs.YthnigndpibgibaaDoor
