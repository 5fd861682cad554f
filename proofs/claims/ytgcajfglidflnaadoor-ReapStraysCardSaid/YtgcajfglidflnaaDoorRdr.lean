import Derived.Test.YtgcajfglidflnaaDoorRcd
/- reap.Records: what a listing says. -/
namespace Go.Proofs.YtgcajfglidflnaaDoor
open Go.RowKit Go.Shelf
attribute [-go_sem] loadVar storeVar Instr.buildSlice
attribute [local go_sem] load_other store_other Oper.semAt_some

section
variable {base W W' : World} {T : Nat} {B : BrainV}
theorem Owns.apart {α : Type} {k : Nat} {e t : TypeId} {enc : α → List Value} {b : Nat} {v : Value} {l : List α} {row : Option Nat} (h : Owns k e enc W b v l) (hg : W.grownBy W' row) (hr : ∀ r, row = some r → ∃ c, W.heap[r]? = some (.cells c t)) (hne : e ≠ t) : Owns k e enc W' b v l := by
 refine World.ownsRow.kept h hg ?_
 obtain ⟨_, ⟨rfl, _⟩ | ⟨g, cap, cur, rfl, _, hgc, _⟩⟩ := h
 ·exact .inl rfl
 ·refine .inr fun e' => ?_
  obtain ⟨c, hc⟩ := hr g (by rw [← e']; rfl)
  rw [hgc] at hc; cases hc; exact hne rfl
theorem BrVar.own {row : Option Nat} (h : BrVar base W T B) (hg : W.grownBy W' row) (hr : ∀ r, row = some r → ∃ o : Obj, W.heap[r]? = some o ∧ o.isCells = false) : BrVar base W' T B := by
 obtain ⟨mv, iv, kv, h1, h2, h3, h4⟩ := h
 exact ⟨mv, iv, kv, own_blk h1 hg hr, h2.kept (fun b c q => own_blk q hg hr), h3.own hg hr, h4.own hg hr⟩
theorem BrVar.set {p : Nat} {c : Array Value} {t : TypeId} (h : BrVar base W T B) (hp : W.heap[p]? = some (.cells c t)) (hne : t ≠ 30 ∧ t ≠ 3 ∧ t ≠ 53 ∧ t ≠ 41) (j : Nat) (u : Value) : BrVar base (W.setCell ⟨p, j, none⟩ u) T B := by
 obtain ⟨mv, iv, kv, h1, h2, h3, h4⟩ := h
 refine ⟨mv, iv, kv, blk_far h1 (fun e => ?_) u, h2.kept (KeptT.set (p := ⟨p, j, none⟩) hp hne.2.1 u), owns_at h3 hp (Ne.symm hne.2.2.1) j u, owns_at h4 hp (Ne.symm hne.2.2.2) j u⟩
 subst e
 unfold BB at h1
 rw [hp] at h1
 cases h1
 exact hne.1 rfl
theorem BrVar.grown {row : Option Nat} {t : TypeId} (h : BrVar base W T B) (hg : W.grownBy W' row) (hr : ∀ r, row = some r → ∃ c, W.heap[r]? = some (.cells c t)) (hne : t ≠ 30 ∧ t ≠ 3 ∧ t ≠ 53 ∧ t ≠ 41) : BrVar base W' T B := by
 obtain ⟨mv, iv, kv, h1, h2, h3, h4⟩ := h
 refine ⟨mv, iv, kv, blk_grown h1 hg (fun e => ?_), h2.kept (KeptT.grown hg hr hne.2.1), h3.apart hg hr (Ne.symm hne.2.2.1), h4.apart hg hr (Ne.symm hne.2.2.2)⟩
 obtain ⟨c, hc⟩ := hr T e.symm
 unfold BB at h1
 rw [hc] at h1
 cases h1
 exact hne.1 rfl
end
theorem KpR.set {b p : Nat} {W : World} {c : Array Value} {t : TypeId} (hp : W.heap[p]? = some (.cells c t)) (hb : b ≤ p) (ht : t = 30 ∨ t = 62 ∨ t = 38) (j : Nat) (u : Value) : KpR b W (W.setCell ⟨p, j, none⟩ u) := by
 refine ⟨by simp, fun k o hk ho => blk_far hk (fun e => ?_) u⟩
 subst e
 rw [hp] at hk
 cases hk
 rcases ho with ho | ho
 ·omega
 ·exact ho (.inr ⟨_, _, rfl, ht⟩)
theorem KpR.row {b p : Nat} {W : World} {c : Array Value} {t : TypeId} (hp : W.heap[p]? = some (.cells c t)) (hb : b ≤ p) (ht : t = 30 ∨ t = 62 ∨ t = 38) (cs : Array Value) : KpR b W (W.setRow p cs) := by
 refine ⟨by simp, fun k o hk ho => (setRow_other W p k cs (fun e => ?_)).trans hk⟩
 subst e
 rw [hp] at hk
 cases hk
 rcases ho with ho | ho
 ·omega
 ·exact ho (.inr ⟨_, _, rfl, ht⟩)
theorem KpR.grown {b : Nat} {W W' : World} {row : Option Nat} {t : TypeId} (hg : W.grownBy W' row) (hr : ∀ r, row = some r → b ≤ r ∧ ∃ c, W.heap[r]? = some (.cells c t)) (ht : t = 30 ∨ t = 62 ∨ t = 38) : KpR b W W' := by
 refine ⟨hg.size, fun k o hk ho => blk_grown hk hg (fun e => ?_)⟩
 obtain ⟨h1, c, hc⟩ := hr k e.symm
 rw [hc] at hk
 cases hk
 rcases ho with ho | ho
 ·omega
 ·exact ho (.inr ⟨_, _, rfl, ht⟩)
/-- Records in memory, their numbers. -/
def RecsL (w : World) (l : List RecP) (v : Value) : Prop := ∃ R : List RecE, R.map klR = l ∧ RecsR w R v
theorem RecsL.below {w w' : World} {l : List RecP} {v : Value} (h : RecsL w l v) (hb : Below w.heap.size w w') : RecsL w' l v := by
 obtain ⟨R, h1, h2⟩ := h
 exact ⟨R, h1, h2.below hb⟩
theorem toldL_snoc : ∀ (l : List RecP) (B : BrainV) (r : RecP), toldL B (l ++ [r]) = toldL B l ++ (if sameB (applyB (applyL B l) r.1 r.2) (applyL B l) = true then [] else [r])
 | [], B, r => by
  show (if sameB (applyB B r.1 r.2) B = true then [] else [r]) ++ [] = [] ++ _
  rw [List.append_nil, List.nil_append]
  rfl
 | x :: l, B, r => by
  rw [List.cons_append]
  unfold toldL
  rw [toldL_snoc l, List.append_assoc]
  rfl
theorem infoRc : (Tryd.prog.info? 62).map (fun i => (i.zero, i.size, i.bytes)) = some (some (.agg #[.int .u8 0, .slice none 0 0]), 2, 32) := by kernel_rfl
theorem bs_recC (k : Int) (a : Option Addr) (n c : Nat) (w : World) : (Instr.buildSlice 38 1 #[(0, .agg #[.int .u8 k, .slice a n c])]).run Tryd.prog w = .ok (.slice (some ⟨w.heap.size, 0, none⟩) 1 1) (w.alloc (.cells #[.int .u8 k, .slice a n c] 62)) := by kernel_rfl
theorem grown_one {a T : Nat} {w X Y : World} (h1 : Below a w X) (h2 : Below a w Y) (ho : ∀ i, i ≠ T → Y.heap[i]? = X.heap[i]?) (hs : Y.heap.size = X.heap.size) : X.grownBy Y (some T) :=
 ⟨h2.os.trans h1.os.symm, h2.tape.trans h1.tape.symm, h2.output.trans h1.output.symm, by rw [hs]; exact Nat.le_refl _, fun i _ hi => ho i (fun e => hi (by rw [e]))⟩
theorem keeps_one {B T : Nat} {X Y : World} {c : Array Value} {t : TypeId} (hT : X.heap[T]? = some (.cells c t)) (hg : X.grownBy Y (some T)) : KeepsFrom B X Y :=
 ⟨hg.size, fun k o _ hk ho => blk_grown hk hg (fun e => by cases e; rw [hT] at hk; cases hk; cases ho)⟩
theorem kpr_one {b T : Nat} {X Y : World} {c : Array Value} (hb : b ≤ T) (hT : X.heap[T]? = some (.cells c 30)) (hg : X.grownBy Y (some T)) : KpR b X Y := KpR.grown hg (fun r e => by cases e; exact ⟨hb, _, hT⟩) (.inl rfl)
/-- What Records has done. -/
structure RdI (B : BrainV) (w w2 : World) (pre : List RecE) (W : World) : Prop where
 br : BrVar w W w.heap.size (applyAll B pre)
 row : ∃ v R, W.heap[w.heap.size + 1 + 1]? = some (.cells #[v] 38) ∧ R.map klR = toldL B (pre.map klR) ∧ Owns 2 62 encR W w2.heap.size v R ∧ (∀ r ∈ R, OwnI W w2.heap.size r.s r.L) ∧ R.length ≤ pre.length
 bel : Below w.heap.size w W
 sz : w2.heap.size ≤ W.heap.size
theorem RdI.own {B : BrainV} {w w2 : World} {b : Nat} (hB : w2.heap.size ≤ b) (hw : w.heap.size ≤ w2.heap.size) : OwnFrom b (RdI B w w2) := by
 rintro pre W W' row ⟨h1, ⟨v, R, h2, h3, h4, h5, h6⟩, h7, h8⟩ hg hr
 have hr' : ∀ r, row = some r → ∃ o : Obj, W.heap[r]? = some o ∧ o.isCells = false := fun r e => (hr r e).2
 exact ⟨h1.own hg hr', ⟨v, R, own_blk h2 hg hr', h3, h4.own hg hr', fun r hm => (h5 r hm).own hg hr', h6⟩, h7.grown hg h7.size (fun k e => Nat.le_trans (Nat.le_trans hw hB) (hr k e).1), Nat.le_trans h8 hg.size⟩
def RdA (w w2 : World) (x : RecE) (a' : Act) (W : World) : Prop :=
 ∃ (Bx : Nat) (u0 u1 u2 u4 u5 u8 u9 u10 u11 u12 u13 u14 u15 u16 u17 u18 u19 u20 u21 u22 u23 u24 u25 u26 u27 u28 u29 : Value), w2.heap.size ≤ Bx ∧ W.heap[Bx]? = some (.cells #[.int .u8 x.k, x.s] 62) ∧ OwnI W w2.heap.size x.s x.L ∧ kindR (klR x) ∧ a' = { tmps := #[u0, u1, u2, .pointer (some ⟨w.heap.size, 0, none⟩), u4, u5, .pointer (some ⟨w.heap.size + 1 + 1, 0, none⟩), .pointer (some ⟨Bx, 0, none⟩), u8, u9, u10, u11, u12, u13, u14, u15, u16, u17, u18, u19, u20, u21, u22, u23, u24, u25, u26, u27, u28, u29], defers := [] }
theorem RdA.own {w w2 : World} {b : Nat} (x : RecE) (a' : Act) : OwnFrom b (fun (_ : Unit) W => RdA w w2 x a' W) := by
 rintro _ W W' row ⟨Bx, u0, u1, u2, u4, u5, u8, u9, u10, u11, u12, u13, u14, u15, u16, u17, u18, u19, u20, u21, u22, u23, u24, u25, u26, u27, u28, u29, h1, h2, h3, h5, h4⟩ hg hr
 exact ⟨Bx, u0, u1, u2, u4, u5, u8, u9, u10, u11, u12, u13, u14, u15, u16, u17, u18, u19, u20, u21, u22, u23, u24, u25, u26, u27, u28, u29, h1, own_blk h2 hg (fun r e => (hr r e).2), h3.own hg (fun r e => (hr r e).2), h5, h4⟩
theorem new_cellsR (W : World) (k : Int) (s : Value) (L : List Int) (t : TypeId) : ∀ j u, (encR ⟨k, s, L⟩)[j]? = some u → (W.alloc (.cells #[.int .u8 k, s] t)).cell? ((⟨W.heap.size, 0, none⟩ : Addr).add j) = some u := by
 intro j u hj
 rw [show ((⟨W.heap.size, 0, none⟩ : Addr).add j) = ⟨W.heap.size, j, none⟩ by unfold Addr.add; split <;> simp_all]
 rw [blk_cell (heap_new W _)]
 simpa [encR] using hj
theorem encR_oneA (k : Int) (a : Option Addr) (n c : Nat) (L : List Int) : ∀ u ∈ encR ⟨k, .slice a n c, L⟩, u.oneCell' = true := by
 intro u hu
 simp only [encR, List.mem_cons, List.not_mem_nil, or_false] at hu
 rcases hu with rfl | rfl <;> rfl
theorem res_recs {fn : Func} {tmps : Array Value} {r : Tmp} {b : Nat} {v : Value} {t : TypeId} {W : World} (hres : fn.results = #[.cell r 38]) (h : tmps.getD r undef = .pointer (some ⟨b, 0, none⟩)) (hb : W.heap[b]? = some (.cells #[v] t)) :
  (results fn tmps).run Tryd.prog W = .ok v W := by
 have k0 := blk_cell hb 0
 simp only [List.getElem?_toArray, List.getElem?_cons_zero] at k0
 rw [Array.getD_eq_getD_getElem?] at h
 simp [results, hres, go_sem, h, k0]
/-- Behind an append of a record: the slice's box, then the brain's, are stored. -/
theorem rd_app {w w2 W X9 w1 : World} {T8 n : Nat} {C D : BrainV} {lv v' : Value} {R : List RecE} {y : RecE} {o : Array Value} (h8 : BrVar W X9 T8 D) (hT : BrVar w X9 w.heap.size C) (hb9 : Below w.heap.size w X9) (hle : w.heap.size ≤ W.heap.size)
  (hl1 : X9.heap[w.heap.size + 1 + 1]? = some (.cells #[lv] 38)) (hown : w1.ownsRow w2.heap.size 62 2 v' n (R.flatMap encR ++ encR y)) (hgr : (X9.alloc (.cells o 62)).grownBy w1 lv.ownBlock) (hlv : ∀ g, lv.ownBlock = some g → w2.heap.size ≤ g ∧ ∃ c, X9.heap[g]? = some (.cells c 62)) (hTl : w.heap.size + 1 + 1 < w2.heap.size) (_hx9 : w2.heap.size ≤ X9.heap.size) (hn : n = R.length + 1 := by rfl) :
  ∃ u' X10, (loadVar 30 ⟨T8, 0, none⟩).run Tryd.prog (w1.setCell ⟨w.heap.size + 1 + 1, 0, none⟩ v') = .ok u' (w1.setCell ⟨w.heap.size + 1 + 1, 0, none⟩ v') ∧ (storeVar 30 ⟨w.heap.size, 0, none⟩ u').run Tryd.prog (w1.setCell ⟨w.heap.size + 1 + 1, 0, none⟩ v') = .ok () X10 ∧ T8 < w1.heap.size ∧
   w1.heap[w.heap.size + 1 + 1]? = some (.cells #[lv] 38) ∧
   BrVar w X10 w.heap.size D ∧ Below w.heap.size w X10 ∧ X10.heap[w.heap.size + 1 + 1]? = some (.cells #[v'] 38) ∧ Owns 2 62 encR X10 w2.heap.size v' (R ++ [y]) ∧ (∀ s l, OwnI X9 w2.heap.size s l → OwnI X10 w2.heap.size s l) ∧ KeepsFrom w2.heap.size X9 X10 ∧ KpR w.heap.size X9 X10 ∧ X9.heap.size ≤ X10.heap.size := by
 have hal : Below X9.heap.size X9 (X9.alloc (.cells o 62)) := (Below.refl _ _).alloc (Nat.le_refl _) _
 have hrow : ∀ r, lv.ownBlock = some r → ∃ c, (X9.alloc (.cells o 62)).heap[r]? = some (.cells c 62) := fun r e => by
  obtain ⟨_, c, hc⟩ := hlv r e
  exact ⟨c, blk_alloc hc _⟩
 have hq : w1.heap[w.heap.size + 1 + 1]? = some (.cells #[lv] 38) := blk_grown (blk_alloc hl1 _) hgr (fun e => by have := (hlv _ e.symm).1; omega)
 have hq' : (w1.setCell ⟨w.heap.size + 1 + 1, 0, none⟩ v').heap[w.heap.size + 1 + 1]? = some (.cells #[v'] 38) := by simpa using blk_set hq 0 v'
 have b8 := ((h8.below hal).grown hgr hrow (by decide)).set hq (by decide) 0 v'
 have bT := ((hT.below hal).grown hgr hrow (by decide)).set hq (by decide) 0 v'
 have hb1 : Below w.heap.size w w1 := (hb9.alloc hb9.size _).grown hgr (Nat.le_trans hb9.size (by simp)) (fun r e => by have := (hlv r e).1; omega)
 have hbZ : Below w.heap.size w (w1.setCell ⟨w.heap.size + 1 + 1, 0, none⟩ v') := hb1.setCell (p := ⟨w.heap.size + 1 + 1, 0, none⟩) (by simp; omega) _
 obtain ⟨u', hu⟩ := b8.is
 obtain ⟨mT, iT, kT, hTb, _⟩ := bT
 obtain ⟨X10, hst, _, hbv, hbx, hXo, hXs⟩ := brEnd_store (W := w) ((b8.end hu).base hle) hTb rfl hbZ (Nat.le_refl _)
 have hg10 := grown_one hbZ hbx hXo hXs
 have hT8 : T8 < w1.heap.size := by have := hu.lt; simpa using this
 have hk1 : KeepsFrom w2.heap.size X9 w1 := ⟨Nat.le_trans hal.size hgr.size, fun k ob hB hk ho => blk_grown (blk_alloc hk _) hgr (fun e => by
  obtain ⟨c, hc⟩ := (hlv k e.symm).2
  rw [hc] at hk
  cases hk
  cases ho)⟩
 have hk2 : KpR w.heap.size X9 w1 := (KpR.below hal).trans (KpR.grown hgr (fun r e => ⟨by have := (hlv r e).1; omega, hrow r e⟩) (.inr (.inl rfl)))
 refine ⟨u', X10, hu.load, hst, hT8, hq, hbv, hbx, (hXo _ (by omega)).trans hq', ?_, fun s l h => ?_, ?_, ?_, ?_⟩
 ·refine Owns.apart (t := 30) ?_ hg10 (fun r e => by cases e; exact ⟨_, hTb⟩) (by decide)
  refine owns_at (t := 38) ?_ hq (by decide) 0 _
  unfold Owns
  subst hn
  simpa [List.flatMap_append] using hown
 ·refine Owns.apart (t := 30) ?_ hg10 (fun r e => by cases e; exact ⟨_, hTb⟩) (by decide)
  exact owns_at (Owns.apart (Owns.below h hal) hgr hrow (by decide)) hq (by decide) 0 _
 ·exact (hk1.trans ((KeepsOthers.setCell _ _ _).from _)).trans (keeps_one hTb hg10)
 ·exact (hk2.trans (KpR.set hq (by omega) (.inr (.inr rfl)) 0 _)).trans (kpr_one (Nat.le_refl _) hTb hg10)
 ·have := hk1.size
  rw [hXs]
  simpa using this
set_option maxRecDepth 100000 in
set_option maxHeartbeats 8000000 in
theorem reap_any (B : BrainV) (bv : Array Value) (on : Bool) (frm beh now : Int) (sv : Value) (L : List SeenV) (w : World) (hB : BrIs w B (.agg bv)) (hs : RowS w sv L) (hF : Fine B 100) (hlL : L.length ≤ 60) (hlM : B.M.length ≤ 100000) (hC : Changes w) (hL : Limits w) :
  Calls Tryd.prog 11 #[.agg bv, .agg #[.bool on, .int .i64 frm, .int .i64 beh, sv], .int .i64 now] w fun e w' => ∃ v, e = .returned v ∧ RecsL w' (recordsL B L frm now) v ∧ Below w.heap.size w w' := by
 obtain ⟨r0, hr0, hr1, hr2, hr3⟩ := info_parts infoRc
 have HI0 := hid hr0
 have HI1 := hid hr1
 have HI2 := hid hr2
 have HI3 := hid hr3
 clear hr0 hr1 hr2 hr3
 obtain ⟨sa, sc, rfl, _⟩ := hs.open
 obtain ⟨W1, hW1⟩ : ∃ W1, W1 = ((w.alloc (.cells bv 30)).alloc (.cells #[.bool on, .int .i64 frm, .int .i64 beh, .slice sa L.length sc] 33)).alloc (.cells #[.slice none 0 0] 38) := ⟨_, rfl⟩
 have hb1 : Below w.heap.size w W1 := by rw [hW1]; exact (((Below.refl _ _).alloc (Nat.le_refl _) _).alloc (by simp) _).alloc (by simp; omega) _
 have n0 : BB W1 w.heap.size bv := by rw [hW1]; exact blk_alloc (blk_alloc (heap_new _ _) _) _
 have n1 : W1.heap[w.heap.size + 1]? = some (.cells #[.bool on, .int .i64 frm, .int .i64 beh, .slice sa L.length sc] 33) := by rw [hW1]; exact blk_alloc (heap_new2 _ _ _) _
 have n2 : W1.heap[w.heap.size + 1 + 1]? = some (.cells #[.slice none 0 0] 38) := by rw [hW1]; simpa using heap_new2 (w.alloc _) _ _
 obtain ⟨mv, iv, kv, e, h1, h2, h3⟩ := hB
 have HV := hid (show VarIs W1 w.heap.size B (.agg bv) from by cases e; exact ⟨mv, iv, kv, rfl, n0, h1.below hb1, h2.below hb1, h3.below hb1⟩)
 have hbz : bv.size = 27 := by cases e; rfl
 have HBZ := hid hbz
 have HW1 := hid hW1
 have HB1 := hid hb1
 have N0 := hid n0
 have N1 := hid n1
 have N2 := hid n2
 have HS := hid hs
 have HF := hid hF
 have HC := hid hC
 have HL := hid hL
 clear e h1 h2 h3 n0 n1 n2 hb1 hW1 hs hF hC hL hbz
 refine (callsIn_wide (n := 4)).1 ?_
 refine callsIn_of_wp_marks Tryd.func11 rfl trivial ?_ rfl
 simp only [Tryd.ntmps11, List.size_toArray, List.length_cons, List.length_nil, Nat.reduceAdd, Nat.reduceSub, Array.replicate_succ, Array.replicate_zero, List.push_toArray, List.append_toArray, List.nil_append, List.cons_append]
 refine wpIn_wide.2 ?_
 go_upto_region 1 with (fail)
 rw [← HW1.out]
 have hld := HV.out.load
 go_wp2_with fail
 refine (own_is HV.out.is (by omega) (by have := HF.out.1; omega) (by have := HF.out.2.1; omega)).mono ?_
 rintro e V0 ⟨u0, rfl, hend, hb⟩
 obtain ⟨X, hst, hvar, hbvr, hbx, hXo, hXs⟩ := brEnd_store (W := w) hend (blk_below N0.out hb (blk_lt N0.out)) HBZ.out (HB1.out.trans (hb.mono HB1.out.size)) (Nat.le_refl _)
 have X1 := hid ((hXo (w.heap.size + 1) (by omega)).trans (blk_below N1.out hb (blk_lt N1.out)))
 have X2 := hid ((hXo (w.heap.size + 1 + 1) (by omega)).trans (blk_below N2.out hb (blk_lt N2.out)))
 have HBV := hid (show BrVar w X w.heap.size B by obtain ⟨_, _, _, g0, g1, g2, g3⟩ := hbvr; exact ⟨_, _, _, g0, g1, g2.mono HB1.out.size, g3.mono HB1.out.size⟩)
 have HBX := hid hbx
 clear hend hb hvar hbvr hXo hXs hbx hld HV N0 N1 N2 HB1 HW1
 have s0 : X.cell? ⟨w.heap.size + 1, 0, none⟩ = some (.bool on) := blk_cell X1.out 0
 have s1 : X.cell? ⟨w.heap.size + 1, 1, none⟩ = some (.int .i64 frm) := blk_cell X1.out 1
 have s2 : X.cell? ⟨w.heap.size + 1, 2, none⟩ = some (.int .i64 beh) := blk_cell X1.out 2
 have s3 : X.cell? ⟨w.heap.size + 1, 3, none⟩ = some (.slice sa L.length sc) := blk_cell X1.out 3
 have sl := blk_lt X1.out
 go_wp2_with fail
 refine (records_make w.heap.size on frm beh (nowL now) sa L.length sc X).mono ?_
 rintro e w2 ⟨rfl, p1, p2, p3, pb⟩
 obtain ⟨Bp, hBp⟩ : ∃ q, X.heap.size = q := ⟨_, rfl⟩
 rw [hBp] at p1 p2 p3 ⊢
 ·have hbw2 := HBX.out.trans (pb.mono HBX.out.size)
  have hrb : RowB w.heap.size w2 (.slice sa L.length sc) L := ⟨HS.out.below hbw2, fun b' off n c he hn => by
   cases he
   rcases HS.out with ⟨_, _, he, rfl, _⟩ | ⟨_, b1, o1, c1, he, _, _, hbl, _⟩
   ·simp at hn
   ·cases he; exact hbl⟩
  have HSEQ := hid (records_all 3 (by omega) w.heap.size w.heap.size Bp B on frm beh (nowL now) (.slice sa L.length sc) L w2 hbw2.size p1 p2 p3 hrb (by have := HF.out.2.1; omega) (by have := HF.out.1; omega) HF.out.2.2 hlL (by have := HF.out.2.1; omega))
  have HBW := hid hbw2
  have HI := hid (show RdI B w w2 [] w2 from ⟨HBV.out.below pb, ⟨_, [], blk_below X2.out pb (blk_lt X2.out), rfl, Owns.nil _ _, (fun r hr => by cases hr), Nat.le_refl _⟩, hbw2, Nat.le_refl _⟩)
  have hTl : w.heap.size + 1 + 1 < w2.heap.size := blk_lt (blk_below X2.out pb (blk_lt X2.out))
  have hbr := bs_recC
  clear p1 p2 p3 pb hbw2 hrb hBp s0 s1 s2 s3 sl X1 X2 HBV HBX hst
  go_wp2_with fail
  refine (wpIn_wide (n := 4)).1 ?_
  refine range_allZ rfl (by omega) (gf := 41) (lb := #[.pointer (some ⟨Bp + 1, 0, none⟩), .pointer (some ⟨Bp, 0, none⟩), .pointer (some ⟨Bp + 1 + 1, 0, none⟩)]) rfl trivial (enters_of Tryd.func41 (by kernel_rfl) rfl)
   HSEQ.out (fun h k => h.trans k) (fun W l r r' hl h => KpR.put r' (by omega) h) (Below.refl _ _) (fun _ => rfl)
   (RdI B w w2) (RdI.own (Nat.le_refl _) (by omega)) HI.out (fun pre W h => h.br.is)
   (RdA w w2) (fun x a' => RdA.own x a') ?assign ?body ?done
  case assign =>
   rintro l pre ⟨xk, xs, xL⟩ W K hI ⟨hG, hkd⟩ hlt hK
   obtain ⟨xa, xn, xc, hxs⟩ := Owns.shape hG
   dsimp only at hxs
   subst hxs
   have HK := hid hK
   have HIW := hid hI
   have HG := hid hG
   have HKD := hid hkd
   clear hK hI hG hkd HSEQ
   simp only [itemR21, recV]
   gi_wp2
   have hal : Below W.heap.size W (W.alloc (.cells #[.int .u8 xk, .slice xa xn xc] 62)) := (Below.refl _ _).alloc (Nat.le_refl _) _
   exact HK.out _ _ ((KeepsOthers.alloc _ _).from _) (KpR.below hal) ((RdI.own (Nat.le_refl _) (by omega)).alloc _ HIW.out) ⟨W.heap.size, _, _, _, _, _, _, _, _, _, _, _, _, _, _, _, _, _, _, _, _, _, _, _, _, _, _, _, HIW.out.sz, heap_new W _, Owns.below HG.out hal, HKD.out, rfl⟩
  case body =>
   rintro l pre ⟨xk, xs, xL⟩ a' W hl hI ⟨Bx, u0, u1, u2, u4, u5, u8, u9, u10, u11, u12, u13, u14, u15, u16, u17, u18, u19, u20, u21, u22, u23, u24, u25, u26, u27, u28, u29, hBx, bx, hG, hkd, rfl⟩ hlt
   dsimp only at bx hG
   obtain ⟨xa, xn, xc, hxs⟩ := Owns.shape hG
   subst hxs
   obtain ⟨C, hC⟩ : ∃ C, applyAll B pre = C := ⟨_, rfl⟩
   have hbrv := hI.br
   rw [hC] at hbrv
   obtain ⟨v, hv⟩ := hbrv.is
   obtain ⟨lv, R, q1, q2, q3, q4, q5⟩ := hI.row
   obtain ⟨la, ln, lc, rfl⟩ := Owns.shape q3
   have hplen : pre.length < 160 := by have := HF.out.2.1; omega
   have hfine : Fine C 900 := by rw [← hC]; exact HF.out.all pre (by omega)
   have hCM : C.M.length ≤ 100000 := by rw [← hC]; exact appM (by omega) pre hlM
   have hxl : xL.length ≤ 5 := by have := hkd; unfold kindR klR at this; dsimp only at this; omega
   have HAP := hid (apply_is xk xL 900 (r := .agg #[.int .u8 xk, .slice xa xn xc]) hv.is ⟨_, rfl, hG.row (fun _ => rfl) (by decide)⟩ hfine (by omega) (by omega) (by omega) (HC.out.below hI.bel) (HL.out.below hI.bel))
   have hld := hv.load
   obtain ⟨g0, g1, _, gl⟩ := blk2 bx
   have htl := hv.lt
   have HV := hid hv
   have HBRV := hid hbrv
   have HIW := hid hI
   have HCC := hid hC
   have Q1 := hid q1
   have Q2 := hid q2
   have Q3 := hid q3
   have Q4 := hid q4
   have Q5 := hid q5
   have HG := hid hG
   have HBX := hid bx
   have HPL := hid hplen
   clear hI hC hbrv hv q1 q2 q3 q4 q5 hfine hCM hxl hkd bx hplen HSEQ HI
   gi_wp2_with fail
   refine ⟨trivial, (CallsIn.inRound l (callsIn_wide.2 HAP.out)).mono ?_⟩
   rintro e V ⟨u, rfl, hend, hb⟩
   obtain ⟨D, hD⟩ : ∃ D, applyB C xk xL = D := ⟨_, rfl⟩
   rw [hD] at hend
   have hal : Below V.heap.size V (V.alloc (.cells zeroBr 30)) := (Below.refl _ _).alloc (Nat.le_refl _) _
   obtain ⟨X8, hst8, hvar8, hbv8, hbx8, hXo8, hXs8⟩ := brEnd_store (W := W) (hend.below hal) (heap_new V _) rfl (hb.trans (hal.mono hb.size)) hb.size
   replace hst8 : (storeVar 30 ⟨V.heap.size, 0, none⟩ u).run Tryd.prog (V.alloc (.cells #[.int .i64 0, .int .i64 0, .bool false, .int .i64 0, .int .i64 0, .int .i64 0, .int .i64 0, .int .i64 0, .int .i64 0, .int .i64 0, .int .i64 0, .int .i64 0, .int .i64 0, .int .i64 0, .int .i64 0, .int .i64 0, .bool false, .slice none 0 0, .slice none 0 0, .slice none 0 0, .int .u8 0, .int .i64 0, .int .i64 0, .int .i64 0, .bool false, .int .i64 0, .int .i64 0] 30)) = .ok () X8 := hst8
   have hld8 := hvar8.load
   have hld9 := (HV.out.below hbx8).load
   obtain ⟨sb, hsb⟩ : ∃ q, sameB D C = q := ⟨_, rfl⟩
   have HSM := hid (bsame_is sb hsb hvar8.is (HV.out.below hbx8).is)
   have HSB := hid hsb
   have HDD := hid hD
   have HV8 := hid hvar8
   have HBV8 := hid hbv8
   have HBX8 := hid hbx8
   have ht8 : V.heap.size < X8.heap.size := hvar8.lt
   have htl8 : w.heap.size < X8.heap.size := (HV.out.below hbx8).lt
   have HTW := hid (show W.heap.size ≤ V.heap.size from hb.size)
   clear hend hal hvar8 hbv8 hbx8 hXo8 hXs8 hsb hD hb
   gi_wp2_with fail
   refine ⟨trivial, (CallsIn.inRound l (callsIn_wide.2 HSM.out)).mono ?_⟩
   rintro e X9 ⟨rfl, hb9⟩
   obtain ⟨T8, hT8⟩ : ∃ T, V.heap.size = T := ⟨_, rfl⟩
   rw [hT8] at HV8 HBV8 HTW ⊢
   clear hst8 hld8 hld9 hT8 ht8 htl8 hld g0 g1 gl htl
   have hb9W := HBX8.out.trans (hb9.mono HBX8.out.size)
   have hbT := HBRV.out.below hb9W
   have hv9 := HV8.out.below hb9
   have hbv9 := HBV8.out.below hb9
   have HB9 := hid hb9W
   have HBT := hid hbT
   have HV9 := hid hv9
   have HBV9 := hid hbv9
   have L1 := hid (blk_below Q1.out hb9W (blk_lt Q1.out))
   have L3 := hid (Owns.below Q3.out hb9W)
   have L4 := hid (show ∀ r ∈ R, OwnI X9 w2.heap.size r.s r.L from fun r hr => Owns.below (Q4.out r hr) hb9W)
   have LG := hid (Owns.below HG.out hb9W)
   have LX := hid (blk_below HBX.out hb9W (blk_lt HBX.out))
   have hbel9 := HIW.out.bel.trans (hb9W.mono HIW.out.bel.size)
   have HBEL := hid hbel9
   have hsnoc : applyAll B (pre ++ [⟨xk, .slice xa xn xc, xL⟩]) = D := by
    rw [← HDD.out, ← HCC.out]
    unfold applyAll
    rw [List.foldl_append]
    rfl
   have htold := toldL_snoc (pre.map klR) B (xk, xL)
   rw [← applyAll_L, HCC.out, HDD.out, HSB.out] at htold
   have HSNOC := hid hsnoc
   have HTOLD := hid (show toldL B ((pre ++ [(⟨xk, .slice xa xn xc, xL⟩ : RecE)]).map klR) = toldL B (pre.map klR) ++ (if sb = true then [] else [(xk, xL)]) from by rw [List.map_append]; exact htold)
   have HK9 := hid (show KeepsFrom w2.heap.size W X9 from ⟨hb9W.size, fun k o _ hk _ => blk_below hk hb9W (blk_lt hk)⟩)
   clear hb9 hb9W hbT hv9 hbv9 hbel9 hsnoc htold HSM HAP HV HBX8
   cases sb with
   | true =>
    obtain ⟨mT, iT, kT, hTb, _⟩ := HBT.out
    obtain ⟨X10, hst10, _, hbv10, hbx10, hXo10, hXs10⟩ := brEnd_store (W := w) ((HBV9.out.end HV9.out).base HIW.out.bel.size) hTb rfl HBEL.out (Nat.le_refl _)
    have hld8 := HV9.out.load
    have ht8 := HV9.out.lt
    have hg := grown_one HBEL.out hbx10 hXo10 hXs10
    have HTB := hid hTb
    have HBV10 := hid hbv10
    have HBX10 := hid hbx10
    have HO10 := hid hXo10
    have HS10 := hid hXs10
    have HGR := hid hg
    clear hTb hbv10 hbx10 hXo10 hXs10 hg
    gi_wp2
    refine ⟨rfl, HK9.out.trans (keeps_one HTB.out HGR.out), (KpR.below HB9.out).trans (kpr_one (by omega) HTB.out HGR.out), ⟨by rw [HSNOC.out]; exact HBV10.out, ⟨_, R, (HO10.out _ (by omega)).trans L1.out, by rw [Q2.out, HTOLD.out]; simp, Owns.apart L3.out HGR.out (fun r e => by cases e; exact ⟨_, HTB.out⟩) (by decide), fun r hr => Owns.apart (L4.out r hr) HGR.out (fun r e => by cases e; exact ⟨_, HTB.out⟩) (by decide), by have := Q5.out; simp; omega⟩, HBX10.out, by have := HS10.out; have := HB9.out.size; have := HIW.out.sz; omega⟩⟩
   | false =>
    obtain ⟨l0, lf, ll⟩ := blk1 L1.out
    obtain ⟨g0, g1, _, gl⟩ := blk2 LX.out
    have hRl : R.length ≤ 160 := by have := Q5.out; have := HPL.out; omega
    have hx9 : w2.heap.size ≤ X9.heap.size := Nat.le_trans HIW.out.sz HB9.out.size
    have HTY := hid (fun g e => (⟨(Owns.block L3.out g e).1, Owns.typed L3.out g e⟩ : w2.heap.size ≤ g ∧ ∃ c, X9.heap[g]? = some (.cells c 62)))
    gi_wp2_with (gi_at_builtin; refine wpListIn_append_own _ rfl _ _ 38 rfl w2.heap.size 62 r0 _ 2 32 Tryd.underlying38 HI0.out HI1.out HI2.out HI3.out rfl (by decide) _ R.length _ rfl (World.ownsRow.alloc L3.out _) ⟨X9.heap.size, 0, none⟩ 1 1 (encR ⟨xk, .slice xa xn xc, xL⟩) rfl rfl (new_cellsR X9 xk _ xL _) (encR_oneA xk xa xn xc xL) (by unfold maxLen; omega) (by omega) (by simp; omega) ?_; intro v' w1 hown' hgrow _; obtain ⟨g', cap', rfl⟩ := ownsRow_succ hown'; obtain ⟨u', X10, hldZ, hstZ, hlZ, hq, hrest⟩ := rd_app HBV9.out HBT.out HBEL.out HIW.out.bel.size L1.out hown' hgrow HTY.out hTl hx9; have hq0 := (blk1 hq).1; have hqf := (blk1 hq).2.1; have hql := (blk1 hq).2.2; have HREST := hid hrest; clear hown' hgrow hrest hq)
    obtain ⟨z1, z2, z3, z4, z5, z6, z7, z8⟩ := HREST.out
    refine ⟨rfl, HK9.out.trans z6, (KpR.below HB9.out).trans z7, ⟨by rw [HSNOC.out]; exact z1, ⟨_, R ++ [⟨xk, .slice xa xn xc, xL⟩], z3, by rw [List.map_append, Q2.out, HTOLD.out]; rfl, z4, ?_, by have := Q5.out; simp; omega⟩, z2, Nat.le_trans hx9 z8⟩⟩
    intro r hr
    rcases List.mem_append.1 hr with hr | hr
    ·exact z5 _ _ (L4.out r hr)
    ·simp only [List.mem_singleton] at hr
     subst hr
     exact z5 _ _ LG.out
  case done =>
   rintro D xs W hD hS hI hDD
   obtain ⟨lv, R, q1, q2, q3, q4, q5⟩ := hI.row
   obtain ⟨la, ln, lc, rfl⟩ := Owns.shape q3
   obtain ⟨l0, lf, ll⟩ := blk1 q1
   have hne : D ≠ w.heap.size + 1 + 1 := by omega
   have xd := (Below.heap_setCell W ⟨w.heap.size + 1 + 1, 0, none⟩ (.slice la ln lc) D (by simpa using hne)).trans hDD
   have XD := hid xd
   have HDS := hid (show w.heap.size ≤ D by have := hI.bel.size; omega)
   have HBL := hid hI.bel
   have Q1 := hid q1
   have Q2 := hid (show R.map klR = recordsL B L frm now by rw [q2, hS]; rfl)
   have Q3 := hid q3
   have Q4 := hid q4
   clear hI hS hDD q1 q2 q3 q4 q5 xd HSEQ hne HI
   dsimp only
   go_wp2
   refine ⟨by simp, .inl ⟨_, _, rfl, run_takeDeferred XD.out, ?_⟩⟩
   refine ⟨_, res_recs rfl rfl (blk_put (blk_set Q1.out 0 _) XD.out rfl _), _, rfl, ⟨R, Q2.out, ?_, fun r hr => ?_⟩, below_put (HBL.out.setCell (p := ⟨w.heap.size + 1 + 1, 0, none⟩) (by simp; omega) _) HDS.out _⟩
   ·exact (Owns.own (owns_at Q3.out Q1.out (by decide) 0 _) (grownBy_putObj' _ D (.deferred none)) (fun r e => by cases e; exact ⟨_, XD.out, rfl⟩)).row (fun _ => rfl) (by decide)
   ·exact (Owns.own (owns_at (Q4.out r hr) Q1.out (by decide) 0 _) (grownBy_putObj' _ D (.deferred none)) (fun r e => by cases e; exact ⟨_, XD.out, rfl⟩)).row (fun _ => rfl) (by decide)
end Go.Proofs.YtgcajfglidflnaaDoor
