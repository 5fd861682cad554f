/- brain.All, brain.Apply: records are applied. -/
import Derived.Test.YthnigndpibgibaaDoorRc
import Derived.Test.YthnigndpibgibaaDoorFi
import Derived.Test.YthnigndpibgibaaDoorOw
namespace Go.Proofs.YthnigndpibgibaaDoor
open Go.RowKit Go.Shelf
attribute [-go_sem] loadVar storeVar
attribute [local go_sem] load_other store_other
attribute [local go_sem] Oper.semAt_some

def applyAll (B : BrainV) (R : List RecE) : BrainV := R.foldl (fun B r => applyB B r.k r.L) B
theorem Fine.all {n : Nat} : ∀ (R : List RecE) {B : BrainV} {m : Nat}, Fine B m → m + R.length ≤ n → Fine (applyAll B R) n
  | [], _, _, h, hm => h.up (by simpa using hm)
  | r :: R, B, m, h, hm => Fine.all R (h.apply r.k r.L) (by simp at hm; omega)
/-- Between two rounds of All's loop. -/
def AllI (w : World) (Bp : Nat) (s : Value) (B : BrainV) (R : List RecE) (pre : List (Fin R.length)) (W : World) : Prop :=
  (∃ mv iv kv, BO w w.heap.size (applyAll B (pre.map R.get)) mv iv kv W) ∧ W.heap[w.heap.size + 1]? = some (.cells zeroBr 30) ∧ W.heap[Bp]? = some (.cells #[s] 31)
theorem BO.own {base : World} {b : Nat} {B : BrainV} {mv iv kv : Value} {W W' : World} {row : Option Nat} (h : BO base b B mv iv kv W) (hg : W.grownBy W' row) (hr : ∀ r, row = some r → base.heap.size ≤ r ∧ ∃ o : Obj, W.heap[r]? = some o ∧ o.isCells = false) : BO base b B mv iv kv W' :=
  ⟨own_blk h.box hg (fun r e => (hr r e).2), h.hb, h.rm.kept fun _ _ hc => own_blk hc hg (fun r e => (hr r e).2), h.ri.own hg (fun r e => (hr r e).2), h.rk.own hg (fun r e => (hr r e).2), h.bel.grown hg h.bel.size (fun k e => (hr k e).1)⟩
theorem AllI.own {w : World} {Bp : Nat} {s : Value} {B : BrainV} {R : List RecE} {C : Nat} (hC : w.heap.size ≤ C) : OwnFrom C (AllI w Bp s B R) := by
  rintro pre W W' row ⟨⟨mv, iv, kv, h⟩, h2, h3⟩ hg hr
  exact ⟨⟨mv, iv, kv, h.own hg (fun r e => ⟨Nat.le_trans hC (hr r e).1, (hr r e).2⟩)⟩, own_blk h2 hg (fun r e => (hr r e).2), own_blk h3 hg (fun r e => (hr r e).2)⟩
/-- Where All's loop variable lies. -/
def AllA (w : World) (R : List RecE) (x : Fin R.length) (a' : Act) (W : World) : Prop :=
  ∃ (Bx : Nat) (u0 u1 u3 u6 u7 u8 u9 u10 u11 u12 u13 : Value), w.heap.size + 2 ≤ Bx ∧ W.heap[Bx]? = some (.cells #[.int .u8 (R.get x).k, (R.get x).s] 37) ∧ a' = { tmps := #[u0, u1, .pointer (some ⟨w.heap.size, 0, none⟩), u3, .pointer (some ⟨w.heap.size + 1, 0, none⟩), .pointer (some ⟨Bx, 0, none⟩), u6, u7, u8, u9, u10, u11, u12, u13], defers := [] }
theorem AllA.own {w : World} {R : List RecE} {C : Nat} (x : Fin R.length) (a' : Act) : OwnFrom C (fun (_ : Unit) W => AllA w R x a' W) := by
  rintro _ W W' row ⟨Bx, u0, u1, u3, u6, u7, u8, u9, u10, u11, u12, u13, h1, h2, h3⟩ hg hr
  exact ⟨Bx, _, _, _, _, _, _, _, _, _, _, _, h1, own_blk h2 hg (fun r e => (hr r e).2), h3⟩
/-- A brain in memory of the call's own, handed back. -/
def BrEnd (base : World) (B : BrainV) (v : Value) (W : World) : Prop :=
  ∃ mv iv kv, v = .agg (brT B.f B.g mv iv kv) ∧ TRow 3 1 encI W mv B.M ∧ OwnN W base.heap.size iv B.I ∧ OwnK W base.heap.size kv B.K
def AllS (w : World) (Bp : Nat) (k : Nat) : Prop := k < w.heap.size ∨ k = Bp
set_option maxRecDepth 100000 in
set_option maxHeartbeats 4000000 in
theorem all_any (f : Nat → Int) (g : Nat → Bool) (mv iv kv : Value) (M : List Int) (I : List IntentV) (K : List KeptV) (s : Value) (R : List RecE) (n : Nat) (w : World) (hm : RowOf 1 encI w mv M) (hi : RowOf 4 encIn w iv I) (hk : RowOf 8 encKp w kv K) (hM : M.length ≤ 1000000)
    (hF : Fine ⟨f, g, M, I, K⟩ n) (hn : n + R.length ≤ 1000) (hs : RowOf 2 encR w s R) (hR : ∀ r ∈ R, RowOf 1 encI w r.s r.L ∧ r.L.length ≤ 100000) (hC : Changes w) (hLm : Limits w) :
    Calls Tryd.prog 16 #[.agg (brT f g mv iv kv), s] w fun e w' => ∃ v, e = .returned v ∧ BrEnd w (applyAll ⟨f, g, M, I, K⟩ R) v w' ∧ Below w.heap.size w w' := by
  have hmf := mkfunc
  obtain ⟨W2, hW2⟩ : ∃ W2, W2 = (w.alloc (.cells (brT f g mv iv kv) 30)).alloc (.cells zeroBr 30) := ⟨_, rfl⟩
  have hb2 : Below w.heap.size w W2 := by rw [hW2]; exact ((Below.refl _ _).alloc (Nat.le_refl _) _).alloc (by simp) _
  have b1 : BB W2 w.heap.size (brT f g mv iv kv) := by rw [hW2]; exact blk_alloc (heap_new _ _) _
  have z1 : W2.heap[w.heap.size + 1]? = some (.cells zeroBr 30) := by rw [hW2]; exact heap_new2 _ _ _
  have hz2 : W2.heap.size = w.heap.size + 2 := by rw [hW2]; simp
  have hO := own_any f g mv iv kv M I K W2 (hm.below hb2) (hi.below hb2) (hk.below hb2) hM (by have := hF.1; dsimp only at this; omega) (by have := hF.2.1; dsimp only at this; omega)
  have hld := b1.load (brT_bc f g mv iv kv)
  have HW2 := hid (show W2 = (w.alloc (.cells (brT f g mv iv kv) 30)).alloc (.cells #[.int .i64 0, .int .i64 0, .bool false, .int .i64 0, .int .i64 0, .int .i64 0, .int .i64 0, .int .i64 0, .int .i64 0, .int .i64 0, .int .i64 0, .int .i64 0, .int .i64 0, .int .i64 0, .int .i64 0, .int .i64 0, .bool false, .slice none 0 0, .slice none 0 0, .slice none 0 0, .int .u8 0, .int .i64 0, .int .i64 0, .int .i64 0, .bool false, .int .i64 0, .int .i64 0] 30) from hW2)
  have HO := hid hO
  have HB1 := hid b1
  have HZ1 := hid z1
  have HB2 := hid hb2
  have HS := hid hs
  have HR := hid hR
  have HF := hid hF
  obtain ⟨sa, sc, rfl, hs1, hs2, hs3, _⟩ := hs.open
  have hr := hR
  clear hm hi hk hb2 b1 z1 hW2 hO hR hF hs
  refine (callsIn_wide (n := 4)).1 ?_
  refine callsIn_of_wp_marks Tryd.func16 rfl trivial ?_ rfl
  simp only [Tryd.ntmps16, List.size_toArray, List.length_cons, List.length_nil, Nat.reduceAdd, Nat.reduceSub, Array.replicate_succ, Array.replicate_zero, List.push_toArray, List.append_toArray, List.nil_append, List.cons_append]
  refine wpIn_wide.2 ?_
  rw [HW2.out] at hld
  go_wp2_with fail
  rw [← HW2.out]
  refine HO.out.mono ?_
  rintro e w1 ⟨mv', iv', kv', rfl, ho1, ho2, ho3, hbw⟩
  obtain ⟨a1, n1, k1, rfl⟩ := ho1.shape
  obtain ⟨a2, n2, k2, rfl⟩ := ho2.shape
  obtain ⟨a3, n3, k3, rfl⟩ := ho3.shape
  have hB := HB1.out.below hbw (blk_lt HB1.out)
  have hZ := blk_below HZ1.out hbw (blk_lt HZ1.out)
  obtain ⟨V, hV⟩ : ∃ V, V = w1.setRow w.heap.size (brT f g (.slice a1 n1 k1) (.slice a2 n2 k2) (.slice a3 n3 k3)) := ⟨_, rfl⟩
  have hst : (storeVar 30 ⟨w.heap.size, 0, none⟩ (.agg (brT f g (.slice a1 n1 k1) (.slice a2 n2 k2) (.slice a3 n3 k3)))).run Tryd.prog w1 = .ok () V := by
    rw [hV]
    exact run_storeVar_row w1 w.heap.size 30 30 _ _ hB (brain_size (brT_bc _ _ _ _ _)) rfl (by simp [brT, Value.oneCell'])
  have hbo : BO w w.heap.size ⟨f, g, M, I, K⟩ (.slice a1 n1 k1) (.slice a2 n2 k2) (.slice a3 n3 k3) V := by
    have q1 := ho1.mono HB2.out.size
    have q2 := ho2.mono HB2.out.size
    have q3 := ho3.mono HB2.out.size
    rw [hV]
    exact ⟨setRow_heap w1 _ _ _ _ _ hB, Nat.le_refl _, (owns_row q1 hB (by decide) _).trow encI_len (by decide), owns_row q2 hB (by decide) _, owns_row q3 hB (by decide) _, below_setRow (HB2.out.trans (hbw.mono HB2.out.size)) (Nat.le_refl _) _⟩
  have hZV : V.heap[w.heap.size + 1]? = some (.cells zeroBr 30) := by rw [hV, setRow_other _ _ _ _ (by omega)]; exact hZ
  have HBO := hid hbo
  have HZV := hid hZV
  clear ho1 ho2 ho3 hbw hB hZ hV hbo hZV hld
  go_wp2_with fail
  refine (records_any sa R.length sc V).mono ?_
  rintro e w2 ⟨rfl, hw2⟩
  have hbe : Below V.heap.size V w2 := by rw [hw2]; exact (Below.refl _ _).alloc (Nat.le_refl _) _
  have hq : w2.heap[V.heap.size]? = some (.cells #[.slice sa R.length sc] 31) := by rw [hw2]; exact heap_new _ _
  have HBO2 := hid (HBO.out.below hbe)
  have HZ2 := hid (blk_below HZV.out hbe (blk_lt HZV.out))
  have HQ2 := hid hq
  have hlV := HBO.out.bel.size
  have hl2 : w2.heap.size = V.heap.size + 1 := by rw [hw2]; simp
  have hne : w.heap.size + 1 < V.heap.size := blk_lt HZV.out
  clear hw2 hbe hq hst
  go_wp2
  refine (wpIn_wide (n := 4)).1 ?_
  have hHS : SeqStopsK Fence.wide 3 Tryd.prog 56 #[.pointer (some ⟨V.heap.size, 0, none⟩)] (itemR R) (On (AllS w V.heap.size)) (fun ys => ys = List.finRange R.length) (fun _ => True) R.length w2 := by
    refine records_stops 3 (by omega) V.heap.size (AllS w V.heap.size) (.slice sa R.length sc) R w2 (fun k hk => by unfold AllS at hk; omega) (.inr rfl) (blk_cell HQ2.out 0) (HS.out.below HBO2.out.bel) ?_ ?_
    · intro b off l c he hl
      injection he with e1 e2 e3
      rcases HS.out with ⟨a', c', he', h0, _, _⟩ | ⟨_, b', off', c', he', _, _, hb', _⟩
      · injection he' with f1 f2 f3
        omega
      · injection he' with f1 f2 f3
        rw [e1] at f1
        cases f1
        exact .inl hb'
    · intro x hx
      obtain ⟨a, c, e, _⟩ := (HR.out x hx).1.open
      exact ⟨a, _, c, e⟩
  refine wpIn_rangeFunc_ownH rfl (by omega) (gf := 56) (lb := #[.pointer (some ⟨V.heap.size, 0, none⟩)]) rfl trivial (enters_of Tryd.func56 (by kernel_rfl) rfl)
    hHS (fun h k => h.trans k) (fun W l o o' hl _ _ _ => (On.refl _ _).putObj (by unfold AllS; omega) _) (Below.refl _ _) (fun _ => rfl)
    (AllI w V.heap.size (.slice sa R.length sc) ⟨f, g, M, I, K⟩ R) (fun _ _ _ => False) (AllI.own (by omega)) (fun _ _ _ _ _ h _ _ => h.elim) ⟨⟨_, _, _, HBO2.out⟩, HZ2.out, HQ2.out⟩
    (AllA w R) (fun x a' => AllA.own x a') ?assign ?body ?done ?stop
  case assign =>
    rintro l pre x W K hI hK
    have HK := hid hK
    clear hK
    obtain ⟨ra, rn, rc, hrs⟩ : ∃ a n c, (R.get x).s = .slice a n c := by
      obtain ⟨a, c, e, _⟩ := (HR.out _ (List.get_mem R x)).1.open
      exact ⟨a, _, c, e⟩
    have hlW : w.heap.size + 2 ≤ W.heap.size := by have := blk_lt hI.2.1; omega
    have HRS := hid hrs
    simp only [itemR, recV, hrs]
    gi_wp2
    refine HK.out _ _ ((KeepsOthers.alloc _ _).from _) ((On.refl _ _).alloc _) ((AllI.own (Nat.le_refl _)).alloc _ hI) ⟨W.heap.size, _, _, _, _, _, _, _, _, _, _, _, hlW, ?_, rfl⟩
    rw [HRS.out]
    exact heap_new W _
  case body =>
    rintro l pre x a' W hl ⟨r', hr'⟩ ⟨⟨mvv, ivv, kvv, hb⟩, hz, hq⟩ ⟨Bx, u0, u1, u3, u6, u7, u8, u9, u10, u11, u12, u13, hBx, hx, rfl⟩ hlt
    obtain ⟨r, hrx⟩ : ∃ r, R.get x = r := ⟨_, rfl⟩
    have hrm : r ∈ R := by rw [← hrx]; exact List.get_mem R x
    obtain ⟨hrow, hrl⟩ := HR.out r hrm
    rw [hrx] at hx
    have hfine : Fine (applyAll ⟨f, g, M, I, K⟩ (pre.map R.get)) 1000 := Fine.all _ HF.out (by simp; omega)
    have hap := apply_any r.k r.s r.L hrow hrl hC hLm hb hfine.1 hfine.2.1 hfine.2.2
    obtain ⟨ra, rc, hrs, _⟩ := hrow.open
    rw [hrs] at hx hap
    have e0 : applyAll ⟨f, g, M, I, K⟩ ((pre ++ [x]).map R.get) = applyB (applyAll ⟨f, g, M, I, K⟩ (pre.map R.get)) r.k r.L := by
      unfold applyAll
      rw [List.map_append, List.foldl_append]
      simp only [List.map_cons, List.map_nil, List.foldl_cons, List.foldl_nil]
      rw [hrx]
    have c0 := blk_cell hx 0
    have c1 := blk_cell hx 1
    simp only [List.getElem?_toArray, List.getElem?_cons_succ, List.getElem?_cons_zero] at c0 c1
    have lx := blk_lt hx
    unfold recV at hap
    have HAP := hid hap
    have HB := hid hb
    have HZ := hid hz
    have HQ := hid hq
    have HE := hid e0
    clear hap hb hz hq e0 hx hr' hrow hfine
    gi_wp2_with fail
    refine ⟨trivial, (CallsIn.inRound l (callsIn_wide.2 HAP.out)).mono ?_⟩
    rintro e y ⟨rfl, ⟨m2, i2, k2', hy⟩, hkx⟩
    have HY := hid hy
    have HKX := hid hkx
    clear hy hkx
    gi_wp2
    refine ⟨HKX.out.others.from _, ?_, ?_, ?_, ?_⟩
    · refine ⟨HKX.out.size, fun k hk _ => ?_⟩
      rcases hk with hk | rfl
      · exact (HY.out.bel.block k hk).trans (HB.out.bel.block k hk).symm
      · exact (HKX.out.block _ _ _ HQ.out (by omega) (by decide) (by decide)).trans HQ.out.symm
    · rw [HE.out]
      exact ⟨_, _, _, HY.out⟩
    · exact HKX.out.block _ _ _ HZ.out (by omega) (by decide) (by decide)
    · exact HKX.out.block _ _ _ HQ.out (by omega) (by decide) (by decide)
  case done =>
    rintro D xs W hD hxs ⟨⟨mvv, ivv, kvv, hb⟩, hz, hq⟩ hK
    subst hxs
    rw [show (List.finRange R.length).map R.get = R from List.ext_getElem (by simp) (by intros; simp)] at hb
    obtain ⟨B', hB'⟩ : ∃ B', applyAll ⟨f, g, M, I, K⟩ R = B' := ⟨_, rfl⟩
    rw [hB'] at hb
    have HBE := hid hB'
    clear hB'
    dsimp only
    have hld := hb.box.load (brT_bc _ _ _ _ _)
    obtain ⟨am, cm, rfl, _⟩ := hb.rm
    obtain ⟨ai, ni, ci, rfl⟩ := hb.ri.shape
    obtain ⟨ak, nk, ck, rfl⟩ := hb.rk.shape
    have hst : (storeVar 30 ⟨w.heap.size + 1, 0, none⟩ (.agg (brT B'.f B'.g (.slice am B'.M.length cm) (.slice ai ni ci) (.slice ak nk ck)))).run Tryd.prog W = .ok () (W.setRow (w.heap.size + 1) (brT B'.f B'.g (.slice am B'.M.length cm) (.slice ai ni ci) (.slice ak nk ck))) :=
      run_storeVar_row W (w.heap.size + 1) 30 30 _ _ hz (brain_size (brT_bc _ _ _ _ _)) rfl (by simp [brT, Value.oneCell'])
    have r1 := setRow_heap W (w.heap.size + 1) _ (brT B'.f B'.g (.slice am B'.M.length cm) (.slice ai ni ci) (.slice ak nk ck)) _ _ hz
    have r2 := (setRow_other W (w.heap.size + 1) D (brT B'.f B'.g (.slice am B'.M.length cm) (.slice ai ni ci) (.slice ak nk ck)) (by omega)).trans hK
    have R1 := hid r1
    have R2 := hid r2
    have HBB := hid hb
    have HZ := hid hz
    have hDw : w.heap.size ≤ D := by omega
    clear hb hz hq hK r1 r2
    go_wp2
    refine ⟨by simp, .inl ⟨_, _, rfl, run_takeDeferred R2.out, ?_⟩⟩
    refine ⟨_, results_cell_row rfl _ _ (w.heap.size + 1) 30 _ _ _ rfl (blk_put R1.out R2.out rfl _) brain_under rfl (brain_size (brT_bc _ _ _ _ _)), ?_⟩
    rw [HBE.out]
    refine ⟨_, rfl, ⟨_, _, _, rfl, ?_, ?_, ?_⟩, below_put (below_setRow HBB.out.bel (by omega) _) hDw _⟩
    · exact (HBB.out.rm.kept (KeptT.grown (setRow_grown _ _ _) (fun r e => by cases e; exact ⟨_, HZ.out⟩) (by decide))).kept fun _ _ hc => blk_put hc R2.out rfl _
    · exact Owns.own (owns_row HBB.out.ri HZ.out (by decide) _) (grownBy_putObj' _ D (.deferred none)) (fun r e => by cases e; exact ⟨_, R2.out, rfl⟩)
    · exact Owns.own (owns_row HBB.out.rk HZ.out (by decide) _) (grownBy_putObj' _ D (.deferred none)) (fun r e => by cases e; exact ⟨_, R2.out, rfl⟩)
  case stop =>
    rintro D c pre W hD hpre h _
    exact h.elim
end Go.Proofs.YthnigndpibgibaaDoor
