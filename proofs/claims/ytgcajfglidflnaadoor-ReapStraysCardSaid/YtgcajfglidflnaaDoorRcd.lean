import Derived.Test.YtgcajfglidflnaaDoorKpr
import Derived.Test.YtgcajfglidflnaaDoorRgz
import Derived.Test.YtgcajfglidflnaaDoorGci
import Derived.Test.YtgcajfglidflnaaDoorRpq
import Derived.Test.YtgcajfglidflnaaDoorFti
import Derived.Lib.QuietBelow
import Derived.BigQuiet
/- reap.records goes over what is said, by the brain as it is then. Printed by gn_rcd.py. -/
namespace Go.Proofs.YtgcajfglidflnaaDoor
open Go.RowKit Go.Shelf
attribute [-go_sem] loadVar storeVar Instr.buildSlice
attribute [local go_sem] load_other store_other

/-- What the rounds may turn: their loop's book, brains, records, slices of records. -/
def freeO (o : Obj) : Prop := (∃ r, o = .loop r) ∨ ∃ c t, o = .cells c t ∧ (t = 30 ∨ t = 62 ∨ t = 38)
def KpR (b : Nat) (W W' : World) : Prop := W.heap.size ≤ W'.heap.size ∧ ∀ (k : Nat) (o : Obj), W.heap[k]? = some o → (k < b ∨ ¬ freeO o) → W'.heap[k]? = some o
section
variable {b : Nat} {W W' : World}
theorem KpR.refl (b : Nat) (W : World) : KpR b W W := ⟨Nat.le_refl _, fun _ _ h _ => h⟩
theorem KpR.trans {W2 : World} (h : KpR b W W') (k : KpR b W' W2) : KpR b W W2 := ⟨Nat.le_trans h.1 k.1, fun i o hi ho => k.2 i o (h.2 i o hi ho) ho⟩
theorem KpR.below (h : Below W.heap.size W W') : KpR b W W' := ⟨h.size, fun _ _ hb _ => blk_below hb h (blk_lt hb)⟩
theorem KpR.put {l : Nat} {r : Loop} (r' : Loop) (hl : b ≤ l) (h : W.heap[l]? = some (.loop r)) : KpR b W (W.putObj l (.loop r')) := by
 refine ⟨by simp [World.putObj], fun k o hk ho => ?_⟩
 have hne : ¬ l = k := by
  rintro rfl
  rw [h] at hk
  cases hk
  rcases ho with ho | ho
  ·omega
  ·exact ho (.inl ⟨_, rfl⟩)
 simp only [World.putObj, Array.getElem?_setIfInBounds]; rw [if_neg hne]; exact hk
theorem not_free {c : Array Value} {t : TypeId} (h : t ≠ 30 ∧ t ≠ 62 ∧ t ≠ 38) : ¬ freeO (.cells c t) := by
 rintro (⟨r, h'⟩ | ⟨c', t', h', h''⟩)
 ·cases h'
 ·cases h'
  rcases h'' with h'' | h'' | h''
  ·exact h.1 h''
  ·exact h.2.1 h''
  ·exact h.2.2 h''
theorem not_free_map {es : Array MapEntry} {c : Nat} : ¬ freeO (.map es c) := by
 rintro (⟨r, h'⟩ | ⟨c', t', h', h''⟩) <;> cases h'
theorem KpR.cells {k : Nat} {c : Array Value} {t : TypeId} (hk : KpR b W W') (h : W.heap[k]? = some (.cells c t)) (ht : t ≠ 30 ∧ t ≠ 62 ∧ t ≠ 38) : W'.heap[k]? = some (.cells c t) := hk.2 k _ h (.inr (not_free ht))
theorem KpR.smap {m : Nat} {F : Int → Option Value} (hk : KpR b W W') (h : SMap W m F) : SMap W' m F := by
 refine h.to fun o ho => ?_
 obtain ⟨es, cl, ds, hq, _⟩ := h
 rw [hq] at ho
 cases ho
 exact hk.2 m _ hq (.inr not_free_map)
theorem KpR.kept (hk : KpR b W W') : KeptT 41 W W' := fun k c h => hk.cells h (by decide)
/-- A row that lies below. -/
structure RowB (b : Nat) (w : World) (v : Value) (l : List SeenV) : Prop where
 row : RowS w v l
 low : ∀ b' off n c, v = .slice (some ⟨b', off, none⟩) n c → 0 < n → b' < b
theorem RowB.kpr {v : Value} {l : List SeenV} (h : RowB b W v l) (hk : KpR b W W') : RowB b W' v l := by
 refine ⟨?_, h.low⟩
 rcases h.row with h0 | ⟨h0, b1, off, c, rfl, h1, h2, hbl, hr⟩
 ·exact .inl h0
 ·refine .inr ⟨h0, b1, off, c, rfl, h1, h2, Nat.lt_of_lt_of_le hbl hk.1, fun i x hi j u hj => ?_⟩
  have hlow := h.low b1 off _ c rfl h0
  have hc := hr i x hi j u hj
  obtain ⟨o, ho⟩ : ∃ o, W.heap[b1]? = some o := ⟨W.heap[b1], Array.getElem?_eq_getElem hbl⟩
  have := hk.2 b1 o ho (.inl hlow)
  exact (World.cell?_of_block (w := W) (this.trans ho.symm)).trans hc
end
def klR (x : RecE) : RecP := (x.k, x.L)
theorem applyAll_L (B : BrainV) : ∀ R : List RecE, applyAll B R = applyL B (R.map klR) := by
 intro R
 unfold applyAll applyL
 rw [List.foldl_map]
 rfl
theorem Fine.allL {B : BrainV} : ∀ {n : Nat} (_ : Fine B n) (R : List RecP), Fine (applyL B R) (n + R.length)
 | n, h, [] => h
 | n, h, r :: R => by
  have := Fine.allL (h.apply r.1 r.2) R
  rw [show n + 1 + R.length = n + (r :: R).length by simp; omega] at this
  exact this
def itemR21 (x : RecE) : Array Value := #[recV x.k x.s]
def GR (b : Nat) (x : RecE) (W : World) : Prop := OwnI W b x.s x.L ∧ kindR (klR x)
def ZR (T : Nat) (B : BrainV) (pre : List RecE) (W : World) : Prop := ∃ v, VarIs W T (applyAll B pre) v
theorem records_make (T : Nat) (on : Bool) (frm beh now : Int) (sa : Option Addr) (sn sc : Nat) (w : World) :
  Calls Tryd.prog 24 #[.pointer (some ⟨T, 0, none⟩), .agg #[.bool on, .int .i64 frm, .int .i64 beh, .slice sa sn sc], .int .i64 now] w fun e w' =>
   e = .returned (.func (.func 41) #[] #[.pointer (some ⟨w.heap.size + 1, 0, none⟩), .pointer (some ⟨w.heap.size, 0, none⟩), .pointer (some ⟨w.heap.size + 1 + 1, 0, none⟩)]) ∧
   w'.heap[w.heap.size]? = some (.cells #[.pointer (some ⟨T, 0, none⟩)] 69) ∧ w'.heap[w.heap.size + 1]? = some (.cells #[.bool on, .int .i64 frm, .int .i64 beh, .slice sa sn sc] 33) ∧ w'.heap[w.heap.size + 1 + 1]? = some (.cells #[.int .i64 now] 3) ∧ Below w.heap.size w w' := by
 have hmf := mkfunc
 go_enter Tryd.func24, Tryd.ntmps24
 go_wp2
 go_ret
 refine ⟨rfl, ?_, ?_, ?_, ?_⟩
 ·exact blk_alloc (blk_alloc (heap_new _ _) _) _
 ·exact blk_alloc (heap_new2 _ _ _) _
 ·simpa using heap_new2 (w.alloc _) _ _
 ·exact (((Below.refl _ _).alloc (Nat.le_refl _) _).alloc (by simp) _).alloc (by simp; omega) _
set_option maxRecDepth 100000 in
set_option maxHeartbeats 8000000 in
theorem records_all (n : Nat) (hn : 1 ≤ n) (b T Bp : Nat) (B : BrainV) (on : Bool) (frm beh now : Int) (sv : Value) (L : List SeenV) (w : World) (_hbw : b ≤ w.heap.size)
  (hP : w.heap[Bp]? = some (.cells #[.pointer (some ⟨T, 0, none⟩)] 69)) (hS : w.heap[Bp + 1]? = some (.cells #[.bool on, .int .i64 frm, .int .i64 beh, sv] 33)) (hN : w.heap[Bp + 1 + 1]? = some (.cells #[.int .i64 now] 3))
  (hrow : RowB b w sv L) (hl1 : B.K.length ≤ 800) (hl2 : B.I.length ≤ 800) (hph : ∀ x ∈ B.K, in8 x.phase) (hlL : L.length ≤ 60) (hKl : B.K.length ≤ 100) :
  SeqAllZ Fence.wide n Tryd.prog 41 #[.pointer (some ⟨Bp + 1, 0, none⟩), .pointer (some ⟨Bp, 0, none⟩), .pointer (some ⟨Bp + 1 + 1, 0, none⟩)] itemR21 (KpR b) (GR w.heap.size) (ZR T B) (fun xs => xs.map klR = itemsL B L frm now) (B.K.length + L.length) w := by
 intro l J W hW hJ hZ hY h0
 have h1 := blk_below hP hW (blk_lt hP)
 have h2 := blk_below hS hW (blk_lt hS)
 have h3 := blk_below hN hW (blk_lt hN)
 obtain ⟨v0, hv0⟩ := hZ [] W h0
 replace hv0 : VarIs W T B v0 := hv0
 obtain ⟨ma, mc, ia, ic, ka, kc, rfl, hbb, hrm, hri, hrk⟩ := hv0.open
 have hrow1 := hrow.kpr (KpR.below hW)
 obtain ⟨sa, sc, rfl, p1, p2, p3, _⟩ := hrow1.row.open
 have HP := hid h1
 have HS := hid h2
 have HN := hid h3
 have HROW := hid hrow1
 have HY := hid hY
 have HJ := hid hJ
 have HZ := hid hZ
 have H0 := hid h0
 have HRK := hid hrk
 have HSZ := hid hW.size
 have q3 : W.cell? ⟨Bp + 1, 3, none⟩ = some (.slice sa L.length sc) := blk_cell h2 3
 have ql := blk_lt h2
 clear hbb hrm hri hrow hrow1 hY hJ hZ h0 hW hP hS hN h1 h2 h3 hrk
 refine callsIn_of_wp Tryd.func41 rfl trivial ?_ rfl
 simp only [Tryd.ntmps41, List.size_toArray, List.length_cons, List.length_nil, Nat.reduceAdd, Nat.reduceSub, Array.replicate_succ, Array.replicate_zero, List.push_toArray, List.append_toArray, List.nil_append, List.cons_append]
 refine wpIn_wide.2 ?_
 have HV0 := hid hv0
 clear hv0
 go_wp2_with fail
 refine (firsts_any _ L W HROW.out.row).mono ?_
 rintro e V1 ⟨m, rfl, hm, hsm, hb1⟩
 have HV1 := hid (HV0.out.below hb1)
 have HM1 := hid hsm
 have HB1 := hid hb1
 have P1 := hid (blk_below HP.out hb1 (blk_lt HP.out))
 have k0 : V1.cell? ⟨Bp, 0, none⟩ = some (.pointer (some ⟨T, 0, none⟩)) := blk_cell P1.out 0
 have kl := blk_lt P1.out
 have x19 : V1.cell? ⟨T, 19, none⟩ = some (.slice ka B.K.length kc) := by
  obtain ⟨_, _, _, e, h0, _⟩ := HV1.out
  cases e
  exact blk_cell h0 19
 have xl := HV1.out.lt
 clear hsm hb1 q3 ql
 go_wp2_with fail
 refine (cloneK_any _ B.K V1 (by omega) (HRK.out.below HB1.out)).mono ?_
 rintro e V2 ⟨kv, rfl, hown, hb2⟩
 have hb := HB1.out.trans (hb2.mono HB1.out.size)
 have P2 := hid (blk_below HP.out hb (blk_lt HP.out))
 have S2 := hid (blk_below HS.out hb (blk_lt HS.out))
 have N2 := hid (blk_below HN.out hb (blk_lt HN.out))
 have R2 := hid (HROW.out.kpr (KpR.below hb))
 have M2 := hid (HM1.out.below hb2)
 have J2 := hid (HJ.out _ _ _ none H0.out (grown_of_below hb none) (by simp))
 have Z2 := hid (Nat.le_trans HSZ.out hb.size)
 obtain ⟨ca, cn, cc, rfl⟩ := hown.shape
 obtain ⟨_, _, he, p4, p5, p6, _⟩ := (Owns.row hown encKp_len (by decide)).open
 cases he
 have K2 := hid (show TRow 41 8 encKp V2 (.slice ca B.K.length cc) B.K from Owns.trow hown encKp_len (by decide))
 clear hown hb2 hb HP HS HN HROW HM1 HRK H0 HV0 HV1 P1 k0 kl x19 xl HB1
 go_wp2_with fail
 refine (wpIn_wide (n := n)).1 ?_
 have hsk : ∀ f, Fence.wide.fn f := fun _ => trivial
 gi_loopw [24] (fun i wr => ∃ (k : Nat) (pre : List RecE), k ≤ B.K.length ∧ i = .int .i64 k ∧ pre.map klR = (B.K.take k).filterMap (keptI L frm now) ∧ J pre wr ∧ KpR b V2 wr) (fun i _ => B.K.length - (intOf i).toNat)
 case atStart => exact ⟨0, [], Nat.zero_le _, rfl, rfl, J2.out, KpR.refl _ _⟩
 case round =>
  obtain ⟨k, pre, hk, rfl, hp, hJs, hK⟩ := hrel
  have HP := hid hp
  have HJS := hid hJs
  have HK := hid hK
  by_cases hlt : k < B.K.length
  ·obtain ⟨_, _, he, _, _, _, hop⟩ := (K2.out.kept hK.kept).row.open
   cases he
   obtain ⟨b1, o1, hca, hb1, hr1⟩ := hop (by omega)
   obtain ⟨x, hx⟩ := get_lt hlt
   obtain ⟨g0, g1, g2, g3, g4, g5, g6, g7⟩ := rowK hr1 hx
   have hkL : (k : Int) < (B.K.length : Int) := by omega
   have HX := hid hx
   have hm1 := (hK.smap M2.out).below ((Below.refl wr.heap.size wr).alloc (Nat.le_refl _) (.cells #[.int .i64 x.id, .int .i64 x.token, .int .i64 x.version, .int .i64 x.zone, .int .u8 x.phase, .int .i64 x.since, .bool x.guarded, .bool x.complete] 41))
   have hlk := lookS_run x.id _ m (firstF L) hm1
   obtain ⟨y, ok, hf1, hf2, hf3⟩ : ∃ (y : SeenV) (ok : Bool), (firstF L x.id).getD zeroSn = encSv y ∧ (firstF L x.id).isSome = ok ∧ firstS L x.id = if ok = true then some y else none := by
    unfold firstF firstS
    cases L.find? (fun z => z.id == x.id) with
    | none => exact ⟨⟨0, 0, 0, 0, false, false, false⟩, false, rfl, rfl, rfl⟩
    | some y => exact ⟨y, true, rfl, rfl, rfl⟩
   rw [hf1, hf2] at hlk
   unfold encSv at hlk
   have HF := hid hf3
   have c3 := blk_cell (hK.cells N2.out (by decide)) 0
   have c3l := blk_lt (hK.cells N2.out (by decide))
   simp only [List.getElem?_toArray, List.getElem?_cons_zero] at c3
   have d1 := blk_cell (hK.cells S2.out (by decide)) 1
   have d1l := blk_lt (hK.cells S2.out (by decide))
   simp only [List.getElem?_toArray, List.getElem?_cons_succ, List.getElem?_cons_zero] at d1
   have D1 := hid d1
   clear hr1 hx hm1 hf1 hf2 hf3 hp hJs hK d1 hop
   subst hca
   gi_wp2_with fail
   refine (callsIn_wide.2 (kept_any x y ok now _)).mono ?_
   have HYB := hid (show Below wr.heap.size wr ((wr.alloc (.cells #[.int .i64 x.id, .int .i64 x.token, .int .i64 x.version, .int .i64 x.zone, .int .u8 x.phase, .int .i64 x.since, .bool x.guarded, .bool x.complete] 41)).alloc (.cells #[.int .i64 y.id, .int .i64 y.token, .int .i64 y.version, .int .i64 y.zone, .bool y.on, .bool y.well, .bool y.inn] 44)) from ((Below.refl _ _).alloc (Nat.le_refl _) _).alloc (by simp) _)
   have HYK := hid (blk_alloc (heap_new wr (.cells #[.int .i64 x.id, .int .i64 x.token, .int .i64 x.version, .int .i64 x.zone, .int .u8 x.phase, .int .i64 x.since, .bool x.guarded, .bool x.complete] 41)) (.cells #[.int .i64 y.id, .int .i64 y.token, .int .i64 y.version, .int .i64 y.zone, .bool y.on, .bool y.well, .bool y.inn] 44))
   generalize ((wr.alloc (.cells #[.int .i64 x.id, .int .i64 x.token, .int .i64 x.version, .int .i64 x.zone, .int .u8 x.phase, .int .i64 x.since, .bool x.guarded, .bool x.complete] 41)).alloc (.cells #[.int .i64 y.id, .int .i64 y.token, .int .i64 y.version, .int .i64 y.zone, .bool y.on, .bool y.well, .bool y.inn] 44)) = Y at HYB HYK ⊢
   have HSN := hid (show (B.K.take (k + 1)).filterMap (keptI L frm now) = (B.K.take k).filterMap (keptI L frm now) ++ (keptI L frm now x).toList by rw [take_snoc B.K k x HX.out, List.filterMap_append]; cases hq : keptI L frm now x <;> simp [hq])
   clear hlk g0 g1 g2 g3 g4 g5 g6 g7 c3 c3l
   rintro e V (⟨hr, rfl, hb⟩ | ⟨kk, ll, v, hr, rfl, ho, hb⟩)
   ·have hbv := HYB.out.trans (hb.mono HYB.out.size)
    have HBF := hid (show Below wr.heap.size wr (V.alloc (.cells #[.int .u8 0, .slice none 0 0] 62)) from hbv.alloc hbv.size _)
    have HKI := hid (show keptI L frm now x = none by unfold keptI; rw [HF.out, hr]; simp)
    clear hr hb hbv
    gi_wp2
    go_roundw
    case rel => exact ⟨k + 1, pre, by omega, by go_num, by rw [HSN.out, HKI.out, HP.out]; simp, HJ.out _ _ _ none HJS.out (grown_of_below HBF.out none) (by simp), HK.out.trans (KpR.below HBF.out)⟩
    case measure => simp [intOf]; omega
   ·obtain ⟨va, vn, vc, rfl⟩ := ho.shape
    have hbv := HYB.out.trans (hb.mono HYB.out.size)
    have hal : Below V.heap.size V (V.alloc (.cells #[.int .u8 kk, .slice va vn vc] 62)) := (Below.refl _ _).alloc (Nat.le_refl _) _
    have HBF := hid (hbv.trans (hal.mono hbv.size))
    have e5 : V.cell? ⟨wr.heap.size, 5, none⟩ = some (.int .i64 x.since) := blk_cell (blk_below HYK.out hb (blk_lt HYK.out)) 5
    have e5l := blk_lt (blk_below HYK.out hb (blk_lt HYK.out))
    have e1 : V.cell? ⟨Bp + 1, 1, none⟩ = some (.int .i64 frm) := cell_below D1.out hbv
    have e1l : Bp + 1 < V.heap.size := lt_of_cell e1
    have HJF := hid (HJ.out _ _ _ none HJS.out (grown_of_below HBF.out none) (by simp))
    have HO := hid (show OwnI (V.alloc (.cells #[.int .u8 kk, .slice va vn vc] 62)) w.heap.size (.slice va vn vc) ll from Owns.mono (Owns.below ho hal) (Nat.le_trans Z2.out (Nat.le_trans HK.out.1 HYB.out.size)))
    have HR0 := hid hr
    clear hr hb hbv hal ho d1l
    by_cases hs : x.since < frm
    ·have HKI := hid (show keptI L frm now x = some (kk, ll) by unfold keptI; rw [if_pos hs, HF.out, HR0.out])
     have hlen : pre.length < B.K.length + L.length := by
      have h1 := congrArg List.length HP.out
      have h2 := List.length_filterMap_le (keptI L frm now) (B.K.take k)
      rw [List.length_map] at h1
      rw [List.length_take] at h2
      omega
     obtain ⟨fn, tmps, assign, body, hy, hR⟩ := HY.out pre ⟨kk, .slice va vn vc, ll⟩ _ HJF.out ⟨HO.out, (keptI_kind HKI.out).1⟩ hlen
     dsimp only [itemR21, recV] at hy
     have HR := hid hR
     clear hR hlen
     gi_wp2
     refine HR.out.mono ?_
     rintro e W3 ⟨rfl, hJ3, hk3⟩
     gi_wp2
     go_roundw
     case rel => exact ⟨k + 1, _, by omega, by go_num, by rw [HSN.out, HKI.out, List.map_append, HP.out]; rfl, hJ3, (HK.out.trans (KpR.below HBF.out)).trans hk3⟩
     case measure => simp [intOf]; omega
    ·have HKI := hid (show keptI L frm now x = none by unfold keptI; rw [if_neg hs])
     gi_wp2
     go_roundw
     case rel => exact ⟨k + 1, pre, by omega, by go_num, by rw [HSN.out, HKI.out, HP.out]; simp, HJF.out, HK.out.trans (KpR.below HBF.out)⟩
     case measure => simp [intOf]; omega
  ·obtain rfl : k = B.K.length := by omega
   have HP1 := hid (show pre.map klR = keptL21 B L frm now by have := HP.out; rwa [List.take_length] at this)
   obtain ⟨C0, hC0⟩ : ∃ C0, applyL B (keptL21 B L frm now) = C0 := ⟨_, rfl⟩
   have HC0 := hid hC0
   have hs3 := blk_cell (hK.cells S2.out (by decide)) 3
   have hs3l := blk_lt (hK.cells S2.out (by decide))
   simp only [List.getElem?_toArray, List.getElem?_cons_succ, List.getElem?_cons_zero] at hs3
   clear hp hJs hK hC0 HP
   gi_wp2_with fail
   go_wp2_with fail
   clear hs3 hs3l
   refine (wpIn_wide (n := n)).1 ?_
   gi_loopw [61] (fun i wq => ∃ (k : Nat) (pre : List RecE), k ≤ L.length ∧ i = .int .i64 k ∧ pre.map klR = keptL21 B L frm now ++ seenL now C0 (L.take k) ∧ J pre wq ∧ KpR b V2 wq) (fun i _ => L.length - (intOf i).toNat)
   case atStart => exact ⟨0, pre, Nat.zero_le _, rfl, by rw [HP1.out, List.take_zero, seenL_nil, List.append_nil], HJS.out, HK.out⟩
   case round =>
    clear HP1 HJS HK
    obtain ⟨k, pre, hk, rfl, hp, hJs, hK⟩ := hrel
    have HP := hid hp
    have HJS := hid hJs
    have HK := hid hK
    by_cases hlt : k < L.length
    ·obtain ⟨_, _, he, _, _, _, hop⟩ := (R2.out.kpr hK).row.open
     cases he
     obtain ⟨b1, o1, hsa, hb1, hr1⟩ := hop (by omega)
     obtain ⟨x, hx⟩ := get_lt hlt
     obtain ⟨g0, g1, g2, g3, g4, g5, g6⟩ := rowS hr1 hx
     have hkL : (k : Int) < (L.length : Int) := by omega
     obtain ⟨C, hC⟩ : ∃ C, applyL B (pre.map klR) = C := ⟨_, rfl⟩
     have HC := hid (show applyL C0 (seenL now C0 (L.take k)) = C by rw [← hC, hp, applyL_append, HC0.out])
     obtain ⟨vC, hvC⟩ : ∃ v, VarIs wr T C v := by obtain ⟨v, hv⟩ := HZ.out pre wr hJs; rw [applyAll_L, hC] at hv; exact ⟨v, hv⟩
     have HVC := hid hvC
     have HSN := hid (show seenL now C0 (L.take (k + 1)) = seenL now C0 (L.take k) ++ (seenI C now x).toList by
      rw [take_snoc L k x hx, seenL_append, HC.out]
      cases hq : seenI C now x with
      | none => rw [seenL_none hq]; rfl
      | some r => rw [seenL_some hq]; rfl)
     have hplen : pre.length ≤ B.K.length + k := by
      have h1 := congrArg List.length hp
      have h2 := List.length_filterMap_le (keptI L frm now) B.K
      have h3 := seenL_len (now := now) (L.take k) C0
      rw [List.length_map, List.length_append] at h1
      rw [List.length_take] at h3
      unfold keptL21 at h1
      omega
     have HCL := hid (show C.K.length ≤ 1000 ∧ C.I.length ≤ 1000 by
      have h1 := Fine.allL (n := 800) (B := B) ⟨hl2, hl1, hph⟩ (pre.map klR)
      rw [hC, List.length_map] at h1
      exact ⟨by have := h1.2.1; omega, by have := h1.1; omega⟩)
     have hn0 := hK.cells N2.out (by decide)
     have n0 := blk_cell hn0 0
     have n0l := blk_lt hn0
     have q0 := blk_cell (hK.cells P2.out (by decide)) 0
     simp only [List.getElem?_toArray, List.getElem?_cons_zero] at n0 q0
     have NQ := hid hn0
     have QQ := hid q0
     have h5 := bsI5
     have h3 := bsI3
     have HP5 := hid hplen
     clear hr1 hx hp hJs hK hop hC hvC hn0 q0 hplen
     subst hsa
     gi_wp2_with fail
     refine (callsIn_wide.2 (rec_any 8 _ 5 5 _)).mono ?_
     have HYB := hid (show Below wr.heap.size wr ((wr.alloc (.cells #[.int .i64 x.id, .int .i64 x.token, .int .i64 x.version, .int .i64 x.zone, .bool x.on, .bool x.well, .bool x.inn] 44)).alloc (.cells #[.int .i64 x.id, .int .i64 x.token, .int .i64 x.version, .int .i64 x.zone, .int .i64 now] 3)) from ((Below.refl _ _).alloc (Nat.le_refl _) _).alloc (by simp) _)
     have HYS := hid (blk_alloc (heap_new wr (.cells #[.int .i64 x.id, .int .i64 x.token, .int .i64 x.version, .int .i64 x.zone, .bool x.on, .bool x.well, .bool x.inn] 44)) (.cells #[.int .i64 x.id, .int .i64 x.token, .int .i64 x.version, .int .i64 x.zone, .int .i64 now] 3))
     have HYO := hid (own_ints (W := wr.alloc (.cells #[.int .i64 x.id, .int .i64 x.token, .int .i64 x.version, .int .i64 x.zone, .bool x.on, .bool x.well, .bool x.inn] 44)) (L := [x.id, x.token, x.version, x.zone, now]) (cs := #[.int .i64 x.id, .int .i64 x.token, .int .i64 x.version, .int .i64 x.zone, .int .i64 now]) (n := 5) (base := w.heap.size) (by have := Z2.out; have := HK.out.1; simp; omega) rfl rfl rfl (by decide))
     rw [World.size_alloc] at HYO
     generalize ((wr.alloc (.cells #[.int .i64 x.id, .int .i64 x.token, .int .i64 x.version, .int .i64 x.zone, .bool x.on, .bool x.well, .bool x.inn] 44)).alloc (.cells #[.int .i64 x.id, .int .i64 x.token, .int .i64 x.version, .int .i64 x.zone, .int .i64 now] 3)) = Y at HYB HYS HYO ⊢
     rintro e V0 ⟨rfl, hb⟩
     obtain ⟨V, hV⟩ : ∃ V, V = V0.alloc (.cells #[.int .u8 8, .slice (some ⟨wr.heap.size + 1, 0, none⟩) 5 5] 62) := ⟨_, rfl⟩
     have hal : Below V0.heap.size V0 V := by rw [hV]; exact (Below.refl _ _).alloc (Nat.le_refl _) _
     have hbY : Below Y.heap.size Y V := hb.trans (hal.mono hb.size)
     have HBV := hid (HYB.out.trans (hbY.mono HYB.out.size))
     have HRB0 := hid (show V.heap[V0.heap.size]? = some (.cells #[.int .u8 8, .slice (some ⟨wr.heap.size + 1, 0, none⟩) 5 5] 62) by rw [hV]; exact heap_new _ _)
     have HSB := hid (blk_below HYS.out hbY (blk_lt HYS.out))
     have HOW := hid (Owns.below HYO.out hbY)
     have HVV := hid (HVC.out.below HBV.out)
     have NV := hid (blk_below NQ.out HBV.out (blk_lt NQ.out))
     have QV := hid (cell_below QQ.out HBV.out)
     have HKV := hid (HK.out.trans (KpR.below HBV.out))
     have HJV := hid (HJ.out _ _ _ none HJS.out (grown_of_below HBV.out none) (by simp))
     have HV := hid hV
     have HT14 := hid (show wr.heap.size < V0.heap.size by have := blk_lt HYS.out; have := hb.size; omega)
     clear hb hal hbY hV g0 g1 g2 g3 g4 g5 g6 n0 n0l HYB HYS HYO h5
     gi_wp2_with fail
     rw [← HV.out]
     obtain ⟨T14, hT14⟩ : ∃ T, V0.heap.size = T := ⟨_, rfl⟩
     have HRB := hid HRB0.out
     rw [hT14] at HRB HT14 ⊢
     clear hT14 HRB0 HV
     have s1 : V.cell? ⟨wr.heap.size, 1, none⟩ = some (.int .i64 x.token) := blk_cell HSB.out 1
     have kq := fun d os => cell_regrown s1 d os
     by_cases ht : 0 < x.token
     ·have dt : decide ((0 : Int) < x.token) = true := decide_eq_true ht
      have HT := hid ht
      have kp := fun d os => cell_regrown QV.out d os
      have kl := fun d os => (HVV.out.below (below_regrown V d os)).load
      obtain ⟨r, hr⟩ : ∃ r, idxL C.I (fun y => y.token == x.token) = r := ⟨_, rfl⟩
      have HCALL := hid (fun d os => Calls.regrown_of (d := d) (os := os) (w := V) (token_is x.token r hr (HVV.out.below (below_regrown V d os)).is HCL.out.2))
      have HRR := hid hr
      clear hr ht
      by_cases hr0 : 0 ≤ r
      ·have dr : decide ((0 : Int) ≤ r) = true := decide_eq_true hr0
       have HSI := hid (show (if 0 < x.token ∧ 0 ≤ idxL C.I (fun y => y.token == x.token) then some ((4, [x.token, x.id, now]) : RecP) else some (8, [x.id, x.token, x.version, x.zone, now])) = some (4, [x.token, x.id, now]) by rw [if_pos ⟨HT.out, by rw [HRR.out]; exact hr0⟩])
       clear hr0
       refine wpIn_wide.2 ?_
       refine wp_region_quiet_below (by kernel_rfl) (by kernel_rfl) ?_
       repeat (go_big_quiet_step (exact HCALL.out _ _))
       refine wpQuiet_nil ?_
       intro _ hw'
       obtain ⟨⟨dq, osq⟩, hw''⟩ := hw'
       subst hw''
       have hbq := below_regrown V dq osq
       obtain ⟨U, hU⟩ : ∃ U, U = Sort.grow (redrawn V dq) osq := ⟨_, rfl⟩
       rw [← hU] at hbq ⊢
       have HBU := hid (HBV.out.trans (hbq.mono HBV.out.size))
       have HSU := hid (blk_below HSB.out hbq (blk_lt HSB.out))
       have HRU := hid (blk_below HRB.out hbq (blk_lt HRB.out))
       have HOU := hid (Owns.below HOW.out hbq)
       clear hU hbq
       clear s1 kq kp kl dt dr
       have HNU := hid (blk_below NQ.out HBU.out (blk_lt NQ.out))
       have u0 : U.cell? ⟨wr.heap.size, 0, none⟩ = some (.int .i64 x.id) := blk_cell HSU.out 0
       have u1 : U.cell? ⟨wr.heap.size, 1, none⟩ = some (.int .i64 x.token) := blk_cell HSU.out 1
       have ul := blk_lt HSU.out
       have n0 : U.cell? ⟨Bp + 1 + 1, 0, none⟩ = some (.int .i64 now) := blk_cell HNU.out 0
       have nl := blk_lt HNU.out
       gi_wp2_with fail
       refine (callsIn_wide.2 (rec_any 4 _ 3 3 _)).mono ?_
       have HO3 := hid (own_ints (W := U) (L := [x.token, x.id, now]) (cs := #[.int .i64 x.token, .int .i64 x.id, .int .i64 now]) (n := 3) (base := w.heap.size) (by have := Z2.out; have := HK.out.1; have := HBU.out.size; omega) rfl rfl rfl (by decide))
       have hal : Below U.heap.size U (U.alloc (.cells #[.int .i64 x.token, .int .i64 x.id, .int .i64 now] 3)) := (Below.refl _ _).alloc (Nat.le_refl _) _
       have HAL := hid hal
       clear u0 u1 ul n0 nl hal
       rintro e U1 ⟨rfl, hb⟩
       have hb1 := HAL.out.trans (hb.mono HAL.out.size)
       have hr1 := blk_below HRU.out hb1 (blk_lt HRU.out)
       have hlT : wr.heap.size < T14 := HT14.out
       obtain ⟨z0, z1, zf, zl⟩ := blk2 hr1
       obtain ⟨U2, hU2⟩ : ∃ U2, U2 = (U1.setCell ⟨T14, 0, none⟩ (.int .u8 4)).setCell ⟨T14, 1, none⟩ (.slice (some ⟨U.heap.size, 0, none⟩) 3 3) := ⟨_, rfl⟩
       have HBU2 := hid (show Below wr.heap.size wr U2 from by
        rw [hU2]
        exact ((HBU.out.trans (hb1.mono HBU.out.size)).setCell (p := ⟨T14, 0, none⟩) (Nat.le_of_lt hlT) _).setCell (p := ⟨T14, 1, none⟩) (Nat.le_of_lt hlT) _)
       have HSU2 := hid (show U2.heap[wr.heap.size]? = some (.cells #[.int .i64 x.id, .int .i64 x.token, .int .i64 x.version, .int .i64 x.zone, .bool x.on, .bool x.well, .bool x.inn] 44) from by
        rw [hU2]
        exact blk_far (blk_far (blk_below HSU.out hb1 (blk_lt HSU.out)) (by omega) _) (by omega) _)
       have HRU2 := hid (show U2.heap[T14]? = some (.cells #[.int .u8 4, .slice (some ⟨U.heap.size, 0, none⟩) 3 3] 62) from by
        rw [hU2]
        simpa using blk_set (blk_set hr1 0 (.int .u8 4)) 1 (.slice (some ⟨U.heap.size, 0, none⟩) 3 3))
       have HOU2 := hid (show OwnI U2 w.heap.size (.slice (some ⟨U.heap.size, 0, none⟩) 3 3) [x.token, x.id, now] from by
        rw [hU2]
        exact owns_at (owns_at (Owns.below HO3.out hb) hr1 (by decide) 0 _) (blk_set hr1 0 _) (by decide) 1 _)
       have HU2 := hid hU2
       clear hb hb1 hr1 hU2 hlT HBU HSU HRU HOU HO3 HAL HNU
       gi_wp2_with fail
       rw [← HU2.out]
       clear z0 z1 zf zl HU2
       have HBU := HBU2
       have HSU := HSU2
       have HRU := HRU2
       have HOU := HOU2
       have HVU := hid (HVC.out.below HBU.out)
       have QU := hid (cell_below QQ.out HBU.out)
       have HJU := hid (HJ.out _ _ _ none HJS.out (grown_of_below HBU.out none) (by simp))
       have HKU := hid (HK.out.trans (KpR.below HBU.out))
       obtain ⟨rf, hrf⟩ : ∃ r, idxL C.K (fun y => y.id == x.id) = r := ⟨_, rfl⟩
       obtain ⟨fb, hfb⟩ : ∃ q, decide (rf < 0) = q := ⟨_, rfl⟩
       have HRF := hid hrf
       have HFB := hid hfb
       clear hrf hfb
       gi_wp2_with fail
       refine wpIn_region_growCut 8 5 (spL [fun z _ => z = .pointer (some ⟨T, 0, none⟩), fun z _ => z = .pointer (some ⟨T, 0, none⟩), fun z _ => z = vC, fun z _ => z = .pointer (some ⟨wr.heap.size, 0, none⟩), fun z _ => z = .int .i64 x.id, fun z _ => z = .int .i64 rf, fun z _ => z = .bool fb, fun z _ => z = .bool fb]) (spL_stays ⟨stays_eq _, stays_eq _, stays_eq _, stays_eq _, stays_eq _, stays_eq _, stays_eq _, stays_eq _, trivial⟩) (by kernel_rfl) rfl (by kernel_rfl) (by kernel_rfl) (by kernel_rfl) ?steps ?fin
       case steps =>
        refine ⟨?_, ?_, ?_, ?_, ?_, ?_, ?_, ?_, fun h => absurd h (by decide), fun h => absurd h (by decide), fun h => absurd h (by decide), fun h => absurd h (by decide), fun h => absurd h (by decide), trivial⟩
        ·intro _ a' w' hB hdep hoth K hK
         rw [if_pos (guard_none rfl)]
         have hbw : Below U2.heap.size U2 w' := (below_drewN (Below.refl _ _) 1).trans hB
         have t2 := hoth 2 (notDst_at (by kernel_rfl))
         simp only [List.getElem?_toArray, List.getElem?_cons_succ, List.getElem?_cons_zero] at t2
         have q1 := cell_below QU.out hbw
         have lq := lt_of_cell q1
         dsimp only at lq
         clear hdep hoth
         refine ⟨fun _ _ => trivial, ?_⟩
         go_simp
         exact hK _ _ (Below.refl _ _) rfl
        ·intro _ a' w' hB hdep hoth K hK
         rw [if_pos (guard_none rfl)]
         have hbw : Below U2.heap.size U2 w' := (below_drewN (Below.refl _ _) 1).trans hB
         obtain ⟨vx0, gx0, ex0⟩ := hdep ⟨0, .data⟩ (by simp) rfl
         have gx0 := gx0 95 rfl (by simp)
         obtain rfl : vx0 = .pointer (some ⟨T, 0, none⟩) := ex0
         clear hdep hoth
         refine ⟨fun _ _ => trivial, ?_⟩
         go_simp
         exact hK _ _ (Below.refl _ _) rfl
        ·intro _ a' w' hB hdep hoth K hK
         rw [if_pos (guard_none rfl)]
         have hbw : Below U2.heap.size U2 w' := (below_drewN (Below.refl _ _) 1).trans hB
         obtain ⟨vx0, gx0, ex0⟩ := hdep ⟨1, .data⟩ (by simp) rfl
         have gx0 := gx0 96 rfl (by simp)
         obtain rfl : vx0 = .pointer (some ⟨T, 0, none⟩) := ex0
         have hld := (HVU.out.below hbw).load
         clear hdep hoth
         refine ⟨fun _ _ => trivial, ?_⟩
         go_simp
         exact hK _ _ (Below.refl _ _) rfl
        ·intro _ a' w' hB hdep hoth K hK
         rw [if_pos (guard_none rfl)]
         have hbw : Below U2.heap.size U2 w' := (below_drewN (Below.refl _ _) 1).trans hB
         have t13 := hoth 13 (notDst_at (by kernel_rfl))
         simp only [List.getElem?_toArray, List.getElem?_cons_succ, List.getElem?_cons_zero] at t13
         clear hdep hoth
         refine ⟨fun _ _ => trivial, ?_⟩
         go_simp
         exact hK _ _ (Below.refl _ _) rfl
        ·intro _ a' w' hB hdep hoth K hK
         rw [if_pos (guard_none rfl)]
         have hbw : Below U2.heap.size U2 w' := (below_drewN (Below.refl _ _) 1).trans hB
         obtain ⟨vx0, gx0, ex0⟩ := hdep ⟨3, .data⟩ (by simp) rfl
         have gx0 := gx0 98 rfl (by simp)
         obtain rfl : vx0 = .pointer (some ⟨wr.heap.size, 0, none⟩) := ex0
         have q1 : w'.cell? ⟨wr.heap.size, 0, none⟩ = some (.int .i64 x.id) := blk_cell (blk_below HSU.out hbw (blk_lt HSU.out)) 0
         have lq := blk_lt (blk_below HSU.out hbw (blk_lt HSU.out))
         clear hdep hoth
         refine ⟨fun _ _ => trivial, ?_⟩
         go_simp
         exact hK _ _ (Below.refl _ _) rfl
        ·intro _ a' w' hB hdep hoth K hK
         rw [if_pos (guard_none rfl)]
         have hbw : Below U2.heap.size U2 w' := (below_drewN (Below.refl _ _) 1).trans hB
         obtain ⟨vx0, gx0, ex0⟩ := hdep ⟨2, .data⟩ (by simp) rfl
         have gx0 := gx0 97 rfl (by simp)
         obtain rfl : vx0 = vC := ex0
         obtain ⟨vx1, gx1, ex1⟩ := hdep ⟨4, .data⟩ (by simp) rfl
         have gx1 := gx1 99 rfl (by simp)
         obtain rfl : vx1 = .int .i64 x.id := ex1
         have HA := hid (find_is x.id rf HRF.out (HVU.out.below hbw).is HCL.out.1)
         clear hdep hoth
         refine ⟨fun _ _ => trivial, ?_⟩
         go_simp
         refine (callsIn_wide.2 HA.out).mono ?_
         rintro e w'' ⟨rfl, hb⟩
         exact hK _ _ hb rfl
        ·intro _ a' w' hB hdep hoth K hK
         rw [if_pos (guard_none rfl)]
         have hbw : Below U2.heap.size U2 w' := (below_drewN (Below.refl _ _) 1).trans hB
         obtain ⟨vx0, gx0, ex0⟩ := hdep ⟨5, .data⟩ (by simp) rfl
         have gx0 := gx0 100 rfl (by simp)
         obtain rfl : vx0 = .int .i64 rf := ex0
         have hfb := HFB.out
         clear hdep hoth
         refine ⟨fun _ _ => trivial, ?_⟩
         go_simp
         exact hK _ _ (Below.refl _ _) rfl
        ·intro _ a' w' hB hdep hoth K hK
         rw [if_pos (guard_none rfl)]
         have hbw : Below U2.heap.size U2 w' := (below_drewN (Below.refl _ _) 1).trans hB
         obtain ⟨vx0, gx0, ex0⟩ := hdep ⟨6, .data⟩ (by simp) rfl
         have gx0 := gx0 101 rfl (by simp)
         obtain rfl : vx0 = .bool fb := ex0
         clear hdep hoth
         refine ⟨fun _ _ => trivial, ?_⟩
         go_simp
         exact hK _ _ (Below.refl _ _) rfl
       case fin =>
        intro vs X hB hs f hf
        obtain ⟨f, rfl⟩ : ∃ g, f = g + 5 := ⟨f - 5, by omega⟩
        have hbw : Below U2.heap.size U2 X := (below_drewN (Below.refl _ _) 1).trans hB
        have e7 : vs 7 = .bool fb := hs 7 (by decide)
        clear hs hB hf
        simp only [actOf, dstAt, if_true, List.getElem?_toArray, List.getElem?_cons_succ, List.getElem?_cons_zero, Option.bind_some, Act.put, List.setIfInBounds_toArray, List.set_cons_zero, List.set_cons_succ]
        rw [e7]
        clear e7
        have HBX := hid (HBU.out.trans (hbw.mono HBU.out.size))
        have HKX := hid (HKU.out.trans (KpR.below hbw))
        cases fb with
        | false =>
         have HNO := hid (show seenI C now x = none by unfold seenI; rw [HRF.out, if_pos (by have := HFB.out; simp at this; omega)])
         refine wpAnyIn_ready (rs := [8, 9]) (by kernel_rfl) (by simp) (AllReadyIn.cons rfl (fun K hK => ?_) (AllReadyIn.cons rfl (fun K hK => ?_) AllReadyIn.nil))
         ·rw [guard_is (c := false) rfl rfl rfl, if_neg (by decide)]
          refine ⟨fun _ _ => trivial, hK _ _ ?_⟩
          clear hK K
          refine wpAnyIn_ready (rs := [9]) (by kernel_rfl) (by simp) (AllReadyIn.cons rfl (fun K hK => ?_) AllReadyIn.nil)
          rw [guard_is (c := false) rfl rfl rfl, if_neg (by decide)]
          refine ⟨fun _ _ => trivial, hK _ _ ?_⟩
          clear hK K
          refine wpAnyIn_ready (rs := [10]) (by kernel_rfl) (by simp) (AllReadyIn.cons rfl (fun K hK => ?_) AllReadyIn.nil)
          rw [guard_is (c := false) rfl rfl rfl, if_neg (by decide)]
          refine ⟨fun _ _ => trivial, hK _ _ ?_⟩
          clear hK K
          refine wpAnyIn_ready (rs := [11]) (by kernel_rfl) (by simp) (AllReadyIn.cons rfl (fun K hK => ?_) AllReadyIn.nil)
          rw [guard_is (c := false) rfl rfl rfl, if_neg (by decide)]
          refine ⟨fun _ _ => trivial, hK _ _ ?_⟩
          clear hK K
          refine wpAnyIn_ready (rs := [12]) (by kernel_rfl) (by simp) (AllReadyIn.cons rfl (fun K hK => ?_) AllReadyIn.nil)
          rw [if_pos (guard_none rfl)]
          refine ⟨fun _ _ => trivial, ?_⟩
          go_simp
          refine hK _ _ ?_
          clear hK K
          refine wpAnyIn_done (by kernel_rfl) ?_ _
          gi_wp2
          go_roundw
          case rel => exact ⟨k + 1, pre, by omega, by go_num, by rw [HSN.out, HNO.out, HP.out]; simp, HJ.out _ _ _ none HJS.out (grown_of_below HBX.out none) (by simp), HKX.out⟩
          case measure => simp [intOf]; omega
         ·rw [guard_is (c := false) rfl rfl rfl, if_neg (by decide)]
          refine ⟨fun _ _ => trivial, hK _ _ ?_⟩
          clear hK K
          refine wpAnyIn_ready (rs := [8]) (by kernel_rfl) (by simp) (AllReadyIn.cons rfl (fun K hK => ?_) AllReadyIn.nil)
          rw [guard_is (c := false) rfl rfl rfl, if_neg (by decide)]
          refine ⟨fun _ _ => trivial, hK _ _ ?_⟩
          clear hK K
          refine wpAnyIn_ready (rs := [10]) (by kernel_rfl) (by simp) (AllReadyIn.cons rfl (fun K hK => ?_) AllReadyIn.nil)
          rw [guard_is (c := false) rfl rfl rfl, if_neg (by decide)]
          refine ⟨fun _ _ => trivial, hK _ _ ?_⟩
          clear hK K
          refine wpAnyIn_ready (rs := [11]) (by kernel_rfl) (by simp) (AllReadyIn.cons rfl (fun K hK => ?_) AllReadyIn.nil)
          rw [guard_is (c := false) rfl rfl rfl, if_neg (by decide)]
          refine ⟨fun _ _ => trivial, hK _ _ ?_⟩
          clear hK K
          refine wpAnyIn_ready (rs := [12]) (by kernel_rfl) (by simp) (AllReadyIn.cons rfl (fun K hK => ?_) AllReadyIn.nil)
          rw [if_pos (guard_none rfl)]
          refine ⟨fun _ _ => trivial, ?_⟩
          go_simp
          refine hK _ _ ?_
          clear hK K
          refine wpAnyIn_done (by kernel_rfl) ?_ _
          gi_wp2
          go_roundw
          case rel => exact ⟨k + 1, pre, by omega, by go_num, by rw [HSN.out, HNO.out, HP.out]; simp, HJ.out _ _ _ none HJS.out (grown_of_below HBX.out none) (by simp), HKX.out⟩
          case measure => simp [intOf]; omega
        | true =>
         have HNO := hid (show seenI C now x = some (4, [x.token, x.id, now]) by unfold seenI; rw [HRF.out, if_neg (by have := HFB.out; simp at this; omega)]; exact HSI.out)
         have HJX := hid (HJ.out _ _ _ none HJS.out (grown_of_below HBX.out none) (by simp))
         have HRX := blk_below HRU.out hbw (blk_lt HRU.out)
         have z0 : X.cell? ⟨T14, 0, none⟩ = some (.int .u8 4) := blk_cell HRX 0
         have z1 : X.cell? ⟨T14, 1, none⟩ = some (.slice (some ⟨U.heap.size, 0, none⟩) 3 3) := blk_cell HRX 1
         have zl := blk_lt HRX
         obtain ⟨fn, tmps, assign, body, hy, hR⟩ := HY.out pre ⟨4, .slice (some ⟨U.heap.size, 0, none⟩) 3 3, [x.token, x.id, now]⟩ X HJX.out ⟨Owns.below HOU.out hbw, (seenI_kind HNO.out).1⟩ (by have := HP5.out; omega)
         dsimp only [itemR21, recV] at hy
         have HR := hid hR
         clear hR HRX hbw
         refine wpAnyIn_ready (rs := [8, 9]) (by kernel_rfl) (by simp) (AllReadyIn.cons rfl (fun K hK => ?_) (AllReadyIn.cons rfl (fun K hK => ?_) AllReadyIn.nil))
         ·rw [guard_is (c := true) rfl rfl rfl, if_pos (by decide)]
          refine ⟨fun _ _ => trivial, ?_⟩
          go_simp
          refine hK _ _ ?_
          clear hK K
          refine wpAnyIn_ready (rs := [9]) (by kernel_rfl) (by simp) (AllReadyIn.cons rfl (fun K hK => ?_) AllReadyIn.nil)
          rw [guard_is (c := true) rfl rfl rfl, if_pos (by decide)]
          refine ⟨fun _ _ => trivial, ?_⟩
          go_simp
          refine hK _ _ ?_
          clear hK K
          refine wpAnyIn_ready (rs := [10]) (by kernel_rfl) (by simp) (AllReadyIn.cons rfl (fun K hK => ?_) AllReadyIn.nil)
          rw [guard_is (c := true) rfl rfl rfl, if_pos (by decide)]
          refine ⟨fun _ _ => trivial, ?_⟩
          go_simp
          refine HR.out.mono ?_
          rintro e W3 ⟨rfl, hJ3, hk3⟩
          refine hK _ _ ?_
          clear hK K
          refine wpAnyIn_ready (rs := [11]) (by kernel_rfl) (by simp) (AllReadyIn.cons rfl (fun K hK => ?_) AllReadyIn.nil)
          rw [guard_is (c := true) rfl rfl rfl, if_pos (by decide)]
          refine ⟨fun _ _ => trivial, ?_⟩
          go_simp
          refine hK _ _ ?_
          clear hK K
          refine wpAnyIn_ready (rs := [12]) (by kernel_rfl) (by simp) (AllReadyIn.cons rfl (fun K hK => ?_) AllReadyIn.nil)
          rw [if_pos (guard_none rfl)]
          refine ⟨fun _ _ => trivial, ?_⟩
          go_simp
          refine hK _ _ ?_
          clear hK K
          refine wpAnyIn_done (by kernel_rfl) ?_ _
          gi_wp2
          go_roundw
          case rel => exact ⟨k + 1, _, by omega, by go_num, by rw [HSN.out, HNO.out, List.map_append, HP.out, List.append_assoc]; rfl, hJ3, HKX.out.trans hk3⟩
          case measure => simp [intOf]; omega
         ·rw [guard_is (c := true) rfl rfl rfl, if_pos (by decide)]
          refine ⟨fun _ _ => trivial, ?_⟩
          go_simp
          refine hK _ _ ?_
          clear hK K
          refine wpAnyIn_ready (rs := [8]) (by kernel_rfl) (by simp) (AllReadyIn.cons rfl (fun K hK => ?_) AllReadyIn.nil)
          rw [guard_is (c := true) rfl rfl rfl, if_pos (by decide)]
          refine ⟨fun _ _ => trivial, ?_⟩
          go_simp
          refine hK _ _ ?_
          clear hK K
          refine wpAnyIn_ready (rs := [10]) (by kernel_rfl) (by simp) (AllReadyIn.cons rfl (fun K hK => ?_) AllReadyIn.nil)
          rw [guard_is (c := true) rfl rfl rfl, if_pos (by decide)]
          refine ⟨fun _ _ => trivial, ?_⟩
          go_simp
          refine HR.out.mono ?_
          rintro e W3 ⟨rfl, hJ3, hk3⟩
          refine hK _ _ ?_
          clear hK K
          refine wpAnyIn_ready (rs := [11]) (by kernel_rfl) (by simp) (AllReadyIn.cons rfl (fun K hK => ?_) AllReadyIn.nil)
          rw [guard_is (c := true) rfl rfl rfl, if_pos (by decide)]
          refine ⟨fun _ _ => trivial, ?_⟩
          go_simp
          refine hK _ _ ?_
          clear hK K
          refine wpAnyIn_ready (rs := [12]) (by kernel_rfl) (by simp) (AllReadyIn.cons rfl (fun K hK => ?_) AllReadyIn.nil)
          rw [if_pos (guard_none rfl)]
          refine ⟨fun _ _ => trivial, ?_⟩
          go_simp
          refine hK _ _ ?_
          clear hK K
          refine wpAnyIn_done (by kernel_rfl) ?_ _
          gi_wp2
          go_roundw
          case rel => exact ⟨k + 1, _, by omega, by go_num, by rw [HSN.out, HNO.out, List.map_append, HP.out, List.append_assoc]; rfl, hJ3, HKX.out.trans hk3⟩
          case measure => simp [intOf]; omega
      ·have dr : decide ((0 : Int) ≤ r) = false := decide_eq_false hr0
       have HSI := hid (show (if 0 < x.token ∧ 0 ≤ idxL C.I (fun y => y.token == x.token) then some ((4, [x.token, x.id, now]) : RecP) else some (8, [x.id, x.token, x.version, x.zone, now])) = some (8, [x.id, x.token, x.version, x.zone, now]) by rw [if_neg (by rw [HRR.out]; exact fun h => hr0 h.2)])
       clear hr0
       refine wpIn_wide.2 ?_
       refine wp_region_quiet_below (by kernel_rfl) (by kernel_rfl) ?_
       repeat (go_big_quiet_step (exact HCALL.out _ _))
       refine wpQuiet_nil ?_
       intro _ hw'
       obtain ⟨⟨dq, osq⟩, hw''⟩ := hw'
       subst hw''
       have hbq := below_regrown V dq osq
       obtain ⟨U, hU⟩ : ∃ U, U = Sort.grow (redrawn V dq) osq := ⟨_, rfl⟩
       rw [← hU] at hbq ⊢
       have HBU := hid (HBV.out.trans (hbq.mono HBV.out.size))
       have HSU := hid (blk_below HSB.out hbq (blk_lt HSB.out))
       have HRU := hid (blk_below HRB.out hbq (blk_lt HRB.out))
       have HOU := hid (Owns.below HOW.out hbq)
       clear hU hbq
       clear s1 kq kp kl dt dr
       have HVU := hid (HVC.out.below HBU.out)
       have QU := hid (cell_below QQ.out HBU.out)
       have HJU := hid (HJ.out _ _ _ none HJS.out (grown_of_below HBU.out none) (by simp))
       have HKU := hid (HK.out.trans (KpR.below HBU.out))
       obtain ⟨rf, hrf⟩ : ∃ r, idxL C.K (fun y => y.id == x.id) = r := ⟨_, rfl⟩
       obtain ⟨fb, hfb⟩ : ∃ q, decide (rf < 0) = q := ⟨_, rfl⟩
       have HRF := hid hrf
       have HFB := hid hfb
       clear hrf hfb
       gi_wp2_with fail
       refine wpIn_region_growCut 8 5 (spL [fun z _ => z = .pointer (some ⟨T, 0, none⟩), fun z _ => z = .pointer (some ⟨T, 0, none⟩), fun z _ => z = vC, fun z _ => z = .pointer (some ⟨wr.heap.size, 0, none⟩), fun z _ => z = .int .i64 x.id, fun z _ => z = .int .i64 rf, fun z _ => z = .bool fb, fun z _ => z = .bool fb]) (spL_stays ⟨stays_eq _, stays_eq _, stays_eq _, stays_eq _, stays_eq _, stays_eq _, stays_eq _, stays_eq _, trivial⟩) (by kernel_rfl) rfl (by kernel_rfl) (by kernel_rfl) (by kernel_rfl) ?steps ?fin
       case steps =>
        refine ⟨?_, ?_, ?_, ?_, ?_, ?_, ?_, ?_, fun h => absurd h (by decide), fun h => absurd h (by decide), fun h => absurd h (by decide), fun h => absurd h (by decide), fun h => absurd h (by decide), trivial⟩
        ·intro _ a' w' hB hdep hoth K hK
         rw [if_pos (guard_none rfl)]
         have hbw : Below U.heap.size U w' := (below_drewN (Below.refl _ _) 1).trans hB
         have t2 := hoth 2 (notDst_at (by kernel_rfl))
         simp only [List.getElem?_toArray, List.getElem?_cons_succ, List.getElem?_cons_zero] at t2
         have q1 := cell_below QU.out hbw
         have lq := lt_of_cell q1
         dsimp only at lq
         clear hdep hoth
         refine ⟨fun _ _ => trivial, ?_⟩
         go_simp
         exact hK _ _ (Below.refl _ _) rfl
        ·intro _ a' w' hB hdep hoth K hK
         rw [if_pos (guard_none rfl)]
         have hbw : Below U.heap.size U w' := (below_drewN (Below.refl _ _) 1).trans hB
         obtain ⟨vx0, gx0, ex0⟩ := hdep ⟨0, .data⟩ (by simp) rfl
         have gx0 := gx0 95 rfl (by simp)
         obtain rfl : vx0 = .pointer (some ⟨T, 0, none⟩) := ex0
         clear hdep hoth
         refine ⟨fun _ _ => trivial, ?_⟩
         go_simp
         exact hK _ _ (Below.refl _ _) rfl
        ·intro _ a' w' hB hdep hoth K hK
         rw [if_pos (guard_none rfl)]
         have hbw : Below U.heap.size U w' := (below_drewN (Below.refl _ _) 1).trans hB
         obtain ⟨vx0, gx0, ex0⟩ := hdep ⟨1, .data⟩ (by simp) rfl
         have gx0 := gx0 96 rfl (by simp)
         obtain rfl : vx0 = .pointer (some ⟨T, 0, none⟩) := ex0
         have hld := (HVU.out.below hbw).load
         clear hdep hoth
         refine ⟨fun _ _ => trivial, ?_⟩
         go_simp
         exact hK _ _ (Below.refl _ _) rfl
        ·intro _ a' w' hB hdep hoth K hK
         rw [if_pos (guard_none rfl)]
         have hbw : Below U.heap.size U w' := (below_drewN (Below.refl _ _) 1).trans hB
         have t13 := hoth 13 (notDst_at (by kernel_rfl))
         simp only [List.getElem?_toArray, List.getElem?_cons_succ, List.getElem?_cons_zero] at t13
         clear hdep hoth
         refine ⟨fun _ _ => trivial, ?_⟩
         go_simp
         exact hK _ _ (Below.refl _ _) rfl
        ·intro _ a' w' hB hdep hoth K hK
         rw [if_pos (guard_none rfl)]
         have hbw : Below U.heap.size U w' := (below_drewN (Below.refl _ _) 1).trans hB
         obtain ⟨vx0, gx0, ex0⟩ := hdep ⟨3, .data⟩ (by simp) rfl
         have gx0 := gx0 98 rfl (by simp)
         obtain rfl : vx0 = .pointer (some ⟨wr.heap.size, 0, none⟩) := ex0
         have q1 : w'.cell? ⟨wr.heap.size, 0, none⟩ = some (.int .i64 x.id) := blk_cell (blk_below HSU.out hbw (blk_lt HSU.out)) 0
         have lq := blk_lt (blk_below HSU.out hbw (blk_lt HSU.out))
         clear hdep hoth
         refine ⟨fun _ _ => trivial, ?_⟩
         go_simp
         exact hK _ _ (Below.refl _ _) rfl
        ·intro _ a' w' hB hdep hoth K hK
         rw [if_pos (guard_none rfl)]
         have hbw : Below U.heap.size U w' := (below_drewN (Below.refl _ _) 1).trans hB
         obtain ⟨vx0, gx0, ex0⟩ := hdep ⟨2, .data⟩ (by simp) rfl
         have gx0 := gx0 97 rfl (by simp)
         obtain rfl : vx0 = vC := ex0
         obtain ⟨vx1, gx1, ex1⟩ := hdep ⟨4, .data⟩ (by simp) rfl
         have gx1 := gx1 99 rfl (by simp)
         obtain rfl : vx1 = .int .i64 x.id := ex1
         have HA := hid (find_is x.id rf HRF.out (HVU.out.below hbw).is HCL.out.1)
         clear hdep hoth
         refine ⟨fun _ _ => trivial, ?_⟩
         go_simp
         refine (callsIn_wide.2 HA.out).mono ?_
         rintro e w'' ⟨rfl, hb⟩
         exact hK _ _ hb rfl
        ·intro _ a' w' hB hdep hoth K hK
         rw [if_pos (guard_none rfl)]
         have hbw : Below U.heap.size U w' := (below_drewN (Below.refl _ _) 1).trans hB
         obtain ⟨vx0, gx0, ex0⟩ := hdep ⟨5, .data⟩ (by simp) rfl
         have gx0 := gx0 100 rfl (by simp)
         obtain rfl : vx0 = .int .i64 rf := ex0
         have hfb := HFB.out
         clear hdep hoth
         refine ⟨fun _ _ => trivial, ?_⟩
         go_simp
         exact hK _ _ (Below.refl _ _) rfl
        ·intro _ a' w' hB hdep hoth K hK
         rw [if_pos (guard_none rfl)]
         have hbw : Below U.heap.size U w' := (below_drewN (Below.refl _ _) 1).trans hB
         obtain ⟨vx0, gx0, ex0⟩ := hdep ⟨6, .data⟩ (by simp) rfl
         have gx0 := gx0 101 rfl (by simp)
         obtain rfl : vx0 = .bool fb := ex0
         clear hdep hoth
         refine ⟨fun _ _ => trivial, ?_⟩
         go_simp
         exact hK _ _ (Below.refl _ _) rfl
       case fin =>
        intro vs X hB hs f hf
        obtain ⟨f, rfl⟩ : ∃ g, f = g + 5 := ⟨f - 5, by omega⟩
        have hbw : Below U.heap.size U X := (below_drewN (Below.refl _ _) 1).trans hB
        have e7 : vs 7 = .bool fb := hs 7 (by decide)
        clear hs hB hf
        simp only [actOf, dstAt, if_true, List.getElem?_toArray, List.getElem?_cons_succ, List.getElem?_cons_zero, Option.bind_some, Act.put, List.setIfInBounds_toArray, List.set_cons_zero, List.set_cons_succ]
        rw [e7]
        clear e7
        have HBX := hid (HBU.out.trans (hbw.mono HBU.out.size))
        have HKX := hid (HKU.out.trans (KpR.below hbw))
        cases fb with
        | false =>
         have HNO := hid (show seenI C now x = none by unfold seenI; rw [HRF.out, if_pos (by have := HFB.out; simp at this; omega)])
         refine wpAnyIn_ready (rs := [8, 9]) (by kernel_rfl) (by simp) (AllReadyIn.cons rfl (fun K hK => ?_) (AllReadyIn.cons rfl (fun K hK => ?_) AllReadyIn.nil))
         ·rw [guard_is (c := false) rfl rfl rfl, if_neg (by decide)]
          refine ⟨fun _ _ => trivial, hK _ _ ?_⟩
          clear hK K
          refine wpAnyIn_ready (rs := [9]) (by kernel_rfl) (by simp) (AllReadyIn.cons rfl (fun K hK => ?_) AllReadyIn.nil)
          rw [guard_is (c := false) rfl rfl rfl, if_neg (by decide)]
          refine ⟨fun _ _ => trivial, hK _ _ ?_⟩
          clear hK K
          refine wpAnyIn_ready (rs := [10]) (by kernel_rfl) (by simp) (AllReadyIn.cons rfl (fun K hK => ?_) AllReadyIn.nil)
          rw [guard_is (c := false) rfl rfl rfl, if_neg (by decide)]
          refine ⟨fun _ _ => trivial, hK _ _ ?_⟩
          clear hK K
          refine wpAnyIn_ready (rs := [11]) (by kernel_rfl) (by simp) (AllReadyIn.cons rfl (fun K hK => ?_) AllReadyIn.nil)
          rw [guard_is (c := false) rfl rfl rfl, if_neg (by decide)]
          refine ⟨fun _ _ => trivial, hK _ _ ?_⟩
          clear hK K
          refine wpAnyIn_ready (rs := [12]) (by kernel_rfl) (by simp) (AllReadyIn.cons rfl (fun K hK => ?_) AllReadyIn.nil)
          rw [if_pos (guard_none rfl)]
          refine ⟨fun _ _ => trivial, ?_⟩
          go_simp
          refine hK _ _ ?_
          clear hK K
          refine wpAnyIn_done (by kernel_rfl) ?_ _
          gi_wp2
          go_roundw
          case rel => exact ⟨k + 1, pre, by omega, by go_num, by rw [HSN.out, HNO.out, HP.out]; simp, HJ.out _ _ _ none HJS.out (grown_of_below HBX.out none) (by simp), HKX.out⟩
          case measure => simp [intOf]; omega
         ·rw [guard_is (c := false) rfl rfl rfl, if_neg (by decide)]
          refine ⟨fun _ _ => trivial, hK _ _ ?_⟩
          clear hK K
          refine wpAnyIn_ready (rs := [8]) (by kernel_rfl) (by simp) (AllReadyIn.cons rfl (fun K hK => ?_) AllReadyIn.nil)
          rw [guard_is (c := false) rfl rfl rfl, if_neg (by decide)]
          refine ⟨fun _ _ => trivial, hK _ _ ?_⟩
          clear hK K
          refine wpAnyIn_ready (rs := [10]) (by kernel_rfl) (by simp) (AllReadyIn.cons rfl (fun K hK => ?_) AllReadyIn.nil)
          rw [guard_is (c := false) rfl rfl rfl, if_neg (by decide)]
          refine ⟨fun _ _ => trivial, hK _ _ ?_⟩
          clear hK K
          refine wpAnyIn_ready (rs := [11]) (by kernel_rfl) (by simp) (AllReadyIn.cons rfl (fun K hK => ?_) AllReadyIn.nil)
          rw [guard_is (c := false) rfl rfl rfl, if_neg (by decide)]
          refine ⟨fun _ _ => trivial, hK _ _ ?_⟩
          clear hK K
          refine wpAnyIn_ready (rs := [12]) (by kernel_rfl) (by simp) (AllReadyIn.cons rfl (fun K hK => ?_) AllReadyIn.nil)
          rw [if_pos (guard_none rfl)]
          refine ⟨fun _ _ => trivial, ?_⟩
          go_simp
          refine hK _ _ ?_
          clear hK K
          refine wpAnyIn_done (by kernel_rfl) ?_ _
          gi_wp2
          go_roundw
          case rel => exact ⟨k + 1, pre, by omega, by go_num, by rw [HSN.out, HNO.out, HP.out]; simp, HJ.out _ _ _ none HJS.out (grown_of_below HBX.out none) (by simp), HKX.out⟩
          case measure => simp [intOf]; omega
        | true =>
         have HNO := hid (show seenI C now x = some (8, [x.id, x.token, x.version, x.zone, now]) by unfold seenI; rw [HRF.out, if_neg (by have := HFB.out; simp at this; omega)]; exact HSI.out)
         have HJX := hid (HJ.out _ _ _ none HJS.out (grown_of_below HBX.out none) (by simp))
         have HRX := blk_below HRU.out hbw (blk_lt HRU.out)
         have z0 : X.cell? ⟨T14, 0, none⟩ = some (.int .u8 8) := blk_cell HRX 0
         have z1 : X.cell? ⟨T14, 1, none⟩ = some (.slice (some ⟨wr.heap.size + 1, 0, none⟩) 5 5) := blk_cell HRX 1
         have zl := blk_lt HRX
         obtain ⟨fn, tmps, assign, body, hy, hR⟩ := HY.out pre ⟨8, .slice (some ⟨wr.heap.size + 1, 0, none⟩) 5 5, [x.id, x.token, x.version, x.zone, now]⟩ X HJX.out ⟨Owns.below HOU.out hbw, (seenI_kind HNO.out).1⟩ (by have := HP5.out; omega)
         dsimp only [itemR21, recV] at hy
         have HR := hid hR
         clear hR HRX hbw
         refine wpAnyIn_ready (rs := [8, 9]) (by kernel_rfl) (by simp) (AllReadyIn.cons rfl (fun K hK => ?_) (AllReadyIn.cons rfl (fun K hK => ?_) AllReadyIn.nil))
         ·rw [guard_is (c := true) rfl rfl rfl, if_pos (by decide)]
          refine ⟨fun _ _ => trivial, ?_⟩
          go_simp
          refine hK _ _ ?_
          clear hK K
          refine wpAnyIn_ready (rs := [9]) (by kernel_rfl) (by simp) (AllReadyIn.cons rfl (fun K hK => ?_) AllReadyIn.nil)
          rw [guard_is (c := true) rfl rfl rfl, if_pos (by decide)]
          refine ⟨fun _ _ => trivial, ?_⟩
          go_simp
          refine hK _ _ ?_
          clear hK K
          refine wpAnyIn_ready (rs := [10]) (by kernel_rfl) (by simp) (AllReadyIn.cons rfl (fun K hK => ?_) AllReadyIn.nil)
          rw [guard_is (c := true) rfl rfl rfl, if_pos (by decide)]
          refine ⟨fun _ _ => trivial, ?_⟩
          go_simp
          refine HR.out.mono ?_
          rintro e W3 ⟨rfl, hJ3, hk3⟩
          refine hK _ _ ?_
          clear hK K
          refine wpAnyIn_ready (rs := [11]) (by kernel_rfl) (by simp) (AllReadyIn.cons rfl (fun K hK => ?_) AllReadyIn.nil)
          rw [guard_is (c := true) rfl rfl rfl, if_pos (by decide)]
          refine ⟨fun _ _ => trivial, ?_⟩
          go_simp
          refine hK _ _ ?_
          clear hK K
          refine wpAnyIn_ready (rs := [12]) (by kernel_rfl) (by simp) (AllReadyIn.cons rfl (fun K hK => ?_) AllReadyIn.nil)
          rw [if_pos (guard_none rfl)]
          refine ⟨fun _ _ => trivial, ?_⟩
          go_simp
          refine hK _ _ ?_
          clear hK K
          refine wpAnyIn_done (by kernel_rfl) ?_ _
          gi_wp2
          go_roundw
          case rel => exact ⟨k + 1, _, by omega, by go_num, by rw [HSN.out, HNO.out, List.map_append, HP.out, List.append_assoc]; rfl, hJ3, HKX.out.trans hk3⟩
          case measure => simp [intOf]; omega
         ·rw [guard_is (c := true) rfl rfl rfl, if_pos (by decide)]
          refine ⟨fun _ _ => trivial, ?_⟩
          go_simp
          refine hK _ _ ?_
          clear hK K
          refine wpAnyIn_ready (rs := [8]) (by kernel_rfl) (by simp) (AllReadyIn.cons rfl (fun K hK => ?_) AllReadyIn.nil)
          rw [guard_is (c := true) rfl rfl rfl, if_pos (by decide)]
          refine ⟨fun _ _ => trivial, ?_⟩
          go_simp
          refine hK _ _ ?_
          clear hK K
          refine wpAnyIn_ready (rs := [10]) (by kernel_rfl) (by simp) (AllReadyIn.cons rfl (fun K hK => ?_) AllReadyIn.nil)
          rw [guard_is (c := true) rfl rfl rfl, if_pos (by decide)]
          refine ⟨fun _ _ => trivial, ?_⟩
          go_simp
          refine HR.out.mono ?_
          rintro e W3 ⟨rfl, hJ3, hk3⟩
          refine hK _ _ ?_
          clear hK K
          refine wpAnyIn_ready (rs := [11]) (by kernel_rfl) (by simp) (AllReadyIn.cons rfl (fun K hK => ?_) AllReadyIn.nil)
          rw [guard_is (c := true) rfl rfl rfl, if_pos (by decide)]
          refine ⟨fun _ _ => trivial, ?_⟩
          go_simp
          refine hK _ _ ?_
          clear hK K
          refine wpAnyIn_ready (rs := [12]) (by kernel_rfl) (by simp) (AllReadyIn.cons rfl (fun K hK => ?_) AllReadyIn.nil)
          rw [if_pos (guard_none rfl)]
          refine ⟨fun _ _ => trivial, ?_⟩
          go_simp
          refine hK _ _ ?_
          clear hK K
          refine wpAnyIn_done (by kernel_rfl) ?_ _
          gi_wp2
          go_roundw
          case rel => exact ⟨k + 1, _, by omega, by go_num, by rw [HSN.out, HNO.out, List.map_append, HP.out, List.append_assoc]; rfl, hJ3, HKX.out.trans hk3⟩
          case measure => simp [intOf]; omega
     ·have dt : decide ((0 : Int) < x.token) = false := decide_eq_false ht
      have HSI := hid (show (if 0 < x.token ∧ 0 ≤ idxL C.I (fun y => y.token == x.token) then some ((4, [x.token, x.id, now]) : RecP) else some (8, [x.id, x.token, x.version, x.zone, now])) = some (8, [x.id, x.token, x.version, x.zone, now]) by rw [if_neg (fun h => ht h.1)])
      clear ht
      refine wpIn_wide.2 ?_
      refine wp_region_quiet_below (by kernel_rfl) (by kernel_rfl) ?_
      repeat (go_big_quiet_step (fail))
      refine wpQuiet_nil ?_
      intro _ hw'
      obtain ⟨⟨dq, osq⟩, hw''⟩ := hw'
      subst hw''
      have hbq := below_regrown V dq osq
      obtain ⟨U, hU⟩ : ∃ U, U = Sort.grow (redrawn V dq) osq := ⟨_, rfl⟩
      rw [← hU] at hbq ⊢
      have HBU := hid (HBV.out.trans (hbq.mono HBV.out.size))
      have HSU := hid (blk_below HSB.out hbq (blk_lt HSB.out))
      have HRU := hid (blk_below HRB.out hbq (blk_lt HRB.out))
      have HOU := hid (Owns.below HOW.out hbq)
      clear hU hbq
      clear s1 kq dt
      have HVU := hid (HVC.out.below HBU.out)
      have QU := hid (cell_below QQ.out HBU.out)
      have HJU := hid (HJ.out _ _ _ none HJS.out (grown_of_below HBU.out none) (by simp))
      have HKU := hid (HK.out.trans (KpR.below HBU.out))
      obtain ⟨rf, hrf⟩ : ∃ r, idxL C.K (fun y => y.id == x.id) = r := ⟨_, rfl⟩
      obtain ⟨fb, hfb⟩ : ∃ q, decide (rf < 0) = q := ⟨_, rfl⟩
      have HRF := hid hrf
      have HFB := hid hfb
      clear hrf hfb
      gi_wp2_with fail
      refine wpIn_region_growCut 8 5 (spL [fun z _ => z = .pointer (some ⟨T, 0, none⟩), fun z _ => z = .pointer (some ⟨T, 0, none⟩), fun z _ => z = vC, fun z _ => z = .pointer (some ⟨wr.heap.size, 0, none⟩), fun z _ => z = .int .i64 x.id, fun z _ => z = .int .i64 rf, fun z _ => z = .bool fb, fun z _ => z = .bool fb]) (spL_stays ⟨stays_eq _, stays_eq _, stays_eq _, stays_eq _, stays_eq _, stays_eq _, stays_eq _, stays_eq _, trivial⟩) (by kernel_rfl) rfl (by kernel_rfl) (by kernel_rfl) (by kernel_rfl) ?steps ?fin
      case steps =>
       refine ⟨?_, ?_, ?_, ?_, ?_, ?_, ?_, ?_, fun h => absurd h (by decide), fun h => absurd h (by decide), fun h => absurd h (by decide), fun h => absurd h (by decide), fun h => absurd h (by decide), trivial⟩
       ·intro _ a' w' hB hdep hoth K hK
        rw [if_pos (guard_none rfl)]
        have hbw : Below U.heap.size U w' := (below_drewN (Below.refl _ _) 1).trans hB
        have t2 := hoth 2 (notDst_at (by kernel_rfl))
        simp only [List.getElem?_toArray, List.getElem?_cons_succ, List.getElem?_cons_zero] at t2
        have q1 := cell_below QU.out hbw
        have lq := lt_of_cell q1
        dsimp only at lq
        clear hdep hoth
        refine ⟨fun _ _ => trivial, ?_⟩
        go_simp
        exact hK _ _ (Below.refl _ _) rfl
       ·intro _ a' w' hB hdep hoth K hK
        rw [if_pos (guard_none rfl)]
        have hbw : Below U.heap.size U w' := (below_drewN (Below.refl _ _) 1).trans hB
        obtain ⟨vx0, gx0, ex0⟩ := hdep ⟨0, .data⟩ (by simp) rfl
        have gx0 := gx0 95 rfl (by simp)
        obtain rfl : vx0 = .pointer (some ⟨T, 0, none⟩) := ex0
        clear hdep hoth
        refine ⟨fun _ _ => trivial, ?_⟩
        go_simp
        exact hK _ _ (Below.refl _ _) rfl
       ·intro _ a' w' hB hdep hoth K hK
        rw [if_pos (guard_none rfl)]
        have hbw : Below U.heap.size U w' := (below_drewN (Below.refl _ _) 1).trans hB
        obtain ⟨vx0, gx0, ex0⟩ := hdep ⟨1, .data⟩ (by simp) rfl
        have gx0 := gx0 96 rfl (by simp)
        obtain rfl : vx0 = .pointer (some ⟨T, 0, none⟩) := ex0
        have hld := (HVU.out.below hbw).load
        clear hdep hoth
        refine ⟨fun _ _ => trivial, ?_⟩
        go_simp
        exact hK _ _ (Below.refl _ _) rfl
       ·intro _ a' w' hB hdep hoth K hK
        rw [if_pos (guard_none rfl)]
        have hbw : Below U.heap.size U w' := (below_drewN (Below.refl _ _) 1).trans hB
        have t13 := hoth 13 (notDst_at (by kernel_rfl))
        simp only [List.getElem?_toArray, List.getElem?_cons_succ, List.getElem?_cons_zero] at t13
        clear hdep hoth
        refine ⟨fun _ _ => trivial, ?_⟩
        go_simp
        exact hK _ _ (Below.refl _ _) rfl
       ·intro _ a' w' hB hdep hoth K hK
        rw [if_pos (guard_none rfl)]
        have hbw : Below U.heap.size U w' := (below_drewN (Below.refl _ _) 1).trans hB
        obtain ⟨vx0, gx0, ex0⟩ := hdep ⟨3, .data⟩ (by simp) rfl
        have gx0 := gx0 98 rfl (by simp)
        obtain rfl : vx0 = .pointer (some ⟨wr.heap.size, 0, none⟩) := ex0
        have q1 : w'.cell? ⟨wr.heap.size, 0, none⟩ = some (.int .i64 x.id) := blk_cell (blk_below HSU.out hbw (blk_lt HSU.out)) 0
        have lq := blk_lt (blk_below HSU.out hbw (blk_lt HSU.out))
        clear hdep hoth
        refine ⟨fun _ _ => trivial, ?_⟩
        go_simp
        exact hK _ _ (Below.refl _ _) rfl
       ·intro _ a' w' hB hdep hoth K hK
        rw [if_pos (guard_none rfl)]
        have hbw : Below U.heap.size U w' := (below_drewN (Below.refl _ _) 1).trans hB
        obtain ⟨vx0, gx0, ex0⟩ := hdep ⟨2, .data⟩ (by simp) rfl
        have gx0 := gx0 97 rfl (by simp)
        obtain rfl : vx0 = vC := ex0
        obtain ⟨vx1, gx1, ex1⟩ := hdep ⟨4, .data⟩ (by simp) rfl
        have gx1 := gx1 99 rfl (by simp)
        obtain rfl : vx1 = .int .i64 x.id := ex1
        have HA := hid (find_is x.id rf HRF.out (HVU.out.below hbw).is HCL.out.1)
        clear hdep hoth
        refine ⟨fun _ _ => trivial, ?_⟩
        go_simp
        refine (callsIn_wide.2 HA.out).mono ?_
        rintro e w'' ⟨rfl, hb⟩
        exact hK _ _ hb rfl
       ·intro _ a' w' hB hdep hoth K hK
        rw [if_pos (guard_none rfl)]
        have hbw : Below U.heap.size U w' := (below_drewN (Below.refl _ _) 1).trans hB
        obtain ⟨vx0, gx0, ex0⟩ := hdep ⟨5, .data⟩ (by simp) rfl
        have gx0 := gx0 100 rfl (by simp)
        obtain rfl : vx0 = .int .i64 rf := ex0
        have hfb := HFB.out
        clear hdep hoth
        refine ⟨fun _ _ => trivial, ?_⟩
        go_simp
        exact hK _ _ (Below.refl _ _) rfl
       ·intro _ a' w' hB hdep hoth K hK
        rw [if_pos (guard_none rfl)]
        have hbw : Below U.heap.size U w' := (below_drewN (Below.refl _ _) 1).trans hB
        obtain ⟨vx0, gx0, ex0⟩ := hdep ⟨6, .data⟩ (by simp) rfl
        have gx0 := gx0 101 rfl (by simp)
        obtain rfl : vx0 = .bool fb := ex0
        clear hdep hoth
        refine ⟨fun _ _ => trivial, ?_⟩
        go_simp
        exact hK _ _ (Below.refl _ _) rfl
      case fin =>
       intro vs X hB hs f hf
       obtain ⟨f, rfl⟩ : ∃ g, f = g + 5 := ⟨f - 5, by omega⟩
       have hbw : Below U.heap.size U X := (below_drewN (Below.refl _ _) 1).trans hB
       have e7 : vs 7 = .bool fb := hs 7 (by decide)
       clear hs hB hf
       simp only [actOf, dstAt, if_true, List.getElem?_toArray, List.getElem?_cons_succ, List.getElem?_cons_zero, Option.bind_some, Act.put, List.setIfInBounds_toArray, List.set_cons_zero, List.set_cons_succ]
       rw [e7]
       clear e7
       have HBX := hid (HBU.out.trans (hbw.mono HBU.out.size))
       have HKX := hid (HKU.out.trans (KpR.below hbw))
       cases fb with
       | false =>
        have HNO := hid (show seenI C now x = none by unfold seenI; rw [HRF.out, if_pos (by have := HFB.out; simp at this; omega)])
        refine wpAnyIn_ready (rs := [8, 9]) (by kernel_rfl) (by simp) (AllReadyIn.cons rfl (fun K hK => ?_) (AllReadyIn.cons rfl (fun K hK => ?_) AllReadyIn.nil))
        ·rw [guard_is (c := false) rfl rfl rfl, if_neg (by decide)]
         refine ⟨fun _ _ => trivial, hK _ _ ?_⟩
         clear hK K
         refine wpAnyIn_ready (rs := [9]) (by kernel_rfl) (by simp) (AllReadyIn.cons rfl (fun K hK => ?_) AllReadyIn.nil)
         rw [guard_is (c := false) rfl rfl rfl, if_neg (by decide)]
         refine ⟨fun _ _ => trivial, hK _ _ ?_⟩
         clear hK K
         refine wpAnyIn_ready (rs := [10]) (by kernel_rfl) (by simp) (AllReadyIn.cons rfl (fun K hK => ?_) AllReadyIn.nil)
         rw [guard_is (c := false) rfl rfl rfl, if_neg (by decide)]
         refine ⟨fun _ _ => trivial, hK _ _ ?_⟩
         clear hK K
         refine wpAnyIn_ready (rs := [11]) (by kernel_rfl) (by simp) (AllReadyIn.cons rfl (fun K hK => ?_) AllReadyIn.nil)
         rw [guard_is (c := false) rfl rfl rfl, if_neg (by decide)]
         refine ⟨fun _ _ => trivial, hK _ _ ?_⟩
         clear hK K
         refine wpAnyIn_ready (rs := [12]) (by kernel_rfl) (by simp) (AllReadyIn.cons rfl (fun K hK => ?_) AllReadyIn.nil)
         rw [if_pos (guard_none rfl)]
         refine ⟨fun _ _ => trivial, ?_⟩
         go_simp
         refine hK _ _ ?_
         clear hK K
         refine wpAnyIn_done (by kernel_rfl) ?_ _
         gi_wp2
         go_roundw
         case rel => exact ⟨k + 1, pre, by omega, by go_num, by rw [HSN.out, HNO.out, HP.out]; simp, HJ.out _ _ _ none HJS.out (grown_of_below HBX.out none) (by simp), HKX.out⟩
         case measure => simp [intOf]; omega
        ·rw [guard_is (c := false) rfl rfl rfl, if_neg (by decide)]
         refine ⟨fun _ _ => trivial, hK _ _ ?_⟩
         clear hK K
         refine wpAnyIn_ready (rs := [8]) (by kernel_rfl) (by simp) (AllReadyIn.cons rfl (fun K hK => ?_) AllReadyIn.nil)
         rw [guard_is (c := false) rfl rfl rfl, if_neg (by decide)]
         refine ⟨fun _ _ => trivial, hK _ _ ?_⟩
         clear hK K
         refine wpAnyIn_ready (rs := [10]) (by kernel_rfl) (by simp) (AllReadyIn.cons rfl (fun K hK => ?_) AllReadyIn.nil)
         rw [guard_is (c := false) rfl rfl rfl, if_neg (by decide)]
         refine ⟨fun _ _ => trivial, hK _ _ ?_⟩
         clear hK K
         refine wpAnyIn_ready (rs := [11]) (by kernel_rfl) (by simp) (AllReadyIn.cons rfl (fun K hK => ?_) AllReadyIn.nil)
         rw [guard_is (c := false) rfl rfl rfl, if_neg (by decide)]
         refine ⟨fun _ _ => trivial, hK _ _ ?_⟩
         clear hK K
         refine wpAnyIn_ready (rs := [12]) (by kernel_rfl) (by simp) (AllReadyIn.cons rfl (fun K hK => ?_) AllReadyIn.nil)
         rw [if_pos (guard_none rfl)]
         refine ⟨fun _ _ => trivial, ?_⟩
         go_simp
         refine hK _ _ ?_
         clear hK K
         refine wpAnyIn_done (by kernel_rfl) ?_ _
         gi_wp2
         go_roundw
         case rel => exact ⟨k + 1, pre, by omega, by go_num, by rw [HSN.out, HNO.out, HP.out]; simp, HJ.out _ _ _ none HJS.out (grown_of_below HBX.out none) (by simp), HKX.out⟩
         case measure => simp [intOf]; omega
       | true =>
        have HNO := hid (show seenI C now x = some (8, [x.id, x.token, x.version, x.zone, now]) by unfold seenI; rw [HRF.out, if_neg (by have := HFB.out; simp at this; omega)]; exact HSI.out)
        have HJX := hid (HJ.out _ _ _ none HJS.out (grown_of_below HBX.out none) (by simp))
        have HRX := blk_below HRU.out hbw (blk_lt HRU.out)
        have z0 : X.cell? ⟨T14, 0, none⟩ = some (.int .u8 8) := blk_cell HRX 0
        have z1 : X.cell? ⟨T14, 1, none⟩ = some (.slice (some ⟨wr.heap.size + 1, 0, none⟩) 5 5) := blk_cell HRX 1
        have zl := blk_lt HRX
        obtain ⟨fn, tmps, assign, body, hy, hR⟩ := HY.out pre ⟨8, .slice (some ⟨wr.heap.size + 1, 0, none⟩) 5 5, [x.id, x.token, x.version, x.zone, now]⟩ X HJX.out ⟨Owns.below HOU.out hbw, (seenI_kind HNO.out).1⟩ (by have := HP5.out; omega)
        dsimp only [itemR21, recV] at hy
        have HR := hid hR
        clear hR HRX hbw
        refine wpAnyIn_ready (rs := [8, 9]) (by kernel_rfl) (by simp) (AllReadyIn.cons rfl (fun K hK => ?_) (AllReadyIn.cons rfl (fun K hK => ?_) AllReadyIn.nil))
        ·rw [guard_is (c := true) rfl rfl rfl, if_pos (by decide)]
         refine ⟨fun _ _ => trivial, ?_⟩
         go_simp
         refine hK _ _ ?_
         clear hK K
         refine wpAnyIn_ready (rs := [9]) (by kernel_rfl) (by simp) (AllReadyIn.cons rfl (fun K hK => ?_) AllReadyIn.nil)
         rw [guard_is (c := true) rfl rfl rfl, if_pos (by decide)]
         refine ⟨fun _ _ => trivial, ?_⟩
         go_simp
         refine hK _ _ ?_
         clear hK K
         refine wpAnyIn_ready (rs := [10]) (by kernel_rfl) (by simp) (AllReadyIn.cons rfl (fun K hK => ?_) AllReadyIn.nil)
         rw [guard_is (c := true) rfl rfl rfl, if_pos (by decide)]
         refine ⟨fun _ _ => trivial, ?_⟩
         go_simp
         refine HR.out.mono ?_
         rintro e W3 ⟨rfl, hJ3, hk3⟩
         refine hK _ _ ?_
         clear hK K
         refine wpAnyIn_ready (rs := [11]) (by kernel_rfl) (by simp) (AllReadyIn.cons rfl (fun K hK => ?_) AllReadyIn.nil)
         rw [guard_is (c := true) rfl rfl rfl, if_pos (by decide)]
         refine ⟨fun _ _ => trivial, ?_⟩
         go_simp
         refine hK _ _ ?_
         clear hK K
         refine wpAnyIn_ready (rs := [12]) (by kernel_rfl) (by simp) (AllReadyIn.cons rfl (fun K hK => ?_) AllReadyIn.nil)
         rw [if_pos (guard_none rfl)]
         refine ⟨fun _ _ => trivial, ?_⟩
         go_simp
         refine hK _ _ ?_
         clear hK K
         refine wpAnyIn_done (by kernel_rfl) ?_ _
         gi_wp2
         go_roundw
         case rel => exact ⟨k + 1, _, by omega, by go_num, by rw [HSN.out, HNO.out, List.map_append, HP.out, List.append_assoc]; rfl, hJ3, HKX.out.trans hk3⟩
         case measure => simp [intOf]; omega
        ·rw [guard_is (c := true) rfl rfl rfl, if_pos (by decide)]
         refine ⟨fun _ _ => trivial, ?_⟩
         go_simp
         refine hK _ _ ?_
         clear hK K
         refine wpAnyIn_ready (rs := [8]) (by kernel_rfl) (by simp) (AllReadyIn.cons rfl (fun K hK => ?_) AllReadyIn.nil)
         rw [guard_is (c := true) rfl rfl rfl, if_pos (by decide)]
         refine ⟨fun _ _ => trivial, ?_⟩
         go_simp
         refine hK _ _ ?_
         clear hK K
         refine wpAnyIn_ready (rs := [10]) (by kernel_rfl) (by simp) (AllReadyIn.cons rfl (fun K hK => ?_) AllReadyIn.nil)
         rw [guard_is (c := true) rfl rfl rfl, if_pos (by decide)]
         refine ⟨fun _ _ => trivial, ?_⟩
         go_simp
         refine HR.out.mono ?_
         rintro e W3 ⟨rfl, hJ3, hk3⟩
         refine hK _ _ ?_
         clear hK K
         refine wpAnyIn_ready (rs := [11]) (by kernel_rfl) (by simp) (AllReadyIn.cons rfl (fun K hK => ?_) AllReadyIn.nil)
         rw [guard_is (c := true) rfl rfl rfl, if_pos (by decide)]
         refine ⟨fun _ _ => trivial, ?_⟩
         go_simp
         refine hK _ _ ?_
         clear hK K
         refine wpAnyIn_ready (rs := [12]) (by kernel_rfl) (by simp) (AllReadyIn.cons rfl (fun K hK => ?_) AllReadyIn.nil)
         rw [if_pos (guard_none rfl)]
         refine ⟨fun _ _ => trivial, ?_⟩
         go_simp
         refine hK _ _ ?_
         clear hK K
         refine wpAnyIn_done (by kernel_rfl) ?_ _
         gi_wp2
         go_roundw
         case rel => exact ⟨k + 1, _, by omega, by go_num, by rw [HSN.out, HNO.out, List.map_append, HP.out, List.append_assoc]; rfl, hJ3, HKX.out.trans hk3⟩
         case measure => simp [intOf]; omega
    ·obtain rfl : k = L.length := by omega
     have HPE := hid (show pre.map klR = itemsL B L frm now by rw [hp, List.take_length]; unfold itemsL; rw [HC0.out])
     clear hp hJs hK
     gi_wp2
     go_wp2
     go_end0
     exact ⟨⟨_, rfl⟩, pre, HPE.out, HJS.out⟩
end Go.Proofs.YtgcajfglidflnaaDoor
