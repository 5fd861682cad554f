import Derived.Test.YtgcajfglidflnaaGreatDoorKpr
import Derived.Test.YtgcajfglidflnaaGreatDoorRgz
import Derived.Test.YtgcajfglidflnaaGreatDoorGci
import Derived.Test.YtgcajfglidflnaaGreatDoorRpq
import Derived.Test.YtgcajfglidflnaaGreatDoorFti
import Derived.Lib.QuietBelow
import Derived.BigQuiet
/- reap.records goes over what is said, by the brain as it is then. Printed by gn_rcd.py. -/
namespace Go.Proofs.YtgcajfglidflnaaGreatDoor
open Go.RowKit Go.Shelf
attribute [-go_sem] loadVar storeVar Instr.buildSlice
attribute [local go_sem] load_other store_other

/-- What the rounds may turn: their loop's book, brains, records, slices of records. -/
def freeO (o : Obj) : Prop := (∃ r, o = .loop r) ∨ ∃ c t, o = .cells c t ∧ (t = 33 ∨ t = 70 ∨ t = 44)
def KpR (b : Nat) (W W' : World) : Prop := W.heap.size ≤ W'.heap.size ∧ ∀ (k : Nat) (o : Obj), W.heap[k]? = some o → (k < b ∨ ¬ freeO o) → W'.heap[k]? = some o
section
variable {b : Nat} {W W' : World}
theorem KpR.refl (b : Nat) (W : World) : KpR b W W := ⟨Nat.le_refl _, fun _ _ h _ => h⟩
theorem KpR.trans {W2 : World} (h : KpR b W W') (k : KpR b W' W2) : KpR b W W2 := ⟨Nat.le_trans h.1 k.1, fun i o hi ho => k.2 i o (h.2 i o hi ho) ho⟩
theorem KpR.below (h : Below W.heap.size W W') : KpR b W W' := ⟨h.size, fun _ _ hb _ => blk_below hb h (blk_lt hb)⟩
theorem KpR.put {l : Nat} {r : Loop} (r' : Loop) (hl : b ≤ l) (h : W.heap[l]? = some (.loop r)) : KpR b W (W.putObj l (.loop r')) := by
 refine ⟨by simp [World.putObj], fun k o hk ho => ?_⟩
 have hne : ¬ l = k := by
  rintro rfl
  rw [h] at hk
  cases hk
  rcases ho with ho | ho
  ·omega
  ·exact ho (.inl ⟨_, rfl⟩)
 simp only [World.putObj, Array.getElem?_setIfInBounds]; rw [if_neg hne]; exact hk
theorem not_free {c : Array Value} {t : TypeId} (h : t ≠ 33 ∧ t ≠ 70 ∧ t ≠ 44) : ¬ freeO (.cells c t) := by
 rintro (⟨r, h'⟩ | ⟨c', t', h', h''⟩)
 ·cases h'
 ·cases h'
  rcases h'' with h'' | h'' | h''
  ·exact h.1 h''
  ·exact h.2.1 h''
  ·exact h.2.2 h''
theorem not_free_map {es : Array MapEntry} {c : Nat} : ¬ freeO (.map es c) := by
 rintro (⟨r, h'⟩ | ⟨c', t', h', h''⟩) <;> cases h'
theorem KpR.cells {k : Nat} {c : Array Value} {t : TypeId} (hk : KpR b W W') (h : W.heap[k]? = some (.cells c t)) (ht : t ≠ 33 ∧ t ≠ 70 ∧ t ≠ 44) : W'.heap[k]? = some (.cells c t) := hk.2 k _ h (.inr (not_free ht))
theorem KpR.smap {m : Nat} {F : Int → Option Value} (hk : KpR b W W') (h : SMap W m F) : SMap W' m F := by
 refine h.to fun o ho => ?_
 obtain ⟨es, cl, ds, hq, _⟩ := h
 rw [hq] at ho
 cases ho
 exact hk.2 m _ hq (.inr not_free_map)
theorem KpR.kept (hk : KpR b W W') : KeptT 51 W W' := fun k c h => hk.cells h (by decide)
/-- A row that lies below. -/
structure RowB (b : Nat) (w : World) (v : Value) (l : List SeenV) : Prop where
 row : RowS w v l
 low : ∀ b' off n c, v = .slice (some ⟨b', off, none⟩) n c → 0 < n → b' < b
theorem RowB.kpr {v : Value} {l : List SeenV} (h : RowB b W v l) (hk : KpR b W W') : RowB b W' v l := by
 refine ⟨?_, h.low⟩
 rcases h.row with h0 | ⟨h0, b1, off, c, rfl, h1, h2, hbl, hr⟩
 ·exact .inl h0
 ·refine .inr ⟨h0, b1, off, c, rfl, h1, h2, Nat.lt_of_lt_of_le hbl hk.1, fun i x hi j u hj => ?_⟩
  have hlow := h.low b1 off _ c rfl h0
  have hc := hr i x hi j u hj
  obtain ⟨o, ho⟩ : ∃ o, W.heap[b1]? = some o := ⟨W.heap[b1], Array.getElem?_eq_getElem hbl⟩
  have := hk.2 b1 o ho (.inl hlow)
  exact (World.cell?_of_block (w := W) (this.trans ho.symm)).trans hc
end
def klR (x : RecE) : RecP := (x.k, x.L)
theorem applyAll_L (B : BrainV) : ∀ R : List RecE, applyAll B R = applyL B (R.map klR) := by
 intro R
 unfold applyAll applyL
 rw [List.foldl_map]
 rfl
theorem Fine.allL {B : BrainV} : ∀ {n : Nat} (_ : Fine B n) (R : List RecP), Fine (applyL B R) (n + R.length)
 | n, h, [] => h
 | n, h, r :: R => by
  have := Fine.allL (h.apply r.1 r.2) R
  rw [show n + 1 + R.length = n + (r :: R).length by simp; omega] at this
  exact this
def itemR21 (x : RecE) : Array Value := #[recV x.k x.s]
def GR (b : Nat) (x : RecE) (W : World) : Prop := OwnI W b x.s x.L ∧ kindR (klR x)
def ZR (T : Nat) (B : BrainV) (pre : List RecE) (W : World) : Prop := ∃ v, VarIs W T (applyAll B pre) v
theorem records_make (T : Nat) (on : Bool) (frm beh now : Int) (sa : Option Addr) (sn sc : Nat) (w : World) :
  Calls Tryz.prog 25 #[.pointer (some ⟨T, 0, none⟩), .agg #[.bool on, .int .i64 frm, .int .i64 beh, .slice sa sn sc], .int .i64 now] w fun e w' =>
   e = .returned (.func (.func 38) #[] #[.pointer (some ⟨w.heap.size + 1, 0, none⟩), .pointer (some ⟨w.heap.size, 0, none⟩), .pointer (some ⟨w.heap.size + 1 + 1, 0, none⟩)]) ∧
   w'.heap[w.heap.size]? = some (.cells #[.pointer (some ⟨T, 0, none⟩)] 78) ∧ w'.heap[w.heap.size + 1]? = some (.cells #[.bool on, .int .i64 frm, .int .i64 beh, .slice sa sn sc] 39) ∧ w'.heap[w.heap.size + 1 + 1]? = some (.cells #[.int .i64 now] 3) ∧ Below w.heap.size w w' := by
 have hmf := mkfunc
 go_enter Tryz.func25, Tryz.ntmps25
 go_wp2
 go_ret
 refine ⟨rfl, ?_, ?_, ?_, ?_⟩
 ·exact blk_alloc (blk_alloc (heap_new _ _) _) _
 ·exact blk_alloc (heap_new2 _ _ _) _
 ·simpa using heap_new2 (w.alloc _) _ _
 ·exact (((Below.refl _ _).alloc (Nat.le_refl _) _).alloc (by simp) _).alloc (by simp; omega) _
set_option maxRecDepth 100000 in
set_option maxHeartbeats 8000000 in
theorem records_all (n : Nat) (hn : 1 ≤ n) (b T Bp : Nat) (B : BrainV) (on : Bool) (frm beh now : Int) (sv : Value) (L : List SeenV) (w : World) (_hbw : b ≤ w.heap.size)
  (hP : w.heap[Bp]? = some (.cells #[.pointer (some ⟨T, 0, none⟩)] 78)) (hS : w.heap[Bp + 1]? = some (.cells #[.bool on, .int .i64 frm, .int .i64 beh, sv] 39)) (hN : w.heap[Bp + 1 + 1]? = some (.cells #[.int .i64 now] 3))
  (hrow : RowB b w sv L) (hl1 : B.K.length ≤ 800) (hl2 : B.I.length ≤ 800) (hph : ∀ x ∈ B.K, in8 x.phase) (hlL : L.length ≤ 60) (hKl : B.K.length ≤ 100) :
  SeqAllZ Fence.wide n Tryz.prog 38 #[.pointer (some ⟨Bp + 1, 0, none⟩), .pointer (some ⟨Bp, 0, none⟩), .pointer (some ⟨Bp + 1 + 1, 0, none⟩)] itemR21 (KpR b) (GR w.heap.size) (ZR T B) (fun xs => xs.map klR = itemsL B L frm now) (B.K.length + L.length) w := by
 intro l J W hW hJ hZ hY h0
 have h1 := blk_below hP hW (blk_lt hP)
 have h2 := blk_below hS hW (blk_lt hS)
 have h3 := blk_below hN hW (blk_lt hN)
 obtain ⟨v0, hv0⟩ := hZ [] W h0
 replace hv0 : VarIs W T B v0 := hv0
 obtain ⟨ma, mc, ia, ic, ka, kc, rfl, hbb, hrm, hri, hrk⟩ := hv0.open
 have hrow1 := hrow.kpr (KpR.below hW)
 obtain ⟨sa, sc, rfl, p1, p2, p3, _⟩ := hrow1.row.open
 have HP := hid h1
 have HS := hid h2
 have HN := hid h3
 have HROW := hid hrow1
 have HY := hid hY
 have HJ := hid hJ
 have HZ := hid hZ
 have H0 := hid h0
 have HRK := hid hrk
 have HSZ := hid hW.size
 have q3 : W.cell? ⟨Bp + 1, 3, none⟩ = some (.slice sa L.length sc) := blk_cell h2 3
 have ql := blk_lt h2
 clear hbb hrm hri hrow hrow1 hY hJ hZ h0 hW hP hS hN h1 h2 h3 hrk
 refine callsIn_of_wp Tryz.func38 rfl trivial ?_ rfl
 simp only [Tryz.ntmps38, List.size_toArray, List.length_cons, List.length_nil, Nat.reduceAdd, Nat.reduceSub, Array.replicate_succ, Array.replicate_zero, List.push_toArray, List.append_toArray, List.nil_append, List.cons_append]
 refine wpIn_wide.2 ?_
 have HV0 := hid hv0
 clear hv0
 go_wp2_with fail
 refine (firsts_any _ L W HROW.out.row).mono ?_
 rintro e V1 ⟨m, rfl, hm, hsm, hb1⟩
 have HV1 := hid (HV0.out.below hb1)
 have HM1 := hid hsm
 have HB1 := hid hb1
 have P1 := hid (blk_below HP.out hb1 (blk_lt HP.out))
 have k0 : V1.cell? ⟨Bp, 0, none⟩ = some (.pointer (some ⟨T, 0, none⟩)) := blk_cell P1.out 0
 have kl := blk_lt P1.out
 have x19 : V1.cell? ⟨T, 19, none⟩ = some (.slice ka B.K.length kc) := by
  obtain ⟨_, _, _, e, h0, _⟩ := HV1.out
  cases e
  exact blk_cell h0 19
 have xl := HV1.out.lt
 clear hsm hb1 q3 ql
 go_wp2_with fail
 refine (cloneK_any _ B.K V1 (by omega) (HRK.out.below HB1.out)).mono ?_
 rintro e V2 ⟨kv, rfl, hown, hb2⟩
 have hb := HB1.out.trans (hb2.mono HB1.out.size)
 have P2 := hid (blk_below HP.out hb (blk_lt HP.out))
 have S2 := hid (blk_below HS.out hb (blk_lt HS.out))
 have N2 := hid (blk_below HN.out hb (blk_lt HN.out))
 have R2 := hid (HROW.out.kpr (KpR.below hb))
 have M2 := hid (HM1.out.below hb2)
 have J2 := hid (HJ.out _ _ _ none H0.out (grown_of_below hb none) (by simp))
 have Z2 := hid (Nat.le_trans HSZ.out hb.size)
 obtain ⟨ca, cn, cc, rfl⟩ := hown.shape
 obtain ⟨_, _, he, p4, p5, p6, _⟩ := (Owns.row hown encKp_len (by decide)).open
 cases he
 have K2 := hid (show TRow 51 8 encKp V2 (.slice ca B.K.length cc) B.K from Owns.trow hown encKp_len (by decide))
 clear hown hb2 hb HP HS HN HROW HM1 HRK H0 HV0 HV1 P1 k0 kl x19 xl HB1
 go_wp2_with fail
 refine (wpIn_wide (n := n)).1 ?_
 have hsk : ∀ f, Fence.wide.fn f := fun _ => trivial
 gi_loopw [24] (fun i wr => ∃ (k : Nat) (pre : List RecE), k ≤ B.K.length ∧ i = .int .i64 k ∧ pre.map klR = (B.K.take k).filterMap (keptI L frm now) ∧ J pre wr ∧ KpR b V2 wr) (fun i _ => B.K.length - (intOf i).toNat)
 case atStart => exact ⟨0, [], Nat.zero_le _, rfl, rfl, J2.out, KpR.refl _ _⟩
 case round =>
  obtain ⟨k, pre, hk, rfl, hp, hJs, hK⟩ := hrel
  have HP := hid hp
  have HJS := hid hJs
  have HK := hid hK
  by_cases hlt : k < B.K.length
  ·obtain ⟨_, _, he, _, _, _, hop⟩ := (K2.out.kept hK.kept).row.open
   cases he
   obtain ⟨b1, o1, hca, hb1, hr1⟩ := hop (by omega)
   obtain ⟨x, hx⟩ := get_lt hlt
   obtain ⟨g0, g1, g2, g3, g4, g5, g6, g7⟩ := rowK hr1 hx
   have hkL : (k : Int) < (B.K.length : Int) := by omega
   have HX := hid hx
   have hm1 := (hK.smap M2.out).below ((Below.refl wr.heap.size wr).alloc (Nat.le_refl _) (.cells #[.int .i64 x.id, .int .i64 x.token, .int .i64 x.version, .int .i64 x.zone, .int .u8 x.phase, .int .i64 x.since, .bool x.guarded, .bool x.complete] 51))
   have hlk := lookS_run x.id _ m (firstF L) hm1
   obtain ⟨y, ok, hf1, hf2, hf3⟩ : ∃ (y : SeenV) (ok : Bool), (firstF L x.id).getD zeroSn = encSv y ∧ (firstF L x.id).isSome = ok ∧ firstS L x.id = if ok = true then some y else none := by
    unfold firstF firstS
    cases L.find? (fun z => z.id == x.id) with
    | none => exact ⟨⟨0, 0, 0, 0, false, false, false⟩, false, rfl, rfl, rfl⟩
    | some y => exact ⟨y, true, rfl, rfl, rfl⟩
   rw [hf1, hf2] at hlk
   unfold encSv at hlk
   have HF := hid hf3
   have c3 := blk_cell (hK.cells N2.out (by decide)) 0
   have c3l := blk_lt (hK.cells N2.out (by decide))
   simp only [List.getElem?_toArray, List.getElem?_cons_zero] at c3
   have d1 := blk_cell (hK.cells S2.out (by decide)) 1
   have d1l := blk_lt (hK.cells S2.out (by decide))
   simp only [List.getElem?_toArray, List.getElem?_cons_succ, List.getElem?_cons_zero] at d1
   have D1 := hid d1
   clear hr1 hx hm1 hf1 hf2 hf3 hp hJs hK d1 hop
   subst hca
   gi_wp2_with fail
   refine (callsIn_wide.2 (kept_any x y ok now _)).mono ?_
   have HYB := hid (show Below wr.heap.size wr ((wr.alloc (.cells #[.int .i64 x.id, .int .i64 x.token, .int .i64 x.version, .int .i64 x.zone, .int .u8 x.phase, .int .i64 x.since, .bool x.guarded, .bool x.complete] 51)).alloc (.cells #[.int .i64 y.id, .int .i64 y.token, .int .i64 y.version, .int .i64 y.zone, .bool y.on, .bool y.well, .bool y.inn] 49)) from ((Below.refl _ _).alloc (Nat.le_refl _) _).alloc (by simp) _)
   have HYK := hid (blk_alloc (heap_new wr (.cells #[.int .i64 x.id, .int .i64 x.token, .int .i64 x.version, .int .i64 x.zone, .int .u8 x.phase, .int .i64 x.since, .bool x.guarded, .bool x.complete] 51)) (.cells #[.int .i64 y.id, .int .i64 y.token, .int .i64 y.version, .int .i64 y.zone, .bool y.on, .bool y.well, .bool y.inn] 49))
   generalize ((wr.alloc (.cells #[.int .i64 x.id, .int .i64 x.token, .int .i64 x.version, .int .i64 x.zone, .int .u8 x.phase, .int .i64 x.since, .bool x.guarded, .bool x.complete] 51)).alloc (.cells #[.int .i64 y.id, .int .i64 y.token, .int .i64 y.version, .int .i64 y.zone, .bool y.on, .bool y.well, .bool y.inn] 49)) = Y at HYB HYK ⊢
   have HSN := hid (show (B.K.take (k + 1)).filterMap (keptI L frm now) = (B.K.take k).filterMap (keptI L frm now) ++ (keptI L frm now x).toList by rw [take_snoc B.K k x HX.out, List.filterMap_append]; cases hq : keptI L frm now x <;> simp [hq])
   clear hlk g0 g1 g2 g3 g4 g5 g6 g7 c3 c3l
   rintro e V (⟨hr, rfl, hb⟩ | ⟨kk, ll, v, hr, rfl, ho, hb⟩)
   ·have hbv := HYB.out.trans (hb.mono HYB.out.size)
    have HBF := hid (show Below wr.heap.size wr (V.alloc (.cells #[.int .u8 0, .slice none 0 0] 70)) from hbv.alloc hbv.size _)
    have HKI := hid (show keptI L frm now x = none by unfold keptI; rw [HF.out, hr]; simp)
    clear hr hb hbv
    gi_wp2
    go_roundw
    case rel => exact ⟨k + 1, pre, by omega, by go_num, by rw [HSN.out, HKI.out, HP.out]; simp, HJ.out _ _ _ none HJS.out (grown_of_below HBF.out none) (by simp), HK.out.trans (KpR.below HBF.out)⟩
    case measure => simp [intOf]; omega
   ·obtain ⟨va, vn, vc, rfl⟩ := ho.shape
    have hbv := HYB.out.trans (hb.mono HYB.out.size)
    have hal : Below V.heap.size V (V.alloc (.cells #[.int .u8 kk, .slice va vn vc] 70)) := (Below.refl _ _).alloc (Nat.le_refl _) _
    have HBF := hid (hbv.trans (hal.mono hbv.size))
    have e5 : V.cell? ⟨wr.heap.size, 5, none⟩ = some (.int .i64 x.since) := blk_cell (blk_below HYK.out hb (blk_lt HYK.out)) 5
    have e5l := blk_lt (blk_below HYK.out hb (blk_lt HYK.out))
    have e1 : V.cell? ⟨Bp + 1, 1, none⟩ = some (.int .i64 frm) := cell_below D1.out hbv
    have e1l : Bp + 1 < V.heap.size := lt_of_cell e1
    have HJF := hid (HJ.out _ _ _ none HJS.out (grown_of_below HBF.out none) (by simp))
    have HO := hid (show OwnI (V.alloc (.cells #[.int .u8 kk, .slice va vn vc] 70)) w.heap.size (.slice va vn vc) ll from Owns.mono (Owns.below ho hal) (Nat.le_trans Z2.out (Nat.le_trans HK.out.1 HYB.out.size)))
    have HR0 := hid hr
    clear hr hb hbv hal ho d1l
    by_cases hs : x.since < frm
    ·have HKI := hid (show keptI L frm now x = some (kk, ll) by unfold keptI; rw [if_pos hs, HF.out, HR0.out])
     have hlen : pre.length < B.K.length + L.length := by
      have h1 := congrArg List.length HP.out
      have h2 := List.length_filterMap_le (keptI L frm now) (B.K.take k)
      rw [List.length_map] at h1
      rw [List.length_take] at h2
      omega
     obtain ⟨fn, tmps, assign, body, hy, hR⟩ := HY.out pre ⟨kk, .slice va vn vc, ll⟩ _ HJF.out ⟨HO.out, (keptI_kind HKI.out).1⟩ hlen
     dsimp only [itemR21, recV] at hy
     have HR := hid hR
     clear hR hlen
     gi_wp2
     refine HR.out.mono ?_
     rintro e W3 ⟨rfl, hJ3, hk3⟩
     gi_wp2
     go_roundw
     case rel => exact ⟨k + 1, _, by omega, by go_num, by rw [HSN.out, HKI.out, List.map_append, HP.out]; rfl, hJ3, (HK.out.trans (KpR.below HBF.out)).trans hk3⟩
     case measure => simp [intOf]; omega
    ·have HKI := hid (show keptI L frm now x = none by unfold keptI; rw [if_neg hs])
     gi_wp2
     go_roundw
     case rel => exact ⟨k + 1, pre, by omega, by go_num, by rw [HSN.out, HKI.out, HP.out]; simp, HJF.out, HK.out.trans (KpR.below HBF.out)⟩
     case measure => simp [intOf]; omega
  ·obtain rfl : k = B.K.length := by omega
   have HP1 := hid (show pre.map klR = keptL21 B L frm now by have := HP.out; rwa [List.take_length] at this)
   obtain ⟨C0, hC0⟩ : ∃ C0, applyL B (keptL21 B L frm now) = C0 := ⟨_, rfl⟩
   have HC0 := hid hC0
   have hs3 := blk_cell (hK.cells S2.out (by decide)) 3
   have hs3l := blk_lt (hK.cells S2.out (by decide))
   simp only [List.getElem?_toArray, List.getElem?_cons_succ, List.getElem?_cons_zero] at hs3
   clear hp hJs hK hC0 HP
   gi_wp2_with fail
   go_wp2_with fail
   clear hs3 hs3l
   refine (wpIn_wide (n := n)).1 ?_
   gi_loopw [61] (fun i wq => ∃ (k : Nat) (pre : List RecE), k ≤ L.length ∧ i = .int .i64 k ∧ pre.map klR = keptL21 B L frm now ++ seenL now C0 (L.take k) ∧ J pre wq ∧ KpR b V2 wq) (fun i _ => L.length - (intOf i).toNat)
   case atStart => exact ⟨0, pre, Nat.zero_le _, rfl, by rw [HP1.out, List.take_zero, seenL_nil, List.append_nil], HJS.out, HK.out⟩
   case round =>
    clear HP1 HJS HK
    obtain ⟨k, pre, hk, rfl, hp, hJs, hK⟩ := hrel
    have HP := hid hp
    have HJS := hid hJs
    have HK := hid hK
    by_cases hlt : k < L.length
    ·obtain ⟨_, _, he, _, _, _, hop⟩ := (R2.out.kpr hK).row.open
     cases he
     obtain ⟨b1, o1, hsa, hb1, hr1⟩ := hop (by omega)
     obtain ⟨x, hx⟩ := get_lt hlt
     obtain ⟨g0, g1, g2, g3, g4, g5, g6⟩ := rowS hr1 hx
     have hkL : (k : Int) < (L.length : Int) := by omega
     obtain ⟨C, hC⟩ : ∃ C, applyL B (pre.map klR) = C := ⟨_, rfl⟩
     have HC := hid (show applyL C0 (seenL now C0 (L.take k)) = C by rw [← hC, hp, applyL_append, HC0.out])
     obtain ⟨vC, hvC⟩ : ∃ v, VarIs wr T C v := by obtain ⟨v, hv⟩ := HZ.out pre wr hJs; rw [applyAll_L, hC] at hv; exact ⟨v, hv⟩
     have HVC := hid hvC
     have HSN := hid (show seenL now C0 (L.take (k + 1)) = seenL now C0 (L.take k) ++ (seenI C now x).toList by
      rw [take_snoc L k x hx, seenL_append, HC.out]
      cases hq : seenI C now x with
      | none => rw [seenL_none hq]; rfl
      | some r => rw [seenL_some hq]; rfl)
     have hplen : pre.length ≤ B.K.length + k := by
      have h1 := congrArg List.length hp
      have h2 := List.length_filterMap_le (keptI L frm now) B.K
      have h3 := seenL_len (now := now) (L.take k) C0
      rw [List.length_map, List.length_append] at h1
      rw [List.length_take] at h3
      unfold keptL21 at h1
      omega
     have HCL := hid (show C.K.length ≤ 1000 ∧ C.I.length ≤ 1000 by
      have h1 := Fine.allL (n := 800) (B := B) ⟨hl2, hl1, hph⟩ (pre.map klR)
      rw [hC, List.length_map] at h1
      exact ⟨by have := h1.2.1; omega, by have := h1.1; omega⟩)
     have hn0 := hK.cells N2.out (by decide)
     have n0 := blk_cell hn0 0
     have n0l := blk_lt hn0
     have q0 := blk_cell (hK.cells P2.out (by decide)) 0
     simp only [List.getElem?_toArray, List.getElem?_cons_zero] at n0 q0
     have NQ := hid hn0
     have QQ := hid q0
     have h5 := bsI5
     have h3 := bsI3
     have HP5 := hid hplen
     clear hr1 hx hp hJs hK hop hC hvC hn0 q0 hplen
     subst hsa
     gi_wp2_with fail
     refine (callsIn_wide.2 (rec_any 8 _ 5 5 _)).mono ?_
     have HYB := hid (show Below wr.heap.size wr ((wr.alloc (.cells #[.int .i64 x.id, .int .i64 x.token, .int .i64 x.version, .int .i64 x.zone, .bool x.on, .bool x.well, .bool x.inn] 49)).alloc (.cells #[.int .i64 x.id, .int .i64 x.token, .int .i64 x.version, .int .i64 x.zone, .int .i64 now] 3)) from ((Below.refl _ _).alloc (Nat.le_refl _) _).alloc (by simp) _)
     have HYS := hid (blk_alloc (heap_new wr (.cells #[.int .i64 x.id, .int .i64 x.token, .int .i64 x.version, .int .i64 x.zone, .bool x.on, .bool x.well, .bool x.inn] 49)) (.cells #[.int .i64 x.id, .int .i64 x.token, .int .i64 x.version, .int .i64 x.zone, .int .i64 now] 3))
     have HYO := hid (own_ints (W := wr.alloc (.cells #[.int .i64 x.id, .int .i64 x.token, .int .i64 x.version, .int .i64 x.zone, .bool x.on, .bool x.well, .bool x.inn] 49)) (L := [x.id, x.token, x.version, x.zone, now]) (cs := #[.int .i64 x.id, .int .i64 x.token, .int .i64 x.version, .int .i64 x.zone, .int .i64 now]) (n := 5) (base := w.heap.size) (by have := Z2.out; have := HK.out.1; simp; omega) rfl rfl rfl (by decide))
     rw [World.size_alloc] at HYO
     generalize ((wr.alloc (.cells #[.int .i64 x.id, .int .i64 x.token, .int .i64 x.version, .int .i64 x.zone, .bool x.on, .bool x.well, .bool x.inn] 49)).alloc (.cells #[.int .i64 x.id, .int .i64 x.token, .int .i64 x.version, .int .i64 x.zone, .int .i64 now] 3)) = Y at HYB HYS HYO ⊢
     rintro e V0 ⟨rfl, hb⟩
     obtain ⟨V, hV⟩ : ∃ V, V = V0.alloc (.cells #[.int .u8 8, .slice (some ⟨wr.heap.size + 1, 0, none⟩) 5 5] 70) := ⟨_, rfl⟩
     have hal : Below V0.heap.size V0 V := by rw [hV]; exact (Below.refl _ _).alloc (Nat.le_refl _) _
     have hbY : Below Y.heap.size Y V := hb.trans (hal.mono hb.size)
     have HBV := hid (HYB.out.trans (hbY.mono HYB.out.size))
     have HRB0 := hid (show V.heap[V0.heap.size]? = some (.cells #[.int .u8 8, .slice (some ⟨wr.heap.size + 1, 0, none⟩) 5 5] 70) by rw [hV]; exact heap_new _ _)
     have HSB := hid (blk_below HYS.out hbY (blk_lt HYS.out))
     have HOW := hid (Owns.below HYO.out hbY)
     have HVV := hid (HVC.out.below HBV.out)
     have NV := hid (blk_below NQ.out HBV.out (blk_lt NQ.out))
     have QV := hid (cell_below QQ.out HBV.out)
     have HKV := hid (HK.out.trans (KpR.below HBV.out))
     have HJV := hid (HJ.out _ _ _ none HJS.out (grown_of_below HBV.out none) (by simp))
     have HV := hid hV
     have HT14 := hid (show wr.heap.size < V0.heap.size by have := blk_lt HYS.out; have := hb.size; omega)
     clear hb hal hbY hV g0 g1 g2 g3 g4 g5 g6 n0 n0l HYB HYS HYO h5
     gi_wp2_with fail
     rw [← HV.out]
     obtain ⟨T14, hT14⟩ : ∃ T, V0.heap.size = T := ⟨_, rfl⟩
     have HRB := hid HRB0.out
     rw [hT14] at HRB HT14 ⊢
     clear hT14 HRB0 HV
     have s1 : V.cell? ⟨wr.heap.size, 1, none⟩ = some (.int .i64 x.token) := blk_cell HSB.out 1
     have kq := fun d os => cell_regrown s1 d os
     by_cases ht : 0 < x.token
     ·have dt : decide ((0 : Int) < x.token) = true := decide_eq_true ht
      have HT := hid ht
      have kp := fun d os => cell_regrown QV.out d os
      have kl := fun d os => (HVV.out.below (below_regrown V d os)).load
      obtain ⟨r, hr⟩ : ∃ r, idxL C.I (fun y => y.token == x.token) = r := ⟨_, rfl⟩
      have HCALL := hid (fun d os => Calls.regrown_of (d := d) (os := os) (w := V) (token_is x.token r hr (HVV.out.below (below_regrown V d os)).is HCL.out.2))
      have HRR := hid hr
      clear hr ht
      by_cases hr0 : 0 ≤ r
      ·have dr : decide ((0 : Int) ≤ r) = true := decide_eq_true hr0
       have HSI := hid (show (if 0 < x.token ∧ 0 ≤ idxL C.I (fun y => y.token == x.token) then some ((4, [x.token, x.id, now]) : RecP) else some (8, [x.id, x.token, x.version, x.zone, now])) = some (4, [x.token, x.id, now]) by rw [if_pos ⟨HT.out, by rw [HRR.out]; exact hr0⟩])
       clear hr0
       refine wpIn_wide.2 ?_
       refine wp_region_quiet_below (by kernel_rfl) (by kernel_rfl) ?_
       repeat (go_big_quiet_step (exact HCALL.out _ _))
       refine wpQuiet_nil ?_
       intro _ hw'
       obtain ⟨⟨dq, osq⟩, hw''⟩ := hw'
       subst hw''
       have hbq := below_regrown V dq osq
       obtain ⟨U, hU⟩ : ∃ U, U = Sort.grow (redrawn V dq) osq := ⟨_, rfl⟩
       rw [← hU] at hbq ⊢
       have HBU := hid (HBV.out.trans (hbq.mono HBV.out.size))
       have HSU := hid (blk_below HSB.out hbq (blk_lt HSB.out))
       have HRU := hid (blk_below HRB.out hbq (blk_lt HRB.out))
       have HOU := hid (Owns.below HOW.out hbq)
       clear hU hbq
       clear s1 kq kp kl dt dr
       have HNU := hid (blk_below NQ.out HBU.out (blk_lt NQ.out))
       have u0 : U.cell? ⟨wr.heap.size, 0, none⟩ = some (.int .i64 x.id) := blk_cell HSU.out 0
       have u1 : U.cell? ⟨wr.heap.size, 1, none⟩ = some (.int .i64 x.token) := blk_cell HSU.out 1
       have ul := blk_lt HSU.out
       have n0 : U.cell? ⟨Bp + 1 + 1, 0, none⟩ = some (.int .i64 now) := blk_cell HNU.out 0
       have nl := blk_lt HNU.out
       gi_wp2_with fail
       refine (callsIn_wide.2 (rec_any 4 _ 3 3 _)).mono ?_
       have HO3 := hid (own_ints (W := U) (L := [x.token, x.id, now]) (cs := #[.int .i64 x.token, .int .i64 x.id, .int .i64 now]) (n := 3) (base := w.heap.size) (by have := Z2.out; have := HK.out.1; have := HBU.out.size; omega) rfl rfl rfl (by decide))
       have hal : Below U.heap.size U (U.alloc (.cells #[.int .i64 x.token, .int .i64 x.id, .int .i64 now] 3)) := (Below.refl _ _).alloc (Nat.le_refl _) _
       have HAL := hid hal
       clear u0 u1 ul n0 nl hal
       rintro e U1 ⟨rfl, hb⟩
       have hb1 := HAL.out.trans (hb.mono HAL.out.size)
       have hr1 := blk_below HRU.out hb1 (blk_lt HRU.out)
       have hlT : wr.heap.size < T14 := HT14.out
       obtain ⟨z0, z1, zf, zl⟩ := blk2 hr1
       obtain ⟨U2, hU2⟩ : ∃ U2, U2 = (U1.setCell ⟨T14, 0, none⟩ (.int .u8 4)).setCell ⟨T14, 1, none⟩ (.slice (some ⟨U.heap.size, 0, none⟩) 3 3) := ⟨_, rfl⟩
       have HBU2 := hid (show Below wr.heap.size wr U2 from by
        rw [hU2]
        exact ((HBU.out.trans (hb1.mono HBU.out.size)).setCell (p := ⟨T14, 0, none⟩) (Nat.le_of_lt hlT) _).setCell (p := ⟨T14, 1, none⟩) (Nat.le_of_lt hlT) _)
       have HSU2 := hid (show U2.heap[wr.heap.size]? = some (.cells #[.int .i64 x.id, .int .i64 x.token, .int .i64 x.version, .int .i64 x.zone, .bool x.on, .bool x.well, .bool x.inn] 49) from by
        rw [hU2]
        exact blk_far (blk_far (blk_below HSU.out hb1 (blk_lt HSU.out)) (by omega) _) (by omega) _)
       have HRU2 := hid (show U2.heap[T14]? = some (.cells #[.int .u8 4, .slice (some ⟨U.heap.size, 0, none⟩) 3 3] 70) from by
        rw [hU2]
        simpa using blk_set (blk_set hr1 0 (.int .u8 4)) 1 (.slice (some ⟨U.heap.size, 0, none⟩) 3 3))
       have HOU2 := hid (show OwnI U2 w.heap.size (.slice (some ⟨U.heap.size, 0, none⟩) 3 3) [x.token, x.id, now] from by
        rw [hU2]
        exact owns_at (owns_at (Owns.below HO3.out hb) hr1 (by decide) 0 _) (blk_set hr1 0 _) (by decide) 1 _)
       have HU2 := hid hU2
       clear hb hb1 hr1 hU2 hlT HBU HSU HRU HOU HO3 HAL HNU
       gi_wp2_with fail
       rw [← HU2.out]
       clear z0 z1 zf zl HU2
       have HBU := HBU2
       have HSU := HSU2
       have HRU := HRU2
       have HOU := HOU2
       have HVU := hid (HVC.out.below HBU.out)
       have QU := hid (cell_below QQ.out HBU.out)
       have HJU := hid (HJ.out _ _ _ none HJS.out (grown_of_below HBU.out none) (by simp))
       have HKU := hid (HK.out.trans (KpR.below HBU.out))
       obtain ⟨rf, hrf⟩ : ∃ r, idxL C.K (fun y => y.id == x.id) = r := ⟨_, rfl⟩
       obtain ⟨fb, hfb⟩ : ∃ q, decide (rf < 0) = q := ⟨_, rfl⟩
       have HRF := hid hrf
       have HFB := hid hfb
       clear hrf hfb
       gi_wp2_with fail
       refine wpIn_region_growCut 8 5 (spL [fun z _ => z = .pointer (some ⟨T, 0, none⟩), fun z _ => z = .pointer (some ⟨T, 0, none⟩), fun z _ => z = vC, fun z _ => z = .pointer (some ⟨wr.heap.size, 0, none⟩), fun z _ => z = .int .i64 x.id, fun z _ => z = .int .i64 rf, fun z _ => z = .bool fb, fun z _ => z = .bool fb]) (spL_stays ⟨stays_eq _, stays_eq _, stays_eq _, stays_eq _, stays_eq _, stays_eq _, stays_eq _, stays_eq _, trivial⟩) (by kernel_rfl) rfl (by kernel_rfl) (by kernel_rfl) (by kernel_rfl) ?steps ?fin
       case steps =>
        refine ⟨?_, ?_, ?_, ?_, ?_, ?_, ?_, ?_, fun h => absurd h (by decide), fun h => absurd h (by decide), fun h => absurd h (by decide), fun h => absurd h (by decide), fun h => absurd h (by decide), trivial⟩
        ·intro _ a' w' hB hdep hoth K hK
         rw [if_pos (guard_none rfl)]
         have hbw : Below U2.heap.size U2 w' := (below_drewN (Below.refl _ _) 1).trans hB
         have t2 := hoth 2 (notDst_at (by kernel_rfl))
         simp only [List.getElem?_toArray, List.getElem?_cons_succ, List.getElem?_cons_zero] at t2
         have q1 := cell_below QU.out hbw
         have lq := lt_of_cell q1
         dsimp only at lq
         clear hdep hoth
         refine ⟨fun _ _ => trivial, ?_⟩
         go_simp
         exact hK _ _ (Below.refl _ _) rfl
        ·intro _ a' w' hB hdep hoth K hK
         rw [if_pos (guard_none rfl)]
         have hbw : Below U2.heap.size U2 w' := (below_drewN (Below.refl _ _) 1).trans hB
         obtain ⟨vx0, gx0, ex0⟩ := hdep ⟨0, .data⟩ (by simp) rfl
         have gx0 := gx0 95 rfl (by simp)
         obtain rfl : vx0 = .pointer (some ⟨T, 0, none⟩) := ex0
         clear hdep hoth
         refine ⟨fun _ _ => trivial, ?_⟩
         go_simp
         exact hK _ _ (Below.refl _ _) rfl
        ·intro _ a' w' hB hdep hoth K hK
         rw [if_pos (guard_none rfl)]
         have hbw : Below U2.heap.size U2 w' := (below_drewN (Below.refl _ _) 1).trans hB
         obtain ⟨vx0, gx0, ex0⟩ := hdep ⟨1, .data⟩ (by simp) rfl
         have gx0 := gx0 96 rfl (by simp)
         obtain rfl : vx0 = .pointer (some ⟨T, 0, none⟩) := ex0
         have hld := (HVU.out.below hbw).load
         clear hdep hoth
         refine ⟨fun _ _ => trivial, ?_⟩
         go_simp
         exact hK _ _ (Below.refl _ _) rfl
        ·intro _ a' w' hB hdep hoth K hK
         rw [if_pos (guard_none rfl)]
         have hbw : Below U2.heap.size U2 w' := (below_drewN (Below.refl _ _) 1).trans hB
         have t13 := hoth 13 (notDst_at (by kernel_rfl))
         simp only [List.getElem?_toArray, List.getElem?_cons_succ, List.getElem?_cons_zero] at t13
         clear hdep hoth
         refine ⟨fun _ _ => trivial, ?_⟩
         go_simp
         exact hK _ _ (Below.refl _ _) rfl
        ·intro _ a' w' hB hdep hoth K hK
         rw [if_pos (guard_none rfl)]
         have hbw : Below U2.heap.size U2 w' := (below_drewN (Below.refl _ _) 1).trans hB
         obtain ⟨vx0, gx0, ex0⟩ := hdep ⟨3, .data⟩ (by simp) rfl
         have gx0 := gx0 98 rfl (by simp)
         obtain rfl : vx0 = .pointer (some ⟨wr.heap.size, 0, none⟩) := ex0
         have q1 : w'.cell? ⟨wr.heap.size, 0, none⟩ = some (.int .i64 x.id) := blk_cell (blk_below HSU.out hbw (blk_lt HSU.out)) 0
         have lq := blk_lt (blk_below HSU.out hbw (blk_lt HSU.out))
         clear hdep hoth
         refine ⟨fun _ _ => trivial, ?_⟩
         go_simp
         exact hK _ _ (Below.refl _ _) rfl
        ·intro _ a' w' hB hdep hoth K hK
         rw [if_pos (guard_none rfl)]
         have hbw : Below U2.heap.size U2 w' := (below_drewN (Below.refl _ _) 1).trans hB
         obtain ⟨vx0, gx0, ex0⟩ := hdep ⟨2, .data⟩ (by simp) rfl
         have gx0 := gx0 97 rfl (by simp)
         obtain rfl : vx0 = vC := ex0
         obtain ⟨vx1, gx1, ex1⟩ := hdep ⟨4, .data⟩ (by simp) rfl
         have gx1 := gx1 99 rfl (by simp)
         obtain rfl : vx1 = .int .i64 x.id := ex1
         have HA := hid (find_is x.id rf HRF.out (HVU.out.below hbw).is HCL.out.1)
         clear hdep hoth
         refine ⟨fun _ _ => trivial, ?_⟩
         go_simp
         refine (callsIn_wide.2 HA.out).mono ?_
         rintro e w'' ⟨rfl, hb⟩
         exact hK _ _ hb rfl
        ·intro _ a' w' hB hdep hoth K hK
         rw [if_pos (guard_none rfl)]
         have hbw : Below U2.heap.size U2 w' := (below_drewN (Below.refl _ _) 1).trans hB
         obtain ⟨vx0, gx0, ex0⟩ := hdep ⟨5, .data⟩ (by simp) rfl
         have gx0 := gx0 100 rfl (by simp)
         obtain rfl : vx0 = .int .i64 rf := ex0
         have hfb := HFB.out
         clear hdep hoth
         refine ⟨fun _ _ => trivial, ?_⟩
         go_simp
         exact hK _ _ (Below.refl _ _) rfl
        ·intro _ a' w' hB hdep hoth K hK
         rw [if_pos (guard_none rfl)]
         have hbw : Below U2.heap.size U2 w' := (below_drewN (Below.refl _ _) 1).trans hB
         obtain ⟨vx0, gx0, ex0⟩ := hdep ⟨6, .data⟩ (by simp) rfl
         have gx0 := gx0 101 rfl (by simp)
         obtain rfl : vx0 = .bool fb := ex0
         clear hdep hoth
         refine ⟨fun _ _ => trivial, ?_⟩
         go_simp
         exact hK _ _ (Below.refl _ _) rfl
       case fin =>
        intro vs X hB hs f hf
        obtain ⟨f, rfl⟩ : ∃ g, f = g + 5 := ⟨f - 5, by omega⟩
        have hbw : Below U2.heap.size U2 X := (below_drewN (Below.refl _ _) 1).trans hB
        have e7 : vs 7 = .bool fb := hs 7 (by decide)
        clear hs hB hf
        simp only [actOf, dstAt, if_true, List.getElem?_toArray, List.getElem?_cons_succ, List.getElem?_cons_zero, Option.bind_some, Act.put, List.setIfInBounds_toArray, List.set_cons_zero, List.set_cons_succ]
        rw [e7]
        clear e7
        have HBX := hid (HBU.out.trans (hbw.mono HBU.out.size))
        have HKX := hid (HKU.out.trans (KpR.below hbw))
        cases fb with
        | false =>
         have HNO := hid (show seenI C now x = none by unfold seenI; rw [HRF.out, if_pos (by have := HFB.out; simp at this; omega)])
         refine wpAnyIn_ready (rs := [8, 9]) (by kernel_rfl) (by simp) (AllReadyIn.cons rfl (fun K hK => ?_) (AllReadyIn.cons rfl (fun K hK => ?_) AllReadyIn.nil))
         ·rw [guard_is (c := false) rfl rfl rfl, if_neg (by decide)]
          refine ⟨fun _ _ => trivial, hK _ _ ?_⟩
          clear hK K
          refine wpAnyIn_ready (rs := [9]) (by kernel_rfl) (by simp) (AllReadyIn.cons rfl (fun K hK => ?_) AllReadyIn.nil)
          rw [guard_is (c := false) rfl rfl rfl, if_neg (by decide)]
          refine ⟨fun _ _ => trivial, hK _ _ ?_⟩
          clear hK K
          refine wpAnyIn_ready (rs := [10]) (by kernel_rfl) (by simp) (AllReadyIn.cons rfl (fun K hK => ?_) AllReadyIn.nil)
          rw [guard_is (c := false) rfl rfl rfl, if_neg (by decide)]
          refine ⟨fun _ _ => trivial, hK _ _ ?_⟩
          clear hK K
          refine wpAnyIn_ready (rs := [11]) (by kernel_rfl) (by simp) (AllReadyIn.cons rfl (fun K hK => ?_) AllReadyIn.nil)
          rw [guard_is (c := false) rfl rfl rfl, if_neg (by decide)]
          refine ⟨fun _ _ => trivial, hK _ _ ?_⟩
          clear hK K
          refine wpAnyIn_ready (rs := [12]) (by kernel_rfl) (by simp) (AllReadyIn.cons rfl (fun K hK => ?_) AllReadyIn.nil)
          rw [if_pos (guard_none rfl)]
          refine ⟨fun _ _ => trivial, ?_⟩
          go_simp
          refine hK _ _ ?_
          clear hK K
          refine wpAnyIn_done (by kernel_rfl) ?_ _
          gi_wp2
          go_roundw
          case rel => exact ⟨k + 1, pre, by omega, by go_num, by rw [HSN.out, HNO.out, HP.out]; simp, HJ.out _ _ _ none HJS.out (grown_of_below HBX.out none) (by simp), HKX.out⟩
          case measure => simp [intOf]; omega
         ·rw [guard_is (c := false) rfl rfl rfl, if_neg (by decide)]
          refine ⟨fun _ _ => trivial, hK _ _ ?_⟩
          clear hK K
          refine wpAnyIn_ready (rs := [8]) (by kernel_rfl) (by simp) (AllReadyIn.cons rfl (fun K hK => ?_) AllReadyIn.nil)
          rw [guard_is (c := false) rfl rfl rfl, if_neg (by decide)]
          refine ⟨fun _ _ => trivial, hK _ _ ?_⟩
          clear hK K
          refine wpAnyIn_ready (rs := [10]) (by kernel_rfl) (by simp) (AllReadyIn.cons rfl (fun K hK => ?_) AllReadyIn.nil)
          rw [guard_is (c := false) rfl rfl rfl, if_neg (by decide)]
          refine ⟨fun _ _ => trivial, hK _ _ ?_⟩
          clear hK K
          refine wpAnyIn_ready (rs := [11]) (by kernel_rfl) (by simp) (AllReadyIn.cons rfl (fun K hK => ?_) AllReadyIn.nil)
          rw [guard_is (c := false) rfl rfl rfl, if_neg (by decide)]
          refine ⟨fun _ _ => trivial, hK _ _ ?_⟩
          clear hK K
          refine wpAnyIn_ready (rs := [12]) (by kernel_rfl) (by simp) (AllReadyIn.cons rfl (fun K hK => ?_) AllReadyIn.nil)
          rw [if_pos (guard_none rfl)]
          refine ⟨fun _ _ => trivial, ?_⟩
          go_simp
          refine hK _ _ ?_
          clear hK K
          refine wpAnyIn_done (by kernel_rfl) ?_ _
          gi_wp2
          go_roundw
          case rel => exact ⟨k + 1, pre, by omega, by go_num, by rw [HSN.out, HNO.out, HP.out]; simp, HJ.out _ _ _ none HJS.out (grown_of_below HBX.out none) (by simp), HKX.out⟩
          case measure => simp [intOf]; omega
        | true =>
         have HNO := hid (show seenI C now x = some (4, [x.token, x.id, now]) by unfold seenI; rw [HRF.out, if_neg (by have := HFB.out; simp at this; omega)]; exact HSI.out)
         have HJX := hid (HJ.out _ _ _ none HJS.out (grown_of_below HBX.out none) (by simp))
         have HRX := blk_below HRU.out hbw (blk_lt HRU.out)
         have z0 : X.cell? ⟨T14, 0, none⟩ = some (.int .u8 4) := blk_cell HRX 0
         have z1 : X.cell? ⟨T14, 1, none⟩ = some (.slice (some ⟨U.heap.size, 0, none⟩) 3 3) := blk_cell HRX 1
         have zl := blk_lt HRX
         obtain ⟨fn, tmps, assign, body, hy, hR⟩ := HY.out pre ⟨4, .slice (some ⟨U.heap.size, 0, none⟩) 3 3, [x.token, x.id, now]⟩ X HJX.out ⟨Owns.below HOU.out hbw, (seenI_kind HNO.out).1⟩ (by have := HP5.out; omega)
         dsimp only [itemR21, recV] at hy
         have HR := hid hR
         clear hR HRX hbw
         refine wpAnyIn_ready (rs := [8, 9]) (by kernel_rfl) (by simp) (AllReadyIn.cons rfl (fun K hK => ?_) (AllReadyIn.cons rfl (fun K hK => ?_) AllReadyIn.nil))
         ·rw [guard_is (c := true) rfl rfl rfl, if_pos (by decide)]
          refine ⟨fun _ _ => trivial, ?_⟩
          go_simp
          refine hK _ _ ?_
          clear hK K
          refine wpAnyIn_ready (rs := [9]) (by kernel_rfl) (by simp) (AllReadyIn.cons rfl (fun K hK => ?_) AllReadyIn.nil)
          rw [guard_is (c := true) rfl rfl rfl, if_pos (by decide)]
          refine ⟨fun _ _ => trivial, ?_⟩
          go_simp
          refine hK _ _ ?_
          clear hK K
          refine wpAnyIn_ready (rs := [10]) (by kernel_rfl) (by simp) (AllReadyIn.cons rfl (fun K hK => ?_) AllReadyIn.nil)
          rw [guard_is (c := true) rfl rfl rfl, if_pos (by decide)]
          refine ⟨fun _ _ => trivial, ?_⟩
          go_simp
          refine HR.out.mono ?_
          rintro e W3 ⟨rfl, hJ3, hk3⟩
          refine hK _ _ ?_
          clear hK K
          refine wpAnyIn_ready (rs := [11]) (by kernel_rfl) (by simp) (AllReadyIn.cons rfl (fun K hK => ?_) AllReadyIn.nil)
          rw [guard_is (c := true) rfl rfl rfl, if_pos (by decide)]
          refine ⟨fun _ _ => trivial, ?_⟩
          go_simp
          refine hK _ _ ?_
          clear hK K
          refine wpAnyIn_ready (rs := [12]) (by kernel_rfl) (by simp) (AllReadyIn.cons rfl (fun K hK => ?_) AllReadyIn.nil)
          rw [if_pos (guard_none rfl)]
          refine ⟨fun _ _ => trivial, ?_⟩
          go_simp
          refine hK _ _ ?_
          clear hK K
          refine wpAnyIn_done (by kernel_rfl) ?_ _
          gi_wp2
          go_roundw
          case rel => exact ⟨k + 1, _, by omega, by go_num, by rw [HSN.out, HNO.out, List.map_append, HP.out, List.append_assoc]; rfl, hJ3, HKX.out.trans hk3⟩
          case measure => simp [intOf]; omega
         ·rw [guard_is (c := true) rfl rfl rfl, if_pos (by decide)]
          refine ⟨fun _ _ => trivial, ?_⟩
          go_simp
          refine hK _ _ ?_
          clear hK K
          refine wpAnyIn_ready (rs := [8]) (by kernel_rfl) (by simp) (AllReadyIn.cons rfl (fun K hK => ?_) AllReadyIn.nil)
          rw [guard_is (c := true) rfl rfl rfl, if_pos (by decide)]
          refine ⟨fun _ _ => trivial, ?_⟩
          go_simp
          refine hK _ _ ?_
          clear hK K
          refine wpAnyIn_ready (rs := [10]) (by kernel_rfl) (by simp) (AllReadyIn.cons rfl (fun K hK => ?_) AllReadyIn.nil)
          rw [guard_is (c := true) rfl rfl rfl, if_pos (by decide)]
          refine ⟨fun _ _ => trivial, ?_⟩
          go_simp
          refine HR.out.mono ?_
          rintro e W3 ⟨rfl, hJ3, hk3⟩
          refine hK _ _ ?_
          clear hK K
          refine wpAnyIn_ready (rs := [11]) (by kernel_rfl) (by simp) (AllReadyIn.cons rfl (fun K hK => ?_) AllReadyIn.nil)
          rw [guard_is (c := true) rfl rfl rfl, if_pos (by decide)]
          refine ⟨fun _ _ => trivial, ?_⟩
          go_simp
          refine hK _ _ ?_
          clear hK K
          refine wpAnyIn_ready (rs := [12]) (by kernel_rfl) (by simp) (AllReadyIn.cons rfl (fun K hK => ?_) AllReadyIn.nil)
          rw [if_pos (guard_none rfl)]
          refine ⟨fun _ _ => trivial, ?_⟩
          go_simp
          refine hK _ _ ?_
          clear hK K
          refine wpAnyIn_done (by kernel_rfl) ?_ _
          gi_wp2
          go_roundw
          case rel => exact ⟨k + 1, _, by omega, by go_num, by rw [HSN.out, HNO.out, List.map_append, HP.out, List.append_assoc]; rfl, hJ3, HKX.out.trans hk3⟩
          case measure => simp [intOf]; omega
      ·have dr : decide ((0 : Int) ≤ r) = false := decide_eq_false hr0
       have HSI := hid (show (if 0 < x.token ∧ 0 ≤ idxL C.I (fun y => y.token == x.token) then some ((4, [x.token, x.id, now]) : RecP) else some (8, [x.id, x.token, x.version, x.zone, now])) = some (8, [x.id, x.token, x.version, x.zone, now]) by rw [if_neg (by rw [HRR.out]; exact fun h => hr0 h.2)])
       clear hr0
       refine wpIn_wide.2 ?_
       refine wp_region_quiet_below (by kernel_rfl) (by kernel_rfl) ?_
       repeat (go_big_quiet_step (exact HCALL.out _ _))
       refine wpQuiet_nil ?_
       intro _ hw'
       obtain ⟨⟨dq, osq⟩, hw''⟩ := hw'
       subst hw''
       have hbq := below_regrown V dq osq
       obtain ⟨U, hU⟩ : ∃ U, U = Sort.grow (redrawn V dq) osq := ⟨_, rfl⟩
       rw [← hU] at hbq ⊢
       have HBU := hid (HBV.out.trans (hbq.mono HBV.out.size))
       have HSU := hid (blk_below HSB.out hbq (blk_lt HSB.out))
       have HRU := hid (blk_below HRB.out hbq (blk_lt HRB.out))
       have HOU := hid (Owns.below HOW.out hbq)
       clear hU hbq
       clear s1 kq kp kl dt dr
       have HVU := hid (HVC.out.below HBU.out)
       have QU := hid (cell_below QQ.out HBU.out)
       have HJU := hid (HJ.out _ _ _ none HJS.out (grown_of_below HBU.out none) (by simp))
       have HKU := hid (HK.out.trans (KpR.below HBU.out))
       obtain ⟨rf, hrf⟩ : ∃ r, idxL C.K (fun y => y.id == x.id) = r := ⟨_, rfl⟩
       obtain ⟨fb, hfb⟩ : ∃ q, decide (rf < 0) = q := ⟨_, rfl⟩
       have HRF := hid hrf
       have HFB := hid hfb
       clear hrf hfb
       gi_wp2_with fail
       refine wpIn_region_growCut 8 5 (spL [fun z _ => z = .pointer (some ⟨T, 0, none⟩), fun z _ => z = .pointer (some ⟨T, 0, none⟩), fun z _ => z = vC, fun z _ => z = .pointer (some ⟨wr.heap.size, 0, none⟩), fun z _ => z = .int .i64 x.id, fun z _ => z = .int .i64 rf, fun z _ => z = .bool fb, fun z _ => z = .bool fb]) (spL_stays ⟨stays_eq _, stays_eq _, stays_eq _, stays_eq _, stays_eq _, stays_eq _, stays_eq _, stays_eq _, trivial⟩) (by kernel_rfl) rfl (by kernel_rfl) (by kernel_rfl) (by kernel_rfl) ?steps ?fin
       case steps =>
        refine ⟨?_, ?_, ?_, ?_, ?_, ?_, ?_, ?_, fun h => absurd h (by decide), fun h => absurd h (by decide), fun h => absurd h (by decide), fun h => absurd h (by decide), fun h => absurd h (by decide), trivial⟩
        ·intro _ a' w' hB hdep hoth K hK
         rw [if_pos (guard_none rfl)]
         have hbw : Below U.heap.size U w' := (below_drewN (Below.refl _ _) 1).trans hB
         have t2 := hoth 2 (notDst_at (by kernel_rfl))
         simp only [List.getElem?_toArray, List.getElem?_cons_succ, List.getElem?_cons_zero] at t2
         have q1 := cell_below QU.out hbw
         have lq := lt_of_cell q1
         dsimp only at lq
         clear hdep hoth
         refine ⟨fun _ _ => trivial, ?_⟩
         go_simp
         exact hK _ _ (Below.refl _ _) rfl
        ·intro _ a' w' hB hdep hoth K hK
         rw [if_pos (guard_none rfl)]
         have hbw : Below U.heap.size U w' := (below_drewN (Below.refl _ _) 1).trans hB
         obtain ⟨vx0, gx0, ex0⟩ := hdep ⟨0, .data⟩ (by simp) rfl
         have gx0 := gx0 95 rfl (by simp)
         obtain rfl : vx0 = .pointer (some ⟨T, 0, none⟩) := ex0
         clear hdep hoth
         refine ⟨fun _ _ => trivial, ?_⟩
         go_simp
         exact hK _ _ (Below.refl _ _) rfl
        ·intro _ a' w' hB hdep hoth K hK
         rw [if_pos (guard_none rfl)]
         have hbw : Below U.heap.size U w' := (below_drewN (Below.refl _ _) 1).trans hB
         obtain ⟨vx0, gx0, ex0⟩ := hdep ⟨1, .data⟩ (by simp) rfl
         have gx0 := gx0 96 rfl (by simp)
         obtain rfl : vx0 = .pointer (some ⟨T, 0, none⟩) := ex0
         have hld := (HVU.out.below hbw).load
         clear hdep hoth
         refine ⟨fun _ _ => trivial, ?_⟩
         go_simp
         exact hK _ _ (Below.refl _ _) rfl
        ·intro _ a' w' hB hdep hoth K hK
         rw [if_pos (guard_none rfl)]
         have hbw : Below U.heap.size U w' := (below_drewN (Below.refl _ _) 1).trans hB
         have t13 := hoth 13 (notDst_at (by kernel_rfl))
         simp only [List.getElem?_toArray, List.getElem?_cons_succ, List.getElem?_cons_zero] at t13
         clear hdep hoth
         refine ⟨fun _ _ => trivial, ?_⟩
         go_simp
         exact hK _ _ (Below.refl _ _) rfl
        ·intro _ a' w' hB hdep hoth K hK
         rw [if_pos (guard_none rfl)]
         have hbw : Below U.heap.size U w' := (below_drewN (Below.refl _ _) 1).trans hB
         obtain ⟨vx0, gx0, ex0⟩ := hdep ⟨3, .data⟩ (by simp) rfl
         have gx0 := gx0 98 rfl (by simp)
         obtain rfl : vx0 = .pointer (some ⟨wr.heap.size, 0, none⟩) := ex0
         have q1 : w'.cell? ⟨wr.heap.size, 0, none⟩ = some (.int .i64 x.id) := blk_cell (blk_below HSU.out hbw (blk_lt HSU.out)) 0
         have lq := blk_lt (blk_below HSU.out hbw (blk_lt HSU.out))
         clear hdep hoth
         refine ⟨fun _ _ => trivial, ?_⟩
         go_simp
         exact hK _ _ (Below.refl _ _) rfl
        ·intro _ a' w' hB hdep hoth K hK
         rw [if_pos (guard_none rfl)]
         have hbw : Below U.heap.size U w' := (below_drewN (Below.refl _ _) 1).trans hB
         obtain ⟨vx0, gx0, ex0⟩ := hdep ⟨2, .data⟩ (by simp) rfl
         have gx0 := gx0 97 rfl (by simp)
         obtain rfl : vx0 = vC := ex0
         obtain ⟨vx1, gx1, ex1⟩ := hdep ⟨4, .data⟩ (by simp) rfl
         have gx1 := gx1 99 rfl (by simp)
         obtain rfl : vx1 = .int .i64 x.id := ex1
         have HA := hid (find_is x.id rf HRF.out (HVU.out.below hbw).is HCL.out.1)
         clear hdep hoth
         refine ⟨fun _ _ => trivial, ?_⟩
         go_simp
         refine (callsIn_wide.2 HA.out).mono ?_
         rintro e w'' ⟨rfl, hb⟩
         exact hK _ _ hb rfl
        ·intro _ a' w' hB hdep hoth K hK
         rw [if_pos (guard_none rfl)]
         have hbw : Below U.heap.size U w' := (below_drewN (Below.refl _ _) 1).trans hB
         obtain ⟨vx0, gx0, ex0⟩ := hdep ⟨5, .data⟩ (by simp) rfl
         have gx0 := gx0 100 rfl (by simp)
         obtain rfl : vx0 = .int .i64 rf := ex0
         have hfb := HFB.out
         clear hdep hoth
         refine ⟨fun _ _ => trivial, ?_⟩
         go_simp
         exact hK _ _ (Below.refl _ _) rfl
        ·intro _ a' w' hB hdep hoth K hK
         rw [if_pos (guard_none rfl)]
         have hbw : Below U.heap.size U w' := (below_drewN (Below.refl _ _) 1).trans hB
         obtain ⟨vx0, gx0, ex0⟩ := hdep ⟨6, .data⟩ (by simp) rfl
         have gx0 := gx0 101 rfl (by simp)
         obtain rfl : vx0 = .bool fb := ex0
         clear hdep hoth
         refine ⟨fun _ _ => trivial, ?_⟩
         go_simp
         exact hK _ _ (Below.refl _ _) rfl
       case fin =>
        intro vs X hB hs f hf
        obtain ⟨f, rfl⟩ : ∃ g, f = g + 5 := ⟨f - 5, by omega⟩
        have hbw : Below U.heap.size U X := (below_drewN (Below.refl _ _) 1).trans hB
        have e7 : vs 7 = .bool fb := hs 7 (by decide)
        clear hs hB hf
        simp only [actOf, dstAt, if_true, List.getElem?_toArray, List.getElem?_cons_succ, List.getElem?_cons_zero, Option.bind_some, Act.put, List.setIfInBounds_toArray, List.set_cons_zero, List.set_cons_succ]
        rw [e7]
        clear e7
        have HBX := hid (HBU.out.trans (hbw.mono HBU.out.size))
        have HKX := hid (HKU.out.trans (KpR.below hbw))
        cases fb with
        | false =>
         have HNO := hid (show seenI C now x = none by unfold seenI; rw [HRF.out, if_pos (by have := HFB.out; simp at this; omega)])
         refine wpAnyIn_ready (rs := [8, 9]) (by kernel_rfl) (by simp) (AllReadyIn.cons rfl (fun K hK => ?_) (AllReadyIn.cons rfl (fun K hK => ?_) AllReadyIn.nil))
         ·rw [guard_is (c := false) rfl rfl rfl, if_neg (by decide)]
          refine ⟨fun _ _ => trivial, hK _ _ ?_⟩
          clear hK K
          refine wpAnyIn_ready (rs := [9]) (by kernel_rfl) (by simp) (AllReadyIn.cons rfl (fun K hK => ?_) AllReadyIn.nil)
          rw [guard_is (c := false) rfl rfl rfl, if_neg (by decide)]
          refine ⟨fun _ _ => trivial, hK _ _ ?_⟩
          clear hK K
          refine wpAnyIn_ready (rs := [10]) (by kernel_rfl) (by simp) (AllReadyIn.cons rfl (fun K hK => ?_) AllReadyIn.nil)
          rw [guard_is (c := false) rfl rfl rfl, if_neg (by decide)]
          refine ⟨fun _ _ => trivial, hK _ _ ?_⟩
          clear hK K
          refine wpAnyIn_ready (rs := [11]) (by kernel_rfl) (by simp) (AllReadyIn.cons rfl (fun K hK => ?_) AllReadyIn.nil)
          rw [guard_is (c := false) rfl rfl rfl, if_neg (by decide)]
          refine ⟨fun _ _ => trivial, hK _ _ ?_⟩
          clear hK K
          refine wpAnyIn_ready (rs := [12]) (by kernel_rfl) (by simp) (AllReadyIn.cons rfl (fun K hK => ?_) AllReadyIn.nil)
          rw [if_pos (guard_none rfl)]
          refine ⟨fun _ _ => trivial, ?_⟩
          go_simp
          refine hK _ _ ?_
          clear hK K
          refine wpAnyIn_done (by kernel_rfl) ?_ _
          gi_wp2
          go_roundw
          case rel => exact ⟨k + 1, pre, by omega, by go_num, by rw [HSN.out, HNO.out, HP.out]; simp, HJ.out _ _ _ none HJS.out (grown_of_below HBX.out none) (by simp), HKX.out⟩
          case measure => simp [intOf]; omega
         ·rw [guard_is (c := false) rfl rfl rfl, if_neg (by decide)]
          refine ⟨fun _ _ => trivial, hK _ _ ?_⟩
          clear hK K
          refine wpAnyIn_ready (rs := [8]) (by kernel_rfl) (by simp) (AllReadyIn.cons rfl (fun K hK => ?_) AllReadyIn.nil)
          rw [guard_is (c := false) rfl rfl rfl, if_neg (by decide)]
          refine ⟨fun _ _ => trivial, hK _ _ ?_⟩
          clear hK K
          refine wpAnyIn_ready (rs := [10]) (by kernel_rfl) (by simp) (AllReadyIn.cons rfl (fun K hK => ?_) AllReadyIn.nil)
          rw [guard_is (c := false) rfl rfl rfl, if_neg (by decide)]
          refine ⟨fun _ _ => trivial, hK _ _ ?_⟩
          clear hK K
          refine wpAnyIn_ready (rs := [11]) (by kernel_rfl) (by simp) (AllReadyIn.cons rfl (fun K hK => ?_) AllReadyIn.nil)
          rw [guard_is (c := false) rfl rfl rfl, if_neg (by decide)]
          refine ⟨fun _ _ => trivial, hK _ _ ?_⟩
          clear hK K
          refine wpAnyIn_ready (rs := [12]) (by kernel_rfl) (by simp) (AllReadyIn.cons rfl (fun K hK => ?_) AllReadyIn.nil)
          rw [if_pos (guard_none rfl)]
          refine ⟨fun _ _ => trivial, ?_⟩
          go_simp
          refine hK _ _ ?_
          clear hK K
          refine wpAnyIn_done (by kernel_rfl) ?_ _
          gi_wp2
          go_roundw
          case rel => exact ⟨k + 1, pre, by omega, by go_num, by rw [HSN.out, HNO.out, HP.out]; simp, HJ.out _ _ _ none HJS.out (grown_of_below HBX.out none) (by simp), HKX.out⟩
          case measure => simp [intOf]; omega
        | true =>
         have HNO := hid (show seenI C now x = some (8, [x.id, x.token, x.version, x.zone, now]) by unfold seenI; rw [HRF.out, if_neg (by have := HFB.out; simp at this; omega)]; exact HSI.out)
         have HJX := hid (HJ.out _ _ _ none HJS.out (grown_of_below HBX.out none) (by simp))
         have HRX := blk_below HRU.out hbw (blk_lt HRU.out)
         have z0 : X.cell? ⟨T14, 0, none⟩ = some (.int .u8 8) := blk_cell HRX 0
         have z1 : X.cell? ⟨T14, 1, none⟩ = some (.slice (some ⟨wr.heap.size + 1, 0, none⟩) 5 5) := blk_cell HRX 1
         have zl := blk_lt HRX
         obtain ⟨fn, tmps, assign, body, hy, hR⟩ := HY.out pre ⟨8, .slice (some ⟨wr.heap.size + 1, 0, none⟩) 5 5, [x.id, x.token, x.version, x.zone, now]⟩ X HJX.out ⟨Owns.below HOU.out hbw, (seenI_kind HNO.out).1⟩ (by have := HP5.out; omega)
         dsimp only [itemR21, recV] at hy
         have HR := hid hR
         clear hR HRX hbw
         refine wpAnyIn_ready (rs := [8, 9]) (by kernel_rfl) (by simp) (AllReadyIn.cons rfl (fun K hK => ?_) (AllReadyIn.cons rfl (fun K hK => ?_) AllReadyIn.nil))
         ·rw [guard_is (c := true) rfl rfl rfl, if_pos (by decide)]
          refine ⟨fun _ _ => trivial, ?_⟩
          go_simp
          refine hK _ _ ?_
          clear hK K
          refine wpAnyIn_ready (rs := [9]) (by kernel_rfl) (by simp) (AllReadyIn.cons rfl (fun K hK => ?_) AllReadyIn.nil)
          rw [guard_is (c := true) rfl rfl rfl, if_pos (by decide)]
          refine ⟨fun _ _ => trivial, ?_⟩
          go_simp
          refine hK _ _ ?_
          clear hK K
          refine wpAnyIn_ready (rs := [10]) (by kernel_rfl) (by simp) (AllReadyIn.cons rfl (fun K hK => ?_) AllReadyIn.nil)
          rw [guard_is (c := true) rfl rfl rfl, if_pos (by decide)]
          refine ⟨fun _ _ => trivial, ?_⟩
          go_simp
          refine HR.out.mono ?_
          rintro e W3 ⟨rfl, hJ3, hk3⟩
          refine hK _ _ ?_
          clear hK K
          refine wpAnyIn_ready (rs := [11]) (by kernel_rfl) (by simp) (AllReadyIn.cons rfl (fun K hK => ?_) AllReadyIn.nil)
          rw [guard_is (c := true) rfl rfl rfl, if_pos (by decide)]
          refine ⟨fun _ _ => trivial, ?_⟩
          go_simp
          refine hK _ _ ?_
          clear hK K
          refine wpAnyIn_ready (rs := [12]) (by kernel_rfl) (by simp) (AllReadyIn.cons rfl (fun K hK => ?_) AllReadyIn.nil)
          rw [if_pos (guard_none rfl)]
          refine ⟨fun _ _ => trivial, ?_⟩
          go_simp
          refine hK _ _ ?_
          clear hK K
          refine wpAnyIn_done (by kernel_rfl) ?_ _
          gi_wp2
          go_roundw
          case rel => exact ⟨k + 1, _, by omega, by go_num, by rw [HSN.out, HNO.out, List.map_append, HP.out, List.append_assoc]; rfl, hJ3, HKX.out.trans hk3⟩
          case measure => simp [intOf]; omega
         ·rw [guard_is (c := true) rfl rfl rfl, if_pos (by decide)]
          refine ⟨fun _ _ => trivial, ?_⟩
          go_simp
          refine hK _ _ ?_
          clear hK K
          refine wpAnyIn_ready (rs := [8]) (by kernel_rfl) (by simp) (AllReadyIn.cons rfl (fun K hK => ?_) AllReadyIn.nil)
          rw [guard_is (c := true) rfl rfl rfl, if_pos (by decide)]
          refine ⟨fun _ _ => trivial, ?_⟩
          go_simp
          refine hK _ _ ?_
          clear hK K
          refine wpAnyIn_ready (rs := [10]) (by kernel_rfl) (by simp) (AllReadyIn.cons rfl (fun K hK => ?_) AllReadyIn.nil)
          rw [guard_is (c := true) rfl rfl rfl, if_pos (by decide)]
          refine ⟨fun _ _ => trivial, ?_⟩
          go_simp
          refine HR.out.mono ?_
          rintro e W3 ⟨rfl, hJ3, hk3⟩
          refine hK _ _ ?_
          clear hK K
          refine wpAnyIn_ready (rs := [11]) (by kernel_rfl) (by simp) (AllReadyIn.cons rfl (fun K hK => ?_) AllReadyIn.nil)
          rw [guard_is (c := true) rfl rfl rfl, if_pos (by decide)]
          refine ⟨fun _ _ => trivial, ?_⟩
          go_simp
          refine hK _ _ ?_
          clear hK K
          refine wpAnyIn_ready (rs := [12]) (by kernel_rfl) (by simp) (AllReadyIn.cons rfl (fun K hK => ?_) AllReadyIn.nil)
          rw [if_pos (guard_none rfl)]
          refine ⟨fun _ _ => trivial, ?_⟩
          go_simp
          refine hK _ _ ?_
          clear hK K
          refine wpAnyIn_done (by kernel_rfl) ?_ _
          gi_wp2
          go_roundw
          case rel => exact ⟨k + 1, _, by omega, by go_num, by rw [HSN.out, HNO.out, List.map_append, HP.out, List.append_assoc]; rfl, hJ3, HKX.out.trans hk3⟩
          case measure => simp [intOf]; omega
     ·have dt : decide ((0 : Int) < x.token) = false := decide_eq_false ht
      have HSI := hid (show (if 0 < x.token ∧ 0 ≤ idxL C.I (fun y => y.token == x.token) then some ((4, [x.token, x.id, now]) : RecP) else some (8, [x.id, x.token, x.version, x.zone, now])) = some (8, [x.id, x.token, x.version, x.zone, now]) by rw [if_neg (fun h => ht h.1)])
      clear ht
      refine wpIn_wide.2 ?_
      refine wp_region_quiet_below (by kernel_rfl) (by kernel_rfl) ?_
      repeat (go_big_quiet_step (fail))
      refine wpQuiet_nil ?_
      intro _ hw'
      obtain ⟨⟨dq, osq⟩, hw''⟩ := hw'
      subst hw''
      have hbq := below_regrown V dq osq
      obtain ⟨U, hU⟩ : ∃ U, U = Sort.grow (redrawn V dq) osq := ⟨_, rfl⟩
      rw [← hU] at hbq ⊢
      have HBU := hid (HBV.out.trans (hbq.mono HBV.out.size))
      have HSU := hid (blk_below HSB.out hbq (blk_lt HSB.out))
      have HRU := hid (blk_below HRB.out hbq (blk_lt HRB.out))
      have HOU := hid (Owns.below HOW.out hbq)
      clear hU hbq
      clear s1 kq dt
      have HVU := hid (HVC.out.below HBU.out)
      have QU := hid (cell_below QQ.out HBU.out)
      have HJU := hid (HJ.out _ _ _ none HJS.out (grown_of_below HBU.out none) (by simp))
      have HKU := hid (HK.out.trans (KpR.below HBU.out))
      obtain ⟨rf, hrf⟩ : ∃ r, idxL C.K (fun y => y.id == x.id) = r := ⟨_, rfl⟩
      obtain ⟨fb, hfb⟩ : ∃ q, decide (rf < 0) = q := ⟨_, rfl⟩
      have HRF := hid hrf
      have HFB := hid hfb
      clear hrf hfb
      gi_wp2_with fail
      refine wpIn_region_growCut 8 5 (spL [fun z _ => z = .pointer (some ⟨T, 0, none⟩), fun z _ => z = .pointer (some ⟨T, 0, none⟩), fun z _ => z = vC, fun z _ => z = .pointer (some ⟨wr.heap.size, 0, none⟩), fun z _ => z = .int .i64 x.id, fun z _ => z = .int .i64 rf, fun z _ => z = .bool fb, fun z _ => z = .bool fb]) (spL_stays ⟨stays_eq _, stays_eq _, stays_eq _, stays_eq _, stays_eq _, stays_eq _, stays_eq _, stays_eq _, trivial⟩) (by kernel_rfl) rfl (by kernel_rfl) (by kernel_rfl) (by kernel_rfl) ?steps ?fin
      case steps =>
       refine ⟨?_, ?_, ?_, ?_, ?_, ?_, ?_, ?_, fun h => absurd h (by decide), fun h => absurd h (by decide), fun h => absurd h (by decide), fun h => absurd h (by decide), fun h => absurd h (by decide), trivial⟩
       ·intro _ a' w' hB hdep hoth K hK
        rw [if_pos (guard_none rfl)]
        have hbw : Below U.heap.size U w' := (below_drewN (Below.refl _ _) 1).trans hB
        have t2 := hoth 2 (notDst_at (by kernel_rfl))
        simp only [List.getElem?_toArray, List.getElem?_cons_succ, List.getElem?_cons_zero] at t2
        have q1 := cell_below QU.out hbw
        have lq := lt_of_cell q1
        dsimp only at lq
        clear hdep hoth
        refine ⟨fun _ _ => trivial, ?_⟩
        go_simp
        exact hK _ _ (Below.refl _ _) rfl
       ·intro _ a' w' hB hdep hoth K hK
        rw [if_pos (guard_none rfl)]
        have hbw : Below U.heap.size U w' := (below_drewN (Below.refl _ _) 1).trans hB
        obtain ⟨vx0, gx0, ex0⟩ := hdep ⟨0, .data⟩ (by simp) rfl
        have gx0 := gx0 95 rfl (by simp)
        obtain rfl : vx0 = .pointer (some ⟨T, 0, none⟩) := ex0
        clear hdep hoth
        refine ⟨fun _ _ => trivial, ?_⟩
        go_simp
        exact hK _ _ (Below.refl _ _) rfl
       ·intro _ a' w' hB hdep hoth K hK
        rw [if_pos (guard_none rfl)]
        have hbw : Below U.heap.size U w' := (below_drewN (Below.refl _ _) 1).trans hB
        obtain ⟨vx0, gx0, ex0⟩ := hdep ⟨1, .data⟩ (by simp) rfl
        have gx0 := gx0 96 rfl (by simp)
        obtain rfl : vx0 = .pointer (some ⟨T, 0, none⟩) := ex0
        have hld := (HVU.out.below hbw).load
        clear hdep hoth
        refine ⟨fun _ _ => trivial, ?_⟩
        go_simp
        exact hK _ _ (Below.refl _ _) rfl
       ·intro _ a' w' hB hdep hoth K hK
        rw [if_pos (guard_none rfl)]
        have hbw : Below U.heap.size U w' := (below_drewN (Below.refl _ _) 1).trans hB
        have t13 := hoth 13 (notDst_at (by kernel_rfl))
        simp only [List.getElem?_toArray, List.getElem?_cons_succ, List.getElem?_cons_zero] at t13
        clear hdep hoth
        refine ⟨fun _ _ => trivial, ?_⟩
        go_simp
        exact hK _ _ (Below.refl _ _) rfl
       ·intro _ a' w' hB hdep hoth K hK
        rw [if_pos (guard_none rfl)]
        have hbw : Below U.heap.size U w' := (below_drewN (Below.refl _ _) 1).trans hB
        obtain ⟨vx0, gx0, ex0⟩ := hdep ⟨3, .data⟩ (by simp) rfl
        have gx0 := gx0 98 rfl (by simp)
        obtain rfl : vx0 = .pointer (some ⟨wr.heap.size, 0, none⟩) := ex0
        have q1 : w'.cell? ⟨wr.heap.size, 0, none⟩ = some (.int .i64 x.id) := blk_cell (blk_below HSU.out hbw (blk_lt HSU.out)) 0
        have lq := blk_lt (blk_below HSU.out hbw (blk_lt HSU.out))
        clear hdep hoth
        refine ⟨fun _ _ => trivial, ?_⟩
        go_simp
        exact hK _ _ (Below.refl _ _) rfl
       ·intro _ a' w' hB hdep hoth K hK
        rw [if_pos (guard_none rfl)]
        have hbw : Below U.heap.size U w' := (below_drewN (Below.refl _ _) 1).trans hB
        obtain ⟨vx0, gx0, ex0⟩ := hdep ⟨2, .data⟩ (by simp) rfl
        have gx0 := gx0 97 rfl (by simp)
        obtain rfl : vx0 = vC := ex0
        obtain ⟨vx1, gx1, ex1⟩ := hdep ⟨4, .data⟩ (by simp) rfl
        have gx1 := gx1 99 rfl (by simp)
        obtain rfl : vx1 = .int .i64 x.id := ex1
        have HA := hid (find_is x.id rf HRF.out (HVU.out.below hbw).is HCL.out.1)
        clear hdep hoth
        refine ⟨fun _ _ => trivial, ?_⟩
        go_simp
        refine (callsIn_wide.2 HA.out).mono ?_
        rintro e w'' ⟨rfl, hb⟩
        exact hK _ _ hb rfl
       ·intro _ a' w' hB hdep hoth K hK
        rw [if_pos (guard_none rfl)]
        have hbw : Below U.heap.size U w' := (below_drewN (Below.refl _ _) 1).trans hB
        obtain ⟨vx0, gx0, ex0⟩ := hdep ⟨5, .data⟩ (by simp) rfl
        have gx0 := gx0 100 rfl (by simp)
        obtain rfl : vx0 = .int .i64 rf := ex0
        have hfb := HFB.out
        clear hdep hoth
        refine ⟨fun _ _ => trivial, ?_⟩
        go_simp
        exact hK _ _ (Below.refl _ _) rfl
       ·intro _ a' w' hB hdep hoth K hK
        rw [if_pos (guard_none rfl)]
        have hbw : Below U.heap.size U w' := (below_drewN (Below.refl _ _) 1).trans hB
        obtain ⟨vx0, gx0, ex0⟩ := hdep ⟨6, .data⟩ (by simp) rfl
        have gx0 := gx0 101 rfl (by simp)
        obtain rfl : vx0 = .bool fb := ex0
        clear hdep hoth
        refine ⟨fun _ _ => trivial, ?_⟩
        go_simp
        exact hK _ _ (Below.refl _ _) rfl
      case fin =>
       intro vs X hB hs f hf
       obtain ⟨f, rfl⟩ : ∃ g, f = g + 5 := ⟨f - 5, by omega⟩
       have hbw : Below U.heap.size U X := (below_drewN (Below.refl _ _) 1).trans hB
       have e7 : vs 7 = .bool fb := hs 7 (by decide)
       clear hs hB hf
       simp only [actOf, dstAt, if_true, List.getElem?_toArray, List.getElem?_cons_succ, List.getElem?_cons_zero, Option.bind_some, Act.put, List.setIfInBounds_toArray, List.set_cons_zero, List.set_cons_succ]
       rw [e7]
       clear e7
       have HBX := hid (HBU.out.trans (hbw.mono HBU.out.size))
       have HKX := hid (HKU.out.trans (KpR.below hbw))
       cases fb with
       | false =>
        have HNO := hid (show seenI C now x = none by unfold seenI; rw [HRF.out, if_pos (by have := HFB.out; simp at this; omega)])
        refine wpAnyIn_ready (rs := [8, 9]) (by kernel_rfl) (by simp) (AllReadyIn.cons rfl (fun K hK => ?_) (AllReadyIn.cons rfl (fun K hK => ?_) AllReadyIn.nil))
        ·rw [guard_is (c := false) rfl rfl rfl, if_neg (by decide)]
         refine ⟨fun _ _ => trivial, hK _ _ ?_⟩
         clear hK K
         refine wpAnyIn_ready (rs := [9]) (by kernel_rfl) (by simp) (AllReadyIn.cons rfl (fun K hK => ?_) AllReadyIn.nil)
         rw [guard_is (c := false) rfl rfl rfl, if_neg (by decide)]
         refine ⟨fun _ _ => trivial, hK _ _ ?_⟩
         clear hK K
         refine wpAnyIn_ready (rs := [10]) (by kernel_rfl) (by simp) (AllReadyIn.cons rfl (fun K hK => ?_) AllReadyIn.nil)
         rw [guard_is (c := false) rfl rfl rfl, if_neg (by decide)]
         refine ⟨fun _ _ => trivial, hK _ _ ?_⟩
         clear hK K
         refine wpAnyIn_ready (rs := [11]) (by kernel_rfl) (by simp) (AllReadyIn.cons rfl (fun K hK => ?_) AllReadyIn.nil)
         rw [guard_is (c := false) rfl rfl rfl, if_neg (by decide)]
         refine ⟨fun _ _ => trivial, hK _ _ ?_⟩
         clear hK K
         refine wpAnyIn_ready (rs := [12]) (by kernel_rfl) (by simp) (AllReadyIn.cons rfl (fun K hK => ?_) AllReadyIn.nil)
         rw [if_pos (guard_none rfl)]
         refine ⟨fun _ _ => trivial, ?_⟩
         go_simp
         refine hK _ _ ?_
         clear hK K
         refine wpAnyIn_done (by kernel_rfl) ?_ _
         gi_wp2
         go_roundw
         case rel => exact ⟨k + 1, pre, by omega, by go_num, by rw [HSN.out, HNO.out, HP.out]; simp, HJ.out _ _ _ none HJS.out (grown_of_below HBX.out none) (by simp), HKX.out⟩
         case measure => simp [intOf]; omega
        ·rw [guard_is (c := false) rfl rfl rfl, if_neg (by decide)]
         refine ⟨fun _ _ => trivial, hK _ _ ?_⟩
         clear hK K
         refine wpAnyIn_ready (rs := [8]) (by kernel_rfl) (by simp) (AllReadyIn.cons rfl (fun K hK => ?_) AllReadyIn.nil)
         rw [guard_is (c := false) rfl rfl rfl, if_neg (by decide)]
         refine ⟨fun _ _ => trivial, hK _ _ ?_⟩
         clear hK K
         refine wpAnyIn_ready (rs := [10]) (by kernel_rfl) (by simp) (AllReadyIn.cons rfl (fun K hK => ?_) AllReadyIn.nil)
         rw [guard_is (c := false) rfl rfl rfl, if_neg (by decide)]
         refine ⟨fun _ _ => trivial, hK _ _ ?_⟩
         clear hK K
         refine wpAnyIn_ready (rs := [11]) (by kernel_rfl) (by simp) (AllReadyIn.cons rfl (fun K hK => ?_) AllReadyIn.nil)
         rw [guard_is (c := false) rfl rfl rfl, if_neg (by decide)]
         refine ⟨fun _ _ => trivial, hK _ _ ?_⟩
         clear hK K
         refine wpAnyIn_ready (rs := [12]) (by kernel_rfl) (by simp) (AllReadyIn.cons rfl (fun K hK => ?_) AllReadyIn.nil)
         rw [if_pos (guard_none rfl)]
         refine ⟨fun _ _ => trivial, ?_⟩
         go_simp
         refine hK _ _ ?_
         clear hK K
         refine wpAnyIn_done (by kernel_rfl) ?_ _
         gi_wp2
         go_roundw
         case rel => exact ⟨k + 1, pre, by omega, by go_num, by rw [HSN.out, HNO.out, HP.out]; simp, HJ.out _ _ _ none HJS.out (grown_of_below HBX.out none) (by simp), HKX.out⟩
         case measure => simp [intOf]; omega
       | true =>
        have HNO := hid (show seenI C now x = some (8, [x.id, x.token, x.version, x.zone, now]) by unfold seenI; rw [HRF.out, if_neg (by have := HFB.out; simp at this; omega)]; exact HSI.out)
        have HJX := hid (HJ.out _ _ _ none HJS.out (grown_of_below HBX.out none) (by simp))
        have HRX := blk_below HRU.out hbw (blk_lt HRU.out)
        have z0 : X.cell? ⟨T14, 0, none⟩ = some (.int .u8 8) := blk_cell HRX 0
        have z1 : X.cell? ⟨T14, 1, none⟩ = some (.slice (some ⟨wr.heap.size + 1, 0, none⟩) 5 5) := blk_cell HRX 1
        have zl := blk_lt HRX
        obtain ⟨fn, tmps, assign, body, hy, hR⟩ := HY.out pre ⟨8, .slice (some ⟨wr.heap.size + 1, 0, none⟩) 5 5, [x.id, x.token, x.version, x.zone, now]⟩ X HJX.out ⟨Owns.below HOU.out hbw, (seenI_kind HNO.out).1⟩ (by have := HP5.out; omega)
        dsimp only [itemR21, recV] at hy
        have HR := hid hR
        clear hR HRX hbw
        refine wpAnyIn_ready (rs := [8, 9]) (by kernel_rfl) (by simp) (AllReadyIn.cons rfl (fun K hK => ?_) (AllReadyIn.cons rfl (fun K hK => ?_) AllReadyIn.nil))
        ·rw [guard_is (c := true) rfl rfl rfl, if_pos (by decide)]
         refine ⟨fun _ _ => trivial, ?_⟩
         go_simp
         refine hK _ _ ?_
         clear hK K
         refine wpAnyIn_ready (rs := [9]) (by kernel_rfl) (by simp) (AllReadyIn.cons rfl (fun K hK => ?_) AllReadyIn.nil)
         rw [guard_is (c := true) rfl rfl rfl, if_pos (by decide)]
         refine ⟨fun _ _ => trivial, ?_⟩
         go_simp
         refine hK _ _ ?_
         clear hK K
         refine wpAnyIn_ready (rs := [10]) (by kernel_rfl) (by simp) (AllReadyIn.cons rfl (fun K hK => ?_) AllReadyIn.nil)
         rw [guard_is (c := true) rfl rfl rfl, if_pos (by decide)]
         refine ⟨fun _ _ => trivial, ?_⟩
         go_simp
         refine HR.out.mono ?_
         rintro e W3 ⟨rfl, hJ3, hk3⟩
         refine hK _ _ ?_
         clear hK K
         refine wpAnyIn_ready (rs := [11]) (by kernel_rfl) (by simp) (AllReadyIn.cons rfl (fun K hK => ?_) AllReadyIn.nil)
         rw [guard_is (c := true) rfl rfl rfl, if_pos (by decide)]
         refine ⟨fun _ _ => trivial, ?_⟩
         go_simp
         refine hK _ _ ?_
         clear hK K
         refine wpAnyIn_ready (rs := [12]) (by kernel_rfl) (by simp) (AllReadyIn.cons rfl (fun K hK => ?_) AllReadyIn.nil)
         rw [if_pos (guard_none rfl)]
         refine ⟨fun _ _ => trivial, ?_⟩
         go_simp
         refine hK _ _ ?_
         clear hK K
         refine wpAnyIn_done (by kernel_rfl) ?_ _
         gi_wp2
         go_roundw
         case rel => exact ⟨k + 1, _, by omega, by go_num, by rw [HSN.out, HNO.out, List.map_append, HP.out, List.append_assoc]; rfl, hJ3, HKX.out.trans hk3⟩
         case measure => simp [intOf]; omega
        ·rw [guard_is (c := true) rfl rfl rfl, if_pos (by decide)]
         refine ⟨fun _ _ => trivial, ?_⟩
         go_simp
         refine hK _ _ ?_
         clear hK K
         refine wpAnyIn_ready (rs := [8]) (by kernel_rfl) (by simp) (AllReadyIn.cons rfl (fun K hK => ?_) AllReadyIn.nil)
         rw [guard_is (c := true) rfl rfl rfl, if_pos (by decide)]
         refine ⟨fun _ _ => trivial, ?_⟩
         go_simp
         refine hK _ _ ?_
         clear hK K
         refine wpAnyIn_ready (rs := [10]) (by kernel_rfl) (by simp) (AllReadyIn.cons rfl (fun K hK => ?_) AllReadyIn.nil)
         rw [guard_is (c := true) rfl rfl rfl, if_pos (by decide)]
         refine ⟨fun _ _ => trivial, ?_⟩
         go_simp
         refine HR.out.mono ?_
         rintro e W3 ⟨rfl, hJ3, hk3⟩
         refine hK _ _ ?_
         clear hK K
         refine wpAnyIn_ready (rs := [11]) (by kernel_rfl) (by simp) (AllReadyIn.cons rfl (fun K hK => ?_) AllReadyIn.nil)
         rw [guard_is (c := true) rfl rfl rfl, if_pos (by decide)]
         refine ⟨fun _ _ => trivial, ?_⟩
         go_simp
         refine hK _ _ ?_
         clear hK K
         refine wpAnyIn_ready (rs := [12]) (by kernel_rfl) (by simp) (AllReadyIn.cons rfl (fun K hK => ?_) AllReadyIn.nil)
         rw [if_pos (guard_none rfl)]
         refine ⟨fun _ _ => trivial, ?_⟩
         go_simp
         refine hK _ _ ?_
         clear hK K
         refine wpAnyIn_done (by kernel_rfl) ?_ _
         gi_wp2
         go_roundw
         case rel => exact ⟨k + 1, _, by omega, by go_num, by rw [HSN.out, HNO.out, List.map_append, HP.out, List.append_assoc]; rfl, hJ3, HKX.out.trans hk3⟩
         case measure => simp [intOf]; omega
    ·obtain rfl : k = L.length := by omega
     have HPE := hid (show pre.map klR = itemsL B L frm now by rw [hp, List.take_length]; unfold itemsL; rw [HC0.out])
     clear hp hJs hK
     gi_wp2
     go_wp2
     go_end0
     exact ⟨⟨_, rfl⟩, pre, HPE.out, HJS.out⟩
end Go.Proofs.YtgcajfglidflnaaGreatDoor

/- reap.Records: what a listing says. -/
namespace Go.Proofs.YtgcajfglidflnaaGreatDoor
open Go.RowKit Go.Shelf
attribute [-go_sem] loadVar storeVar Instr.buildSlice
attribute [local go_sem] load_other store_other Oper.semAt_some

section
variable {base W W' : World} {T : Nat} {B : BrainV}
theorem Owns.apart {α : Type} {k : Nat} {e t : TypeId} {enc : α → List Value} {b : Nat} {v : Value} {l : List α} {row : Option Nat} (h : Owns k e enc W b v l) (hg : W.grownBy W' row) (hr : ∀ r, row = some r → ∃ c, W.heap[r]? = some (.cells c t)) (hne : e ≠ t) : Owns k e enc W' b v l := by
 refine World.ownsRow.kept h hg ?_
 obtain ⟨_, ⟨rfl, _⟩ | ⟨g, cap, cur, rfl, _, hgc, _⟩⟩ := h
 ·exact .inl rfl
 ·refine .inr fun e' => ?_
  obtain ⟨c, hc⟩ := hr g (by rw [← e']; rfl)
  rw [hgc] at hc; cases hc; exact hne rfl
theorem BrVar.own {row : Option Nat} (h : BrVar base W T B) (hg : W.grownBy W' row) (hr : ∀ r, row = some r → ∃ o : Obj, W.heap[r]? = some o ∧ o.isCells = false) : BrVar base W' T B := by
 obtain ⟨mv, iv, kv, h1, h2, h3, h4⟩ := h
 exact ⟨mv, iv, kv, own_blk h1 hg hr, h2.kept (fun b c q => own_blk q hg hr), h3.own hg hr, h4.own hg hr⟩
theorem BrVar.set {p : Nat} {c : Array Value} {t : TypeId} (h : BrVar base W T B) (hp : W.heap[p]? = some (.cells c t)) (hne : t ≠ 33 ∧ t ≠ 3 ∧ t ≠ 54 ∧ t ≠ 51) (j : Nat) (u : Value) : BrVar base (W.setCell ⟨p, j, none⟩ u) T B := by
 obtain ⟨mv, iv, kv, h1, h2, h3, h4⟩ := h
 refine ⟨mv, iv, kv, blk_far h1 (fun e => ?_) u, h2.kept (KeptT.set (p := ⟨p, j, none⟩) hp hne.2.1 u), owns_at h3 hp (Ne.symm hne.2.2.1) j u, owns_at h4 hp (Ne.symm hne.2.2.2) j u⟩
 subst e
 unfold BB at h1
 rw [hp] at h1
 cases h1
 exact hne.1 rfl
theorem BrVar.grown {row : Option Nat} {t : TypeId} (h : BrVar base W T B) (hg : W.grownBy W' row) (hr : ∀ r, row = some r → ∃ c, W.heap[r]? = some (.cells c t)) (hne : t ≠ 33 ∧ t ≠ 3 ∧ t ≠ 54 ∧ t ≠ 51) : BrVar base W' T B := by
 obtain ⟨mv, iv, kv, h1, h2, h3, h4⟩ := h
 refine ⟨mv, iv, kv, blk_grown h1 hg (fun e => ?_), h2.kept (KeptT.grown hg hr hne.2.1), h3.apart hg hr (Ne.symm hne.2.2.1), h4.apart hg hr (Ne.symm hne.2.2.2)⟩
 obtain ⟨c, hc⟩ := hr T e.symm
 unfold BB at h1
 rw [hc] at h1
 cases h1
 exact hne.1 rfl
end
theorem KpR.set {b p : Nat} {W : World} {c : Array Value} {t : TypeId} (hp : W.heap[p]? = some (.cells c t)) (hb : b ≤ p) (ht : t = 33 ∨ t = 70 ∨ t = 44) (j : Nat) (u : Value) : KpR b W (W.setCell ⟨p, j, none⟩ u) := by
 refine ⟨by simp, fun k o hk ho => blk_far hk (fun e => ?_) u⟩
 subst e
 rw [hp] at hk
 cases hk
 rcases ho with ho | ho
 ·omega
 ·exact ho (.inr ⟨_, _, rfl, ht⟩)
theorem KpR.row {b p : Nat} {W : World} {c : Array Value} {t : TypeId} (hp : W.heap[p]? = some (.cells c t)) (hb : b ≤ p) (ht : t = 33 ∨ t = 70 ∨ t = 44) (cs : Array Value) : KpR b W (W.setRow p cs) := by
 refine ⟨by simp, fun k o hk ho => (setRow_other W p k cs (fun e => ?_)).trans hk⟩
 subst e
 rw [hp] at hk
 cases hk
 rcases ho with ho | ho
 ·omega
 ·exact ho (.inr ⟨_, _, rfl, ht⟩)
theorem KpR.grown {b : Nat} {W W' : World} {row : Option Nat} {t : TypeId} (hg : W.grownBy W' row) (hr : ∀ r, row = some r → b ≤ r ∧ ∃ c, W.heap[r]? = some (.cells c t)) (ht : t = 33 ∨ t = 70 ∨ t = 44) : KpR b W W' := by
 refine ⟨hg.size, fun k o hk ho => blk_grown hk hg (fun e => ?_)⟩
 obtain ⟨h1, c, hc⟩ := hr k e.symm
 rw [hc] at hk
 cases hk
 rcases ho with ho | ho
 ·omega
 ·exact ho (.inr ⟨_, _, rfl, ht⟩)
/-- Records in memory, their numbers. -/
def RecsL (w : World) (l : List RecP) (v : Value) : Prop := ∃ R : List RecE, R.map klR = l ∧ RecsR w R v
theorem RecsL.below {w w' : World} {l : List RecP} {v : Value} (h : RecsL w l v) (hb : Below w.heap.size w w') : RecsL w' l v := by
 obtain ⟨R, h1, h2⟩ := h
 exact ⟨R, h1, h2.below hb⟩
theorem toldL_snoc : ∀ (l : List RecP) (B : BrainV) (r : RecP), toldL B (l ++ [r]) = toldL B l ++ (if sameB (applyB (applyL B l) r.1 r.2) (applyL B l) = true then [] else [r])
 | [], B, r => by
  show (if sameB (applyB B r.1 r.2) B = true then [] else [r]) ++ [] = [] ++ _
  rw [List.append_nil, List.nil_append]
  rfl
 | x :: l, B, r => by
  rw [List.cons_append]
  unfold toldL
  rw [toldL_snoc l, List.append_assoc]
  rfl
theorem infoRc : (Tryz.prog.info? 70).map (fun i => (i.zero, i.size, i.bytes)) = some (some (.agg #[.int .u8 0, .slice none 0 0]), 2, 32) := by kernel_rfl
theorem bs_recC (k : Int) (a : Option Addr) (n c : Nat) (w : World) : (Instr.buildSlice 44 1 #[(0, .agg #[.int .u8 k, .slice a n c])]).run Tryz.prog w = .ok (.slice (some ⟨w.heap.size, 0, none⟩) 1 1) (w.alloc (.cells #[.int .u8 k, .slice a n c] 70)) := by kernel_rfl
theorem grown_one {a T : Nat} {w X Y : World} (h1 : Below a w X) (h2 : Below a w Y) (ho : ∀ i, i ≠ T → Y.heap[i]? = X.heap[i]?) (hs : Y.heap.size = X.heap.size) : X.grownBy Y (some T) :=
 ⟨h2.os.trans h1.os.symm, h2.tape.trans h1.tape.symm, h2.output.trans h1.output.symm, by rw [hs]; exact Nat.le_refl _, fun i _ hi => ho i (fun e => hi (by rw [e]))⟩
theorem keeps_one {B T : Nat} {X Y : World} {c : Array Value} {t : TypeId} (hT : X.heap[T]? = some (.cells c t)) (hg : X.grownBy Y (some T)) : KeepsFrom B X Y :=
 ⟨hg.size, fun k o _ hk ho => blk_grown hk hg (fun e => by cases e; rw [hT] at hk; cases hk; cases ho)⟩
theorem kpr_one {b T : Nat} {X Y : World} {c : Array Value} (hb : b ≤ T) (hT : X.heap[T]? = some (.cells c 33)) (hg : X.grownBy Y (some T)) : KpR b X Y := KpR.grown hg (fun r e => by cases e; exact ⟨hb, _, hT⟩) (.inl rfl)
/-- What Records has done. -/
structure RdI (B : BrainV) (w w2 : World) (pre : List RecE) (W : World) : Prop where
 br : BrVar w W w.heap.size (applyAll B pre)
 row : ∃ v R, W.heap[w.heap.size + 1 + 1]? = some (.cells #[v] 44) ∧ R.map klR = toldL B (pre.map klR) ∧ Owns 2 70 encR W w2.heap.size v R ∧ (∀ r ∈ R, OwnI W w2.heap.size r.s r.L) ∧ R.length ≤ pre.length
 bel : Below w.heap.size w W
 sz : w2.heap.size ≤ W.heap.size
theorem RdI.own {B : BrainV} {w w2 : World} {b : Nat} (hB : w2.heap.size ≤ b) (hw : w.heap.size ≤ w2.heap.size) : OwnFrom b (RdI B w w2) := by
 rintro pre W W' row ⟨h1, ⟨v, R, h2, h3, h4, h5, h6⟩, h7, h8⟩ hg hr
 have hr' : ∀ r, row = some r → ∃ o : Obj, W.heap[r]? = some o ∧ o.isCells = false := fun r e => (hr r e).2
 exact ⟨h1.own hg hr', ⟨v, R, own_blk h2 hg hr', h3, h4.own hg hr', fun r hm => (h5 r hm).own hg hr', h6⟩, h7.grown hg h7.size (fun k e => Nat.le_trans (Nat.le_trans hw hB) (hr k e).1), Nat.le_trans h8 hg.size⟩
def RdA (w w2 : World) (x : RecE) (a' : Act) (W : World) : Prop :=
 ∃ (Bx : Nat) (u0 u1 u2 u4 u5 u8 u9 u10 u11 u12 u13 u14 u15 u16 u17 u18 u19 u20 u21 u22 u23 u24 u25 u26 u27 u28 u29 : Value), w2.heap.size ≤ Bx ∧ W.heap[Bx]? = some (.cells #[.int .u8 x.k, x.s] 70) ∧ OwnI W w2.heap.size x.s x.L ∧ kindR (klR x) ∧ a' = { tmps := #[u0, u1, u2, .pointer (some ⟨w.heap.size, 0, none⟩), u4, u5, .pointer (some ⟨w.heap.size + 1 + 1, 0, none⟩), .pointer (some ⟨Bx, 0, none⟩), u8, u9, u10, u11, u12, u13, u14, u15, u16, u17, u18, u19, u20, u21, u22, u23, u24, u25, u26, u27, u28, u29], defers := [] }
theorem RdA.own {w w2 : World} {b : Nat} (x : RecE) (a' : Act) : OwnFrom b (fun (_ : Unit) W => RdA w w2 x a' W) := by
 rintro _ W W' row ⟨Bx, u0, u1, u2, u4, u5, u8, u9, u10, u11, u12, u13, u14, u15, u16, u17, u18, u19, u20, u21, u22, u23, u24, u25, u26, u27, u28, u29, h1, h2, h3, h5, h4⟩ hg hr
 exact ⟨Bx, u0, u1, u2, u4, u5, u8, u9, u10, u11, u12, u13, u14, u15, u16, u17, u18, u19, u20, u21, u22, u23, u24, u25, u26, u27, u28, u29, h1, own_blk h2 hg (fun r e => (hr r e).2), h3.own hg (fun r e => (hr r e).2), h5, h4⟩
theorem new_cellsR (W : World) (k : Int) (s : Value) (L : List Int) (t : TypeId) : ∀ j u, (encR ⟨k, s, L⟩)[j]? = some u → (W.alloc (.cells #[.int .u8 k, s] t)).cell? ((⟨W.heap.size, 0, none⟩ : Addr).add j) = some u := by
 intro j u hj
 rw [show ((⟨W.heap.size, 0, none⟩ : Addr).add j) = ⟨W.heap.size, j, none⟩ by unfold Addr.add; split <;> simp_all]
 rw [blk_cell (heap_new W _)]
 simpa [encR] using hj
theorem encR_oneA (k : Int) (a : Option Addr) (n c : Nat) (L : List Int) : ∀ u ∈ encR ⟨k, .slice a n c, L⟩, u.oneCell' = true := by
 intro u hu
 simp only [encR, List.mem_cons, List.not_mem_nil, or_false] at hu
 rcases hu with rfl | rfl <;> rfl
theorem res_recs {fn : Func} {tmps : Array Value} {r : Tmp} {b : Nat} {v : Value} {t : TypeId} {W : World} (hres : fn.results = #[.cell r 44]) (h : tmps.getD r undef = .pointer (some ⟨b, 0, none⟩)) (hb : W.heap[b]? = some (.cells #[v] t)) :
  (results fn tmps).run Tryz.prog W = .ok v W := by
 have k0 := blk_cell hb 0
 simp only [List.getElem?_toArray, List.getElem?_cons_zero] at k0
 rw [Array.getD_eq_getD_getElem?] at h
 simp [results, hres, go_sem, h, k0]
/-- Behind an append of a record: the slice's box, then the brain's, are stored. -/
theorem rd_app {w w2 W X9 w1 : World} {T8 n : Nat} {C D : BrainV} {lv v' : Value} {R : List RecE} {y : RecE} {o : Array Value} (h8 : BrVar W X9 T8 D) (hT : BrVar w X9 w.heap.size C) (hb9 : Below w.heap.size w X9) (hle : w.heap.size ≤ W.heap.size)
  (hl1 : X9.heap[w.heap.size + 1 + 1]? = some (.cells #[lv] 44)) (hown : w1.ownsRow w2.heap.size 70 2 v' n (R.flatMap encR ++ encR y)) (hgr : (X9.alloc (.cells o 70)).grownBy w1 lv.ownBlock) (hlv : ∀ g, lv.ownBlock = some g → w2.heap.size ≤ g ∧ ∃ c, X9.heap[g]? = some (.cells c 70)) (hTl : w.heap.size + 1 + 1 < w2.heap.size) (_hx9 : w2.heap.size ≤ X9.heap.size) (hn : n = R.length + 1 := by rfl) :
  ∃ u' X10, (loadVar 33 ⟨T8, 0, none⟩).run Tryz.prog (w1.setCell ⟨w.heap.size + 1 + 1, 0, none⟩ v') = .ok u' (w1.setCell ⟨w.heap.size + 1 + 1, 0, none⟩ v') ∧ (storeVar 33 ⟨w.heap.size, 0, none⟩ u').run Tryz.prog (w1.setCell ⟨w.heap.size + 1 + 1, 0, none⟩ v') = .ok () X10 ∧ T8 < w1.heap.size ∧
   w1.heap[w.heap.size + 1 + 1]? = some (.cells #[lv] 44) ∧
   BrVar w X10 w.heap.size D ∧ Below w.heap.size w X10 ∧ X10.heap[w.heap.size + 1 + 1]? = some (.cells #[v'] 44) ∧ Owns 2 70 encR X10 w2.heap.size v' (R ++ [y]) ∧ (∀ s l, OwnI X9 w2.heap.size s l → OwnI X10 w2.heap.size s l) ∧ KeepsFrom w2.heap.size X9 X10 ∧ KpR w.heap.size X9 X10 ∧ X9.heap.size ≤ X10.heap.size := by
 have hal : Below X9.heap.size X9 (X9.alloc (.cells o 70)) := (Below.refl _ _).alloc (Nat.le_refl _) _
 have hrow : ∀ r, lv.ownBlock = some r → ∃ c, (X9.alloc (.cells o 70)).heap[r]? = some (.cells c 70) := fun r e => by
  obtain ⟨_, c, hc⟩ := hlv r e
  exact ⟨c, blk_alloc hc _⟩
 have hq : w1.heap[w.heap.size + 1 + 1]? = some (.cells #[lv] 44) := blk_grown (blk_alloc hl1 _) hgr (fun e => by have := (hlv _ e.symm).1; omega)
 have hq' : (w1.setCell ⟨w.heap.size + 1 + 1, 0, none⟩ v').heap[w.heap.size + 1 + 1]? = some (.cells #[v'] 44) := by simpa using blk_set hq 0 v'
 have b8 := ((h8.below hal).grown hgr hrow (by decide)).set hq (by decide) 0 v'
 have bT := ((hT.below hal).grown hgr hrow (by decide)).set hq (by decide) 0 v'
 have hb1 : Below w.heap.size w w1 := (hb9.alloc hb9.size _).grown hgr (Nat.le_trans hb9.size (by simp)) (fun r e => by have := (hlv r e).1; omega)
 have hbZ : Below w.heap.size w (w1.setCell ⟨w.heap.size + 1 + 1, 0, none⟩ v') := hb1.setCell (p := ⟨w.heap.size + 1 + 1, 0, none⟩) (by simp; omega) _
 obtain ⟨u', hu⟩ := b8.is
 obtain ⟨mT, iT, kT, hTb, _⟩ := bT
 obtain ⟨X10, hst, _, hbv, hbx, hXo, hXs⟩ := brEnd_store (W := w) ((b8.end hu).base hle) hTb rfl hbZ (Nat.le_refl _)
 have hg10 := grown_one hbZ hbx hXo hXs
 have hT8 : T8 < w1.heap.size := by have := hu.lt; simpa using this
 have hk1 : KeepsFrom w2.heap.size X9 w1 := ⟨Nat.le_trans hal.size hgr.size, fun k ob hB hk ho => blk_grown (blk_alloc hk _) hgr (fun e => by
  obtain ⟨c, hc⟩ := (hlv k e.symm).2
  rw [hc] at hk
  cases hk
  cases ho)⟩
 have hk2 : KpR w.heap.size X9 w1 := (KpR.below hal).trans (KpR.grown hgr (fun r e => ⟨by have := (hlv r e).1; omega, hrow r e⟩) (.inr (.inl rfl)))
 refine ⟨u', X10, hu.load, hst, hT8, hq, hbv, hbx, (hXo _ (by omega)).trans hq', ?_, fun s l h => ?_, ?_, ?_, ?_⟩
 ·refine Owns.apart (t := 33) ?_ hg10 (fun r e => by cases e; exact ⟨_, hTb⟩) (by decide)
  refine owns_at (t := 44) ?_ hq (by decide) 0 _
  unfold Owns
  subst hn
  simpa [List.flatMap_append] using hown
 ·refine Owns.apart (t := 33) ?_ hg10 (fun r e => by cases e; exact ⟨_, hTb⟩) (by decide)
  exact owns_at (Owns.apart (Owns.below h hal) hgr hrow (by decide)) hq (by decide) 0 _
 ·exact (hk1.trans ((KeepsOthers.setCell _ _ _).from _)).trans (keeps_one hTb hg10)
 ·exact (hk2.trans (KpR.set hq (by omega) (.inr (.inr rfl)) 0 _)).trans (kpr_one (Nat.le_refl _) hTb hg10)
 ·have := hk1.size
  rw [hXs]
  simpa using this
set_option maxRecDepth 100000 in
set_option maxHeartbeats 8000000 in
theorem reap_any (B : BrainV) (bv : Array Value) (on : Bool) (frm beh now : Int) (sv : Value) (L : List SeenV) (w : World) (hB : BrIs w B (.agg bv)) (hs : RowS w sv L) (hF : Fine B 100) (hlL : L.length ≤ 60) (hlM : B.M.length ≤ 100000) (hC : Changes w) (hL : Limits w) :
  Calls Tryz.prog 11 #[.agg bv, .agg #[.bool on, .int .i64 frm, .int .i64 beh, sv], .int .i64 now] w fun e w' => ∃ v, e = .returned v ∧ RecsL w' (recordsL B L frm now) v ∧ Below w.heap.size w w' := by
 obtain ⟨r0, hr0, hr1, hr2, hr3⟩ := info_parts infoRc
 have HI0 := hid hr0
 have HI1 := hid hr1
 have HI2 := hid hr2
 have HI3 := hid hr3
 clear hr0 hr1 hr2 hr3
 obtain ⟨sa, sc, rfl, _⟩ := hs.open
 obtain ⟨W1, hW1⟩ : ∃ W1, W1 = ((w.alloc (.cells bv 33)).alloc (.cells #[.bool on, .int .i64 frm, .int .i64 beh, .slice sa L.length sc] 39)).alloc (.cells #[.slice none 0 0] 44) := ⟨_, rfl⟩
 have hb1 : Below w.heap.size w W1 := by rw [hW1]; exact (((Below.refl _ _).alloc (Nat.le_refl _) _).alloc (by simp) _).alloc (by simp; omega) _
 have n0 : BB W1 w.heap.size bv := by rw [hW1]; exact blk_alloc (blk_alloc (heap_new _ _) _) _
 have n1 : W1.heap[w.heap.size + 1]? = some (.cells #[.bool on, .int .i64 frm, .int .i64 beh, .slice sa L.length sc] 39) := by rw [hW1]; exact blk_alloc (heap_new2 _ _ _) _
 have n2 : W1.heap[w.heap.size + 1 + 1]? = some (.cells #[.slice none 0 0] 44) := by rw [hW1]; simpa using heap_new2 (w.alloc _) _ _
 obtain ⟨mv, iv, kv, e, h1, h2, h3⟩ := hB
 have HV := hid (show VarIs W1 w.heap.size B (.agg bv) from by cases e; exact ⟨mv, iv, kv, rfl, n0, h1.below hb1, h2.below hb1, h3.below hb1⟩)
 have hbz : bv.size = 27 := by cases e; rfl
 have HBZ := hid hbz
 have HW1 := hid hW1
 have HB1 := hid hb1
 have N0 := hid n0
 have N1 := hid n1
 have N2 := hid n2
 have HS := hid hs
 have HF := hid hF
 have HC := hid hC
 have HL := hid hL
 clear e h1 h2 h3 n0 n1 n2 hb1 hW1 hs hF hC hL hbz
 refine (callsIn_wide (n := 4)).1 ?_
 refine callsIn_of_wp_marks Tryz.func11 rfl trivial ?_ rfl
 simp only [Tryz.ntmps11, List.size_toArray, List.length_cons, List.length_nil, Nat.reduceAdd, Nat.reduceSub, Array.replicate_succ, Array.replicate_zero, List.push_toArray, List.append_toArray, List.nil_append, List.cons_append]
 refine wpIn_wide.2 ?_
 go_upto_region 1 with (fail)
 rw [← HW1.out]
 have hld := HV.out.load
 go_wp2_with fail
 refine (own_is HV.out.is (by omega) (by have := HF.out.1; omega) (by have := HF.out.2.1; omega)).mono ?_
 rintro e V0 ⟨u0, rfl, hend, hb⟩
 obtain ⟨X, hst, hvar, hbvr, hbx, hXo, hXs⟩ := brEnd_store (W := w) hend (blk_below N0.out hb (blk_lt N0.out)) HBZ.out (HB1.out.trans (hb.mono HB1.out.size)) (Nat.le_refl _)
 have X1 := hid ((hXo (w.heap.size + 1) (by omega)).trans (blk_below N1.out hb (blk_lt N1.out)))
 have X2 := hid ((hXo (w.heap.size + 1 + 1) (by omega)).trans (blk_below N2.out hb (blk_lt N2.out)))
 have HBV := hid (show BrVar w X w.heap.size B by obtain ⟨_, _, _, g0, g1, g2, g3⟩ := hbvr; exact ⟨_, _, _, g0, g1, g2.mono HB1.out.size, g3.mono HB1.out.size⟩)
 have HBX := hid hbx
 clear hend hb hvar hbvr hXo hXs hbx hld HV N0 N1 N2 HB1 HW1
 have s0 : X.cell? ⟨w.heap.size + 1, 0, none⟩ = some (.bool on) := blk_cell X1.out 0
 have s1 : X.cell? ⟨w.heap.size + 1, 1, none⟩ = some (.int .i64 frm) := blk_cell X1.out 1
 have s2 : X.cell? ⟨w.heap.size + 1, 2, none⟩ = some (.int .i64 beh) := blk_cell X1.out 2
 have s3 : X.cell? ⟨w.heap.size + 1, 3, none⟩ = some (.slice sa L.length sc) := blk_cell X1.out 3
 have sl := blk_lt X1.out
 go_wp2_with fail
 refine (records_make w.heap.size on frm beh (nowL now) sa L.length sc X).mono ?_
 rintro e w2 ⟨rfl, p1, p2, p3, pb⟩
 obtain ⟨Bp, hBp⟩ : ∃ q, X.heap.size = q := ⟨_, rfl⟩
 rw [hBp] at p1 p2 p3 ⊢
 ·have hbw2 := HBX.out.trans (pb.mono HBX.out.size)
  have hrb : RowB w.heap.size w2 (.slice sa L.length sc) L := ⟨HS.out.below hbw2, fun b' off n c he hn => by
   cases he
   rcases HS.out with ⟨_, _, he, rfl, _⟩ | ⟨_, b1, o1, c1, he, _, _, hbl, _⟩
   ·simp at hn
   ·cases he; exact hbl⟩
  have HSEQ := hid (records_all 3 (by omega) w.heap.size w.heap.size Bp B on frm beh (nowL now) (.slice sa L.length sc) L w2 hbw2.size p1 p2 p3 hrb (by have := HF.out.2.1; omega) (by have := HF.out.1; omega) HF.out.2.2 hlL (by have := HF.out.2.1; omega))
  have HBW := hid hbw2
  have HI := hid (show RdI B w w2 [] w2 from ⟨HBV.out.below pb, ⟨_, [], blk_below X2.out pb (blk_lt X2.out), rfl, Owns.nil _ _, (fun r hr => by cases hr), Nat.le_refl _⟩, hbw2, Nat.le_refl _⟩)
  have hTl : w.heap.size + 1 + 1 < w2.heap.size := blk_lt (blk_below X2.out pb (blk_lt X2.out))
  have hbr := bs_recC
  clear p1 p2 p3 pb hbw2 hrb hBp s0 s1 s2 s3 sl X1 X2 HBV HBX hst
  go_wp2_with fail
  refine (wpIn_wide (n := 4)).1 ?_
  refine range_allZ rfl (by omega) (gf := 38) (lb := #[.pointer (some ⟨Bp + 1, 0, none⟩), .pointer (some ⟨Bp, 0, none⟩), .pointer (some ⟨Bp + 1 + 1, 0, none⟩)]) rfl trivial (enters_of Tryz.func38 (by kernel_rfl) rfl)
   HSEQ.out (fun h k => h.trans k) (fun W l r r' hl h => KpR.put r' (by omega) h) (Below.refl _ _) (fun _ => rfl)
   (RdI B w w2) (RdI.own (Nat.le_refl _) (by omega)) HI.out (fun pre W h => h.br.is)
   (RdA w w2) (fun x a' => RdA.own x a') ?assign ?body ?done
  case assign =>
   rintro l pre ⟨xk, xs, xL⟩ W K hI ⟨hG, hkd⟩ hlt hK
   obtain ⟨xa, xn, xc, hxs⟩ := Owns.shape hG
   dsimp only at hxs
   subst hxs
   have HK := hid hK
   have HIW := hid hI
   have HG := hid hG
   have HKD := hid hkd
   clear hK hI hG hkd HSEQ
   simp only [itemR21, recV]
   gi_wp2
   have hal : Below W.heap.size W (W.alloc (.cells #[.int .u8 xk, .slice xa xn xc] 70)) := (Below.refl _ _).alloc (Nat.le_refl _) _
   exact HK.out _ _ ((KeepsOthers.alloc _ _).from _) (KpR.below hal) ((RdI.own (Nat.le_refl _) (by omega)).alloc _ HIW.out) ⟨W.heap.size, _, _, _, _, _, _, _, _, _, _, _, _, _, _, _, _, _, _, _, _, _, _, _, _, _, _, _, HIW.out.sz, heap_new W _, Owns.below HG.out hal, HKD.out, rfl⟩
  case body =>
   rintro l pre ⟨xk, xs, xL⟩ a' W hl hI ⟨Bx, u0, u1, u2, u4, u5, u8, u9, u10, u11, u12, u13, u14, u15, u16, u17, u18, u19, u20, u21, u22, u23, u24, u25, u26, u27, u28, u29, hBx, bx, hG, hkd, rfl⟩ hlt
   dsimp only at bx hG
   obtain ⟨xa, xn, xc, hxs⟩ := Owns.shape hG
   subst hxs
   obtain ⟨C, hC⟩ : ∃ C, applyAll B pre = C := ⟨_, rfl⟩
   have hbrv := hI.br
   rw [hC] at hbrv
   obtain ⟨v, hv⟩ := hbrv.is
   obtain ⟨lv, R, q1, q2, q3, q4, q5⟩ := hI.row
   obtain ⟨la, ln, lc, rfl⟩ := Owns.shape q3
   have hplen : pre.length < 160 := by have := HF.out.2.1; omega
   have hfine : Fine C 900 := by rw [← hC]; exact HF.out.all pre (by omega)
   have hCM : C.M.length ≤ 100000 := by rw [← hC]; exact appM (by omega) pre hlM
   have hxl : xL.length ≤ 5 := by have := hkd; unfold kindR klR at this; dsimp only at this; omega
   have HAP := hid (apply_is xk xL 900 (r := .agg #[.int .u8 xk, .slice xa xn xc]) hv.is ⟨_, rfl, hG.row (fun _ => rfl) (by decide)⟩ hfine (by omega) (by omega) (by omega) (HC.out.below hI.bel) (HL.out.below hI.bel))
   have hld := hv.load
   obtain ⟨g0, g1, _, gl⟩ := blk2 bx
   have htl := hv.lt
   have HV := hid hv
   have HBRV := hid hbrv
   have HIW := hid hI
   have HCC := hid hC
   have Q1 := hid q1
   have Q2 := hid q2
   have Q3 := hid q3
   have Q4 := hid q4
   have Q5 := hid q5
   have HG := hid hG
   have HBX := hid bx
   have HPL := hid hplen
   clear hI hC hbrv hv q1 q2 q3 q4 q5 hfine hCM hxl hkd bx hplen HSEQ HI
   gi_wp2_with fail
   refine ⟨trivial, (CallsIn.inRound l (callsIn_wide.2 HAP.out)).mono ?_⟩
   rintro e V ⟨u, rfl, hend, hb⟩
   obtain ⟨D, hD⟩ : ∃ D, applyB C xk xL = D := ⟨_, rfl⟩
   rw [hD] at hend
   have hal : Below V.heap.size V (V.alloc (.cells zeroBr 33)) := (Below.refl _ _).alloc (Nat.le_refl _) _
   obtain ⟨X8, hst8, hvar8, hbv8, hbx8, hXo8, hXs8⟩ := brEnd_store (W := W) (hend.below hal) (heap_new V _) rfl (hb.trans (hal.mono hb.size)) hb.size
   replace hst8 : (storeVar 33 ⟨V.heap.size, 0, none⟩ u).run Tryz.prog (V.alloc (.cells #[.int .i64 0, .int .i64 0, .bool false, .int .i64 0, .int .i64 0, .int .i64 0, .int .i64 0, .int .i64 0, .int .i64 0, .int .i64 0, .int .i64 0, .int .i64 0, .int .i64 0, .int .i64 0, .int .i64 0, .int .i64 0, .bool false, .slice none 0 0, .slice none 0 0, .slice none 0 0, .int .u8 0, .int .i64 0, .int .i64 0, .int .i64 0, .bool false, .int .i64 0, .int .i64 0] 33)) = .ok () X8 := hst8
   have hld8 := hvar8.load
   have hld9 := (HV.out.below hbx8).load
   obtain ⟨sb, hsb⟩ : ∃ q, sameB D C = q := ⟨_, rfl⟩
   have HSM := hid (bsame_is sb hsb hvar8.is (HV.out.below hbx8).is)
   have HSB := hid hsb
   have HDD := hid hD
   have HV8 := hid hvar8
   have HBV8 := hid hbv8
   have HBX8 := hid hbx8
   have ht8 : V.heap.size < X8.heap.size := hvar8.lt
   have htl8 : w.heap.size < X8.heap.size := (HV.out.below hbx8).lt
   have HTW := hid (show W.heap.size ≤ V.heap.size from hb.size)
   clear hend hal hvar8 hbv8 hbx8 hXo8 hXs8 hsb hD hb
   gi_wp2_with fail
   refine ⟨trivial, (CallsIn.inRound l (callsIn_wide.2 HSM.out)).mono ?_⟩
   rintro e X9 ⟨rfl, hb9⟩
   obtain ⟨T8, hT8⟩ : ∃ T, V.heap.size = T := ⟨_, rfl⟩
   rw [hT8] at HV8 HBV8 HTW ⊢
   clear hst8 hld8 hld9 hT8 ht8 htl8 hld g0 g1 gl htl
   have hb9W := HBX8.out.trans (hb9.mono HBX8.out.size)
   have hbT := HBRV.out.below hb9W
   have hv9 := HV8.out.below hb9
   have hbv9 := HBV8.out.below hb9
   have HB9 := hid hb9W
   have HBT := hid hbT
   have HV9 := hid hv9
   have HBV9 := hid hbv9
   have L1 := hid (blk_below Q1.out hb9W (blk_lt Q1.out))
   have L3 := hid (Owns.below Q3.out hb9W)
   have L4 := hid (show ∀ r ∈ R, OwnI X9 w2.heap.size r.s r.L from fun r hr => Owns.below (Q4.out r hr) hb9W)
   have LG := hid (Owns.below HG.out hb9W)
   have LX := hid (blk_below HBX.out hb9W (blk_lt HBX.out))
   have hbel9 := HIW.out.bel.trans (hb9W.mono HIW.out.bel.size)
   have HBEL := hid hbel9
   have hsnoc : applyAll B (pre ++ [⟨xk, .slice xa xn xc, xL⟩]) = D := by
    rw [← HDD.out, ← HCC.out]
    unfold applyAll
    rw [List.foldl_append]
    rfl
   have htold := toldL_snoc (pre.map klR) B (xk, xL)
   rw [← applyAll_L, HCC.out, HDD.out, HSB.out] at htold
   have HSNOC := hid hsnoc
   have HTOLD := hid (show toldL B ((pre ++ [(⟨xk, .slice xa xn xc, xL⟩ : RecE)]).map klR) = toldL B (pre.map klR) ++ (if sb = true then [] else [(xk, xL)]) from by rw [List.map_append]; exact htold)
   have HK9 := hid (show KeepsFrom w2.heap.size W X9 from ⟨hb9W.size, fun k o _ hk _ => blk_below hk hb9W (blk_lt hk)⟩)
   clear hb9 hb9W hbT hv9 hbv9 hbel9 hsnoc htold HSM HAP HV HBX8
   cases sb with
   | true =>
    obtain ⟨mT, iT, kT, hTb, _⟩ := HBT.out
    obtain ⟨X10, hst10, _, hbv10, hbx10, hXo10, hXs10⟩ := brEnd_store (W := w) ((HBV9.out.end HV9.out).base HIW.out.bel.size) hTb rfl HBEL.out (Nat.le_refl _)
    have hld8 := HV9.out.load
    have ht8 := HV9.out.lt
    have hg := grown_one HBEL.out hbx10 hXo10 hXs10
    have HTB := hid hTb
    have HBV10 := hid hbv10
    have HBX10 := hid hbx10
    have HO10 := hid hXo10
    have HS10 := hid hXs10
    have HGR := hid hg
    clear hTb hbv10 hbx10 hXo10 hXs10 hg
    gi_wp2
    refine ⟨rfl, HK9.out.trans (keeps_one HTB.out HGR.out), (KpR.below HB9.out).trans (kpr_one (by omega) HTB.out HGR.out), ⟨by rw [HSNOC.out]; exact HBV10.out, ⟨_, R, (HO10.out _ (by omega)).trans L1.out, by rw [Q2.out, HTOLD.out]; simp, Owns.apart L3.out HGR.out (fun r e => by cases e; exact ⟨_, HTB.out⟩) (by decide), fun r hr => Owns.apart (L4.out r hr) HGR.out (fun r e => by cases e; exact ⟨_, HTB.out⟩) (by decide), by have := Q5.out; simp; omega⟩, HBX10.out, by have := HS10.out; have := HB9.out.size; have := HIW.out.sz; omega⟩⟩
   | false =>
    obtain ⟨l0, lf, ll⟩ := blk1 L1.out
    obtain ⟨g0, g1, _, gl⟩ := blk2 LX.out
    have hRl : R.length ≤ 160 := by have := Q5.out; have := HPL.out; omega
    have hx9 : w2.heap.size ≤ X9.heap.size := Nat.le_trans HIW.out.sz HB9.out.size
    have HTY := hid (fun g e => (⟨(Owns.block L3.out g e).1, Owns.typed L3.out g e⟩ : w2.heap.size ≤ g ∧ ∃ c, X9.heap[g]? = some (.cells c 70)))
    gi_wp2_with (gi_at_builtin; refine wpListIn_append_own _ rfl _ _ 44 rfl w2.heap.size 70 r0 _ 2 32 Tryz.underlying44 HI0.out HI1.out HI2.out HI3.out rfl (by decide) _ R.length _ rfl (World.ownsRow.alloc L3.out _) ⟨X9.heap.size, 0, none⟩ 1 1 (encR ⟨xk, .slice xa xn xc, xL⟩) rfl rfl (new_cellsR X9 xk _ xL _) (encR_oneA xk xa xn xc xL) (by unfold maxLen; omega) (by omega) (by simp; omega) ?_; intro v' w1 hown' hgrow _; obtain ⟨g', cap', rfl⟩ := ownsRow_succ hown'; obtain ⟨u', X10, hldZ, hstZ, hlZ, hq, hrest⟩ := rd_app HBV9.out HBT.out HBEL.out HIW.out.bel.size L1.out hown' hgrow HTY.out hTl hx9; have hq0 := (blk1 hq).1; have hqf := (blk1 hq).2.1; have hql := (blk1 hq).2.2; have HREST := hid hrest; clear hown' hgrow hrest hq)
    obtain ⟨z1, z2, z3, z4, z5, z6, z7, z8⟩ := HREST.out
    refine ⟨rfl, HK9.out.trans z6, (KpR.below HB9.out).trans z7, ⟨by rw [HSNOC.out]; exact z1, ⟨_, R ++ [⟨xk, .slice xa xn xc, xL⟩], z3, by rw [List.map_append, Q2.out, HTOLD.out]; rfl, z4, ?_, by have := Q5.out; simp; omega⟩, z2, Nat.le_trans hx9 z8⟩⟩
    intro r hr
    rcases List.mem_append.1 hr with hr | hr
    ·exact z5 _ _ (L4.out r hr)
    ·simp only [List.mem_singleton] at hr
     subst hr
     exact z5 _ _ LG.out
  case done =>
   rintro D xs W hD hS hI hDD
   obtain ⟨lv, R, q1, q2, q3, q4, q5⟩ := hI.row
   obtain ⟨la, ln, lc, rfl⟩ := Owns.shape q3
   obtain ⟨l0, lf, ll⟩ := blk1 q1
   have hne : D ≠ w.heap.size + 1 + 1 := by omega
   have xd := (Below.heap_setCell W ⟨w.heap.size + 1 + 1, 0, none⟩ (.slice la ln lc) D (by simpa using hne)).trans hDD
   have XD := hid xd
   have HDS := hid (show w.heap.size ≤ D by have := hI.bel.size; omega)
   have HBL := hid hI.bel
   have Q1 := hid q1
   have Q2 := hid (show R.map klR = recordsL B L frm now by rw [q2, hS]; rfl)
   have Q3 := hid q3
   have Q4 := hid q4
   clear hI hS hDD q1 q2 q3 q4 q5 xd HSEQ hne HI
   dsimp only
   go_wp2
   refine ⟨by simp, .inl ⟨_, _, rfl, run_takeDeferred XD.out, ?_⟩⟩
   refine ⟨_, res_recs rfl rfl (blk_put (blk_set Q1.out 0 _) XD.out rfl _), _, rfl, ⟨R, Q2.out, ?_, fun r hr => ?_⟩, below_put (HBL.out.setCell (p := ⟨w.heap.size + 1 + 1, 0, none⟩) (by simp; omega) _) HDS.out _⟩
   ·exact (Owns.own (owns_at Q3.out Q1.out (by decide) 0 _) (grownBy_putObj' _ D (.deferred none)) (fun r e => by cases e; exact ⟨_, XD.out, rfl⟩)).row (fun _ => rfl) (by decide)
   ·exact (Owns.own (owns_at (Q4.out r hr) Q1.out (by decide) 0 _) (grownBy_putObj' _ D (.deferred none)) (fun r e => by cases e; exact ⟨_, XD.out, rfl⟩)).row (fun _ => rfl) (by decide)
end Go.Proofs.YtgcajfglidflnaaGreatDoor
