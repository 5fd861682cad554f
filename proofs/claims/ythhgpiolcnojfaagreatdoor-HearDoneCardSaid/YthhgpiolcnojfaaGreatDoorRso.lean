import Derived.Test.YthhgpiolcnojfaaGreatDoorHsm
import Derived.Test.YthhgpiolcnojfaaGreatDoorRfm
import Derived.Deep.Cut
import Derived.Test.YthhgpiolcnojfaaGreatDoorGtm
import Derived.Test.YthhgpiolcnojfaaGreatDoorHpl
import Derived.Test.YthhgpiolcnojfaaGreatDoorIsm
/- herdref22.Says, Heard: what an answer says, by definition. -/
namespace Go.Proofs.YthhgpiolcnojfaaGreatDoor
open Go.RowKit Go.Shelf

theorem SEnd.ret {k : Int} {l : List Int} {w w' : World} {e : Ending} (h : SEnd (some (k, l)) w e w') : ∃ va vn vc, e = .returned (.tuple #[.agg #[.int .u8 k, .slice va vn vc], .bool true]) ∧ OwnI w' w.heap.size (.slice va vn vc) l ∧ Below w.heap.size w w' := by
 rcases h with ⟨h, _⟩ | ⟨k', l', v, h, rfl, ho, hb⟩
 ·cases h
 ·cases h
  obtain ⟨va, vn, vc, rfl⟩ := ho.shape
  exact ⟨va, vn, vc, rfl, ho, hb⟩
end Go.Proofs.YthhgpiolcnojfaaGreatDoor

/- herdref02.Same, herdlaw22.recs: records that are equal. -/
namespace Go.Proofs.YthhgpiolcnojfaaGreatDoor
open Go.RowKit Go.Shelf

end Go.Proofs.YthhgpiolcnojfaaGreatDoor

/- herdref20.asked, Of, Is: what is asked, by definition. -/
namespace Go.Proofs.YthhgpiolcnojfaaGreatDoor
open Go.RowKit Go.Shelf
attribute [-go_sem] loadVar
attribute [local go_sem] load_other

set_option maxHeartbeats 400000 in
theorem dasked20_any (p : Int) (w : World) : Calls Tryz.prog 79 #[.int .u8 p] w fun e w' => e = .returned (.int .u8 (askedK p)) ∧ w = w' := by
 obtain ⟨q, hq⟩ : ∃ q, askedK p = q := ⟨_, rfl⟩
 rw [hq]
 unfold askedK at hq
 by_cases h3 : p = 3
 ·subst h3
  obtain rfl : (4 : Int) = q := by rw [← hq]; decide
  go_enter Tryz.func79, Tryz.ntmps79
  go_wp2
  go_ret
  exact ⟨rfl, rfl⟩
 by_cases h5 : p = 5
 ·subst h5
  obtain rfl : (5 : Int) = q := by rw [← hq]; decide
  go_enter Tryz.func79, Tryz.ntmps79
  go_wp2
  go_ret
  exact ⟨rfl, rfl⟩
 by_cases h8 : p = 8
 ·subst h8
  obtain rfl : (6 : Int) = q := by rw [← hq]; decide
  go_enter Tryz.func79, Tryz.ntmps79
  go_wp2
  go_ret
  exact ⟨rfl, rfl⟩
 by_cases h10 : p = 10
 ·subst h10
  obtain rfl : (2 : Int) = q := by rw [← hq]; decide
  go_enter Tryz.func79, Tryz.ntmps79
  go_wp2
  go_ret
  exact ⟨rfl, rfl⟩
 have hq0 : q = 0 := by rw [← hq, if_neg h3, if_neg h5, if_neg h8, if_neg h10]
 subst hq0
 have e3 : (p == 3) = false := by simpa using h3
 have e5 : (p == 5) = false := by simpa using h5
 have e8 : (p == 8) = false := by simpa using h8
 have e10 : (p == 10) = false := by simpa using h10
 clear hq h3 h5 h8 h10
 go_enter Tryz.func79, Tryz.ntmps79
 go_wp2
 go_ret
 exact ⟨rfl, rfl⟩
theorem asked_pos {p : Int} (h : askedB p = true) : 0 < askedK p := by
 unfold askedB at h
 have h := of_decide_eq_true h
 unfold askedK
 rcases h with rfl | rfl | rfl | rfl <;> decide
theorem asked_zero {p : Int} (h : askedB p = false) : askedK p = 0 := by
 unfold askedB at h
 have h := of_decide_eq_false h
 simp only [not_or] at h
 unfold askedK
 rw [if_neg h.1, if_neg h.2.1, if_neg h.2.2.1, if_neg h.2.2.2]
theorem kept_snoc {K : List KeptV} {k : Nat} {x : KeptV} (hx : K[k]? = some x) : (K.take (k + 1)).flatMap keptD = (K.take k).flatMap keptD ++ keptD x := by
 rw [List.take_add_one, hx]
 simp
set_option maxRecDepth 100000 in
set_option maxHeartbeats 4000000 in
theorem dof20_any (cs : Array Value) (iv kv : Value) (hcs : BC cs iv kv) (I : List IntentV) (K : List KeptV) (w : World) (hl1 : I.length ≤ 1000) (hl2 : K.length ≤ 1000)
  (hI : RowOf 4 encIn w iv I) (hK : RowOf 8 encKp w kv K) :
  Calls Tryz.prog 52 #[.agg cs] w fun e w' => ∃ v, e = .returned v ∧ OwnD w' w.heap.size v (dutiesL I K) ∧ Below w.heap.size w w' := by
 obtain ⟨i0, hi, hz0, hz1, hz2⟩ := info_parts infoD
 obtain ⟨W1, hW1⟩ : ∃ W1, W1 = w.alloc (.cells cs 30) := ⟨_, rfl⟩
 have hb1 : Below w.heap.size w W1 := by rw [hW1]; exact (Below.refl _ _).alloc (Nat.le_refl _) _
 have BX := hid (show BB W1 w.heap.size cs by rw [hW1]; exact BB.new w cs)
 obtain ⟨ia, ic, rfl, p1, p2, p3, hop⟩ := (RowOf.below hI hb1).open
 obtain ⟨ka, kc, rfl, q1, q2, q3, hoq⟩ := (RowOf.below hK hb1).open
 have HOP := hid hop
 have HOQ := hid hoq
 have HB1 := hid hb1
 have HCS := hid hcs
 have HSZ := hid (show w.heap.size < W1.heap.size from blk_lt BX.out)
 clear hI hK hb1 hcs hop hoq
 go_enter Tryz.func52, Tryz.ntmps52
 go_upto_region 1 with (fail)
 rw [← hW1]
 clear hW1
 go_wp2
 go_loopw [3, 4] (fun lv i wr => ∃ k : Nat, i = .int .i64 k ∧ k ≤ I.length ∧ OwnD wr W1.heap.size lv ((I.take k).map intentD) ∧ Below W1.heap.size W1 wr) (fun _ i _ => I.length - (intOf i).toNat)
 case atStart => exact ⟨0, rfl, Nat.zero_le _, Owns.nil _ _, Below.refl _ _⟩
 case round =>
  obtain ⟨k, rfl, hk, hlv, hB⟩ := hrel
  have HLV := hid hlv
  have HB := hid hB
  clear hlv hB
  obtain ⟨v18, v19, vf, vl⟩ := (BX.out.below HB.out HSZ.out).two HCS.out
  by_cases hlt : k < I.length
  ·obtain ⟨x, hx⟩ := get_lt hlt
   obtain ⟨b, off, rfl, hb, hrow⟩ := HOP.out (by omega)
   obtain ⟨g0, g1, g2, g3⟩ := rowI (hrow.below HB.out hb) hx
   have HSN := hid (show (I.take (k + 1)).map intentD = (I.take k).map intentD ++ [⟨1, x.token⟩] by rw [List.take_add_one, hx]; simp [intentD])
   have hbz : b < wr.heap.size := by have := HB.out.size; omega
   have hlen : ((I.take k).map intentD).length ≤ k := by rw [List.length_map]; exact List.length_take_le k I
   have c1 : ((I.take k).map intentD).length + 1 ≤ maxLen := by unfold maxLen; omega
   have c2 : (((I.take k).map intentD).length + 1) * 16 ≤ 140737488355328 := by omega
   have c3 : W1.heap.size ≤ (wr.alloc (.cells #[.int .u8 1, .int .i64 x.token] 61)).heap.size := by have := HB.out.size; simp; omega
   have hkI : (k : Int) < (I.length : Int) := by omega
   clear hx hrow hlen
   go_wp2_with (at_builtin; refine append_one rfl _ _ 111 rfl W1.heap.size 61 i0 _ 16 Tryz.underlying111 hi hz0 hz1 hz2 rfl (by decide) encD_len encD_one _ _ rfl (World.ownsRow.alloc HLV.out _) ⟨wr.heap.size, 0, none⟩ ⟨1, x.token⟩ rfl (new_cellsD wr ⟨1, x.token⟩ _) c1 c2 c3 ?_; intro lv' w1 hown hbw hgrow; have HOW := hid hown; have HBW := hid hbw; clear hown hbw hgrow)
   go_roundw
   case rel => exact ⟨k + 1, by go_num, by omega, by rw [HSN.out]; exact HOW.out, (HB.out.alloc HB.out.size _).trans HBW.out⟩
   case measure => simp [intOf]; omega
  ·obtain rfl : k = I.length := by omega
   rw [List.take_length] at HLV
   clear hlt hk
   go_wp2
   go_loopw [3, 5] (fun lv i ws => ∃ k : Nat, i = .int .i64 k ∧ k ≤ K.length ∧ OwnD ws W1.heap.size lv (I.map intentD ++ (K.take k).flatMap keptD) ∧ Below W1.heap.size W1 ws) (fun _ i _ => K.length - (intOf i).toNat)
   case atStart => exact ⟨0, rfl, Nat.zero_le _, by simpa using HLV.out, HB.out⟩
   case round =>
    clear v18 v19 vf vl HLV HB
    obtain ⟨k, rfl, hk, hlv, hB⟩ := hrel
    have HLV := hid hlv
    have HB := hid hB
    clear hlv hB
    obtain ⟨v18, v19, vf, vl⟩ := (BX.out.below HB.out HSZ.out).two HCS.out
    by_cases hlt : k < K.length
    ·obtain ⟨x, hx⟩ := get_lt hlt
     obtain ⟨b, off, rfl, hb, hrow⟩ := HOQ.out (by omega)
     obtain ⟨g0, g1, g2, g3, g4, g5, g6, g7⟩ := rowK (hrow.below HB.out hb) hx
     obtain ⟨pre, hpre⟩ : ∃ pre, I.map intentD ++ (K.take k).flatMap keptD = pre := ⟨_, rfl⟩
     rw [hpre] at HLV
     obtain ⟨ws, hws⟩ : ∃ W : World, W = wr := ⟨_, rfl⟩
     have hlen : pre.length ≤ 2000 := by rw [← hpre, List.length_append, List.length_map]; have := keptD_len (K.take k); have := List.length_take_le k K; omega
     have hbz : b < wr.heap.size := by have := HB.out.size; omega
     have hkK : (k : Int) < (K.length : Int) := by omega
     have c1 : pre.length + 1 ≤ maxLen := by unfold maxLen; omega
     have c2 : (pre.length + 1) * 16 ≤ 140737488355328 := by omega
     have HRA := hid (dasked20_any x.phase wr)
     obtain ⟨q, hq⟩ : ∃ q, askedK x.phase = q := ⟨_, rfl⟩
     have c3 : W1.heap.size ≤ (wr.alloc (.cells #[.int .u8 q, .int .i64 x.id] 61)).heap.size := by have := HB.out.size; simp; omega
     cases hs : askedB x.phase with
     | true =>
      have HSN := hid (show I.map intentD ++ (K.take (k + 1)).flatMap keptD = pre ++ [⟨q, x.id⟩] by rw [kept_snoc hx, ← List.append_assoc, hpre, ← hq]; unfold keptD; rw [if_pos hs])
      have dq : decide (0 < q) = true := by rw [← hq]; exact decide_eq_true (asked_pos hs)
      rw [hq] at HRA
      clear hx hrow hlen hs hq hpre hws
      go_wp2_with fail
      refine HRA.out.mono ?_
      rintro e w1 ⟨rfl, rfl⟩
      go_wp2_with (at_builtin; refine append_one rfl _ _ 111 rfl W1.heap.size 61 i0 _ 16 Tryz.underlying111 hi hz0 hz1 hz2 rfl (by decide) encD_len encD_one _ _ rfl (World.ownsRow.alloc HLV.out _) ⟨wr.heap.size, 0, none⟩ ⟨q, x.id⟩ rfl (new_cellsD wr ⟨q, x.id⟩ _) c1 c2 c3 ?_; intro lv' w1 hown hbw hgrow; have HOW := hid hown; have HBW := hid hbw; clear hown hbw hgrow)
      go_roundw
      case rel => exact ⟨k + 1, by go_num, by omega, by rw [HSN.out]; exact HOW.out, (HB.out.alloc HB.out.size _).trans HBW.out⟩
      case measure => simp [intOf]; omega
     | false =>
      have HSN := hid (show I.map intentD ++ (K.take (k + 1)).flatMap keptD = pre by rw [kept_snoc hx, ← List.append_assoc, hpre]; unfold keptD; rw [if_neg (by rw [hs]; decide), List.append_nil])
      obtain rfl : q = 0 := by rw [← hq]; exact asked_zero hs
      rw [hq] at HRA
      clear hx hrow hlen hs hq hpre hws
      go_wp2_with fail
      refine HRA.out.mono ?_
      rintro e w1 ⟨rfl, rfl⟩
      go_wp2
      go_roundw
      case rel => exact ⟨k + 1, by go_num, by omega, by rw [HSN.out]; exact HLV.out, HB.out⟩
      case measure => simp [intOf]; omega
    ·obtain rfl : k = K.length := by omega
     rw [List.take_length] at HLV
     clear hlt hk
     go_wp2
     go_ret
     exact ⟨_, rfl, Owns.mono HLV.out (Nat.le_of_lt HSZ.out), HB1.out.trans (HB.out.mono HB1.out.size)⟩
set_option maxRecDepth 100000 in
set_option maxHeartbeats 4000000 in
theorem dis20_any (cs : Array Value) (iv kv : Value) (hcs : BC cs iv kv) (I : List IntentV) (K : List KeptV) (d : DutyV) (w : World) (hl1 : I.length ≤ 1000) (hl2 : K.length ≤ 1000)
  (hI : RowOf 4 encIn w iv I) (hK : RowOf 8 encKp w kv K) :
  Calls Tryz.prog 23 #[.agg cs, encDv d] w fun e w' => e = .returned (.bool (decide (d ∈ dutiesL I K))) ∧ Below w.heap.size w w' := by
 have HN := hid (duties_len I K)
 obtain ⟨W1, hW1⟩ : ∃ W1, W1 = (w.alloc (.cells cs 30)).alloc (.cells #[.int .u8 d.kind, .int .i64 d.key] 61) := ⟨_, rfl⟩
 have hB1 : Below w.heap.size w W1 := by rw [hW1]; exact ((Below.refl _ _).alloc (Nat.le_refl _) _).alloc (by simp) _
 have BX := hid (show BB W1 w.heap.size cs by rw [hW1]; exact (BB.new w cs).below ((Below.refl _ _).alloc (Nat.le_refl _) _) (by simp))
 have BD := hid (show W1.heap[w.heap.size + 1]? = some (.cells #[.int .u8 d.kind, .int .i64 d.key] 61) by rw [hW1]; exact heap_new2 _ _ _)
 have HO := hid (dof20_any cs iv kv hcs I K W1 hl1 hl2 (RowOf.below hI hB1) (RowOf.below hK hB1))
 have hld := BB.load BX.out hcs
 have HZ := hid hB1
 clear hB1 hcs hI hK
 obtain ⟨L, hL⟩ : ∃ L, dutiesL I K = L := ⟨_, rfl⟩
 rw [hL] at HO HN ⊢
 clear hL
 unfold encDv
 go_enter Tryz.func23, Tryz.ntmps23
 go_upto_region 1 with (fail)
 rw [← hW1]
 clear hW1
 go_wp2_with fail
 refine HO.out.mono ?_
 rintro e V ⟨v, rfl, hown, hb⟩
 have HR := hid (Owns.row hown encD_len (by decide))
 have hbd := blk_below BD.out hb (blk_lt BD.out)
 have HBD := hid hbd
 have HZV := hid (HZ.out.trans (hb.mono HZ.out.size))
 obtain ⟨a, c, rfl, p1, p2, p3, hop⟩ := HR.out.open
 have HOP := hid hop
 have HLN := hid (show L.length ≤ 2000 by have := HN.out; omega)
 clear hown hb hop hld hbd HN HO
 go_wp2
 go_loopw [6] (fun i wr => ∃ k : Nat, k ≤ L.length ∧ i = .int .i64 k ∧ (∀ y ∈ L.take k, y ≠ d) ∧ Below V.heap.size V wr) (fun i _ => L.length - (intOf i).toNat)
 case atStart => exact ⟨0, Nat.zero_le _, rfl, by simp, Below.refl _ _⟩
 case round =>
  obtain ⟨k, hk, rfl, htk, hB⟩ := hrel
  have HT := hid htk
  have HB := hid hB
  have hlen := HLN.out
  clear htk hB
  obtain ⟨d0, d1, df, dl⟩ := blk2 (blk_below HBD.out HB.out (blk_lt HBD.out))
  by_cases hlt : k < L.length
  ·obtain ⟨b1, o1, rfl, hb1, hr1⟩ := HOP.out (by omega)
   obtain ⟨x, hx⟩ := get_lt hlt
   obtain ⟨g0, g1⟩ := rowD (hr1.below HB.out hb1) hx
   have HX := hid hx
   have hkL : (k : Int) < (L.length : Int) := by omega
   have hb1w : b1 < wr.heap.size := Nat.lt_of_lt_of_le hb1 HB.out.size
   clear hx hr1
   have heq := eqD_run x d
   by_cases hxd : x = d
   ·rw [sameD_iff.2 hxd] at heq
    have HXD := hid hxd
    clear hxd
    go_wp2_with fail
    go_quiet (fail)
    go_wp2
    go_ret
    exact ⟨ret_bool (by simp; rw [← HXD.out]; exact mem_get HX.out), below_drewN (HZV.out.trans (HB.out.mono HZV.out.size)) _⟩
   ·rw [sameD_no hxd] at heq
    have HXD := hid hxd
    clear hxd
    go_wp2_with fail
    go_quiet (fail)
    go_wp2
    go_roundw
    case rel => exact ⟨k + 1, by omega, by go_num, not_taken HX.out HT.out HXD.out, below_drewN HB.out _⟩
    case measure => simp [intOf]; omega
  ·obtain rfl : k = L.length := by omega
   go_wp2
   go_ret
   exact ⟨ret_bool (by simp; intro hd; exact HT.out d (by rw [List.take_length]; exact hd) rfl), HZV.out.trans (HB.out.mono HZV.out.size)⟩
theorem dis20_is {B : BrainV} {v : Value} {w : World} (q : Bool) (kd ky : Int) (hq : decide ((⟨kd, ky⟩ : DutyV) ∈ dutiesL B.I B.K) = q) (h : BrIs w B v) (hl1 : B.I.length ≤ 1000) (hl2 : B.K.length ≤ 1000) :
  Calls Tryz.prog 23 #[v, .agg #[.int .u8 kd, .int .i64 ky]] w fun e w' => e = .returned (.bool q) ∧ Below w.heap.size w w' := by
 obtain ⟨mv, iv, kv, rfl, h1, h2, h3⟩ := h
 rw [← hq]
 exact dis20_any _ iv kv (brT_bc _ _ _ _ _) B.I B.K ⟨kd, ky⟩ w hl1 hl2 h2 h3
end Go.Proofs.YthhgpiolcnojfaaGreatDoor
