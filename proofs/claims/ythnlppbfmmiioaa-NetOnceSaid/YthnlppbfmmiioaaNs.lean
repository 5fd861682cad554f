/- Whether the same is on its way: slices.EqualFunc at answers, net.Same; the reference. -/
import Derived.Test.YthnlppbfmmiioaaNt
namespace Go.Proofs.Ythnlppbfmmiioaa
open Go.RowKit Go.Shelf

def seenOk (n : Nat) (l : List TellV) : Prop := ∀ x ∈ l, x.seen.length ≤ n

theorem shape_row {α : Type} {k : Nat} {enc : α → List Value} {w : World} {v : Value} {l : List α} (h : RowOf k enc w v l) : ∃ a c, v = .slice a l.length c := by
  obtain ⟨a, c, rfl, _⟩ := h.open; exact ⟨a, c, rfl⟩
theorem tells_take_next {L M : List TellV} {k : Nat} {x y : TellV} (h : L.take k = M.take k) (hx : L[k]? = some x) (hy : M[k]? = some y) (hxy : x = y) : L.take (k + 1) = M.take (k + 1) := by
  rw [take_snoc L k x hx, take_snoc M k y hy, h, hxy]
theorem eqT_false_at {L M : List TellV} {k : Nat} {x y : TellV} (hx : L[k]? = some x) (hy : M[k]? = some y) (h : ¬ x = y) : decide (L = M) = false := by
  apply decide_eq_false
  rintro rfl
  rw [hx] at hy
  exact h (by simpa using hy)
theorem tell_at {w : World} {ms : List TellM} {L : List TellV} {k : Nat} {m : TellM} (h : TellsIs w ms L) (hm : ms[k]? = some m) : ∃ t, L[k]? = some t ∧ RowN w m.sv t.seen ∧ m.val t.seen = t := by
  obtain ⟨t, ht⟩ := get_lt (show k < L.length by rw [← h.1]; exact lt_get hm)
  exact ⟨t, ht, h.2 k m t hm ht⟩

set_option maxHeartbeats 2000000 in
set_option maxRecDepth 100000 in
theorem equalF_any (s t : Value) (ms ns : List TellM) (L M : List TellV) (w : World) (hs : RowT w s ms) (ht : RowT w t ns) (hms : TellsIs w ms L) (hns : TellsIs w ns M) (hL : L.length ≤ 1000000) (hM : M.length ≤ 1000000) (hsL : seenOk 1000000 L) (hsM : seenOk 1000000 M) :
    Calls Try.prog 34 #[s, t, .func (.func 35) #[] #[]] w fun e w' => e = .returned (.bool (decide (L = M))) ∧ Below w.heap.size w w' := by
  obtain ⟨a, c, rfl, hl1, hl2, hl3, hop⟩ := hs.open
  obtain ⟨b, d, rfl, hm1, hm2, hm3, hoq⟩ := ht.open
  have HOP := hid hop
  have HOQ := hid hoq
  have HMS := hid hms
  have HNS := hid hns
  have HSL := hid hsL
  have HSM := hid hsM
  have hq1 : ms.length ≤ 1000000 := by rw [hms.1]; exact hL
  have hq2 : ns.length ≤ 1000000 := by rw [hns.1]; exact hM
  clear hop hoq hs ht hms hns hsL hsM
  by_cases hlen : ms.length = ns.length
  · have HLEN := hid hlen
    rw [← hlen]
    clear hlen
    have hlm : ns.length ≤ ms.length ∧ ms.length ≤ ns.length := by have := HLEN.out; omega
    go_enter Try.func34, Try.ntmps34
    go_wp2
    go_loopw [17] (fun i wr => ∃ k : Nat, k ≤ ms.length ∧ i = .int .i64 k ∧ L.take k = M.take k ∧ Below w.heap.size w wr) (fun i _ => ms.length - (intOf i).toNat)
    case atStart => exact ⟨0, Nat.zero_le _, rfl, rfl, Below.refl _ _⟩
    case round =>
      obtain ⟨k, hk, rfl, htk, hB⟩ := hrel
      have HT := hid htk
      clear htk
      have HB := hid hB
      have hsz := hB.size
      clear hB
      by_cases hlt : k < ms.length
      · obtain ⟨b1, o1, rfl, hb1, hr1⟩ := HOP.out (by omega)
        obtain ⟨b2, o2, rfl, hb2, hr2⟩ := HOQ.out (by omega)
        obtain ⟨x, hx⟩ := get_lt hlt
        obtain ⟨y, hy⟩ := get_lt (show k < ns.length by omega)
        obtain ⟨tx, htx, hrx, hvx⟩ := tell_at HMS.out hx
        obtain ⟨ty, hty, hry, hvy⟩ := tell_at HNS.out hy
        obtain ⟨xa, xc, hxs⟩ := shape_row hrx
        obtain ⟨ya, yc, hys⟩ := shape_row hry
        obtain ⟨xcall, xkind, xcode, xid, xsv, xmore⟩ := x
        obtain ⟨ycall, ykind, ycode, yid, ysv, ymore⟩ := y
        simp only at hxs hys
        subst hxs
        subst hys
        obtain ⟨g0, g1, g2, g3, g4, g5⟩ := rowT (hr1.below HB.out hb1) hx
        obtain ⟨h0, h1, h2, h3, h4, h5⟩ := rowT (hr2.below HB.out hb2) hy
        have HX := hid htx
        have HY := hid hty
        have hsx := HSL.out tx (mem_get htx)
        have hsy := HSM.out ty (mem_get hty)
        have HVX := hid hvx
        have HVY := hid hvy
        have HRX := hid hrx
        have HRY := hid hry
        have hkL : (k : Int) < (ms.length : Int) := by omega
        have hz1 : b1 < wr.heap.size := by omega
        have hz2 : b2 < wr.heap.size := by omega
        have hz3 : b2 < wr.heap.size + 1 := by omega
        clear hx hy htx hty hvx hvy hrx hry
        obtain ⟨tb, htb⟩ : ∃ tb, toldB (TellM.val ⟨xcall, xkind, xcode, xid, .slice xa tx.seen.length xc, xmore⟩ tx.seen) (TellM.val ⟨ycall, ykind, ycode, yid, .slice ya ty.seen.length yc, ymore⟩ ty.seen) = tb := ⟨_, rfl⟩
        have hZ : ∀ o1 o2, Below w.heap.size w ((wr.alloc o1).alloc o2) := fun o1 o2 => (HB.out.alloc (by omega) _).alloc (by simp; omega) _
        have HZ := hid hZ
        have hcon : ∀ o1 o2, Calls Try.prog 35 #[.agg #[.int .i64 xcall, .int .u8 xkind, .int .u8 xcode, .int .i64 xid, .slice xa tx.seen.length xc, .bool xmore], .agg #[.int .i64 ycall, .int .u8 ykind, .int .u8 ycode, .int .i64 yid, .slice ya ty.seen.length yc, .bool ymore]] ((wr.alloc o1).alloc o2) fun e w' => e = .returned (.bool tb) ∧ Below ((wr.alloc o1).alloc o2).heap.size ((wr.alloc o1).alloc o2) w' := fun o1 o2 => by
          rw [← htb]
          exact sclo_any ⟨xcall, xkind, xcode, xid, .slice xa tx.seen.length xc, xmore⟩ ⟨ycall, ykind, ycode, yid, .slice ya ty.seen.length yc, ymore⟩ _ _ _ hsx hsy (RowOf.below HRX.out (HZ.out o1 o2)) (RowOf.below HRY.out (HZ.out o1 o2))
        have HCON := hid hcon
        have HTB := hid htb
        clear hcon htb hZ
        cases tb with
        | true =>
          have HEQ : Hid (tx = ty) := hid (by rw [← HVX.out, ← HVY.out]; exact toldB_iff.1 HTB.out)
          go_wp2_with fail
          refine (HCON.out _ _).mono ?_
          rintro e w1 ⟨rfl, hb⟩
          have hend := (HZ.out _ _).trans (hb.mono (HZ.out _ _).size)
          go_wp2
          go_roundw
          case rel => exact ⟨k + 1, by omega, by go_num, tells_take_next HT.out HX.out HY.out HEQ.out, hend⟩
          case measure => simp [intOf]; omega
        | false =>
          have HEQ : Hid (¬ tx = ty) := hid (fun h => by
            have := HTB.out
            rw [HVX.out, HVY.out, h, toldB_self] at this
            cases this)
          go_wp2_with fail
          refine (HCON.out _ _).mono ?_
          rintro e w1 ⟨rfl, hb⟩
          have hend := (HZ.out _ _).trans (hb.mono (HZ.out _ _).size)
          go_wp2
          go_ret
          exact ⟨ret_bool (eqT_false_at HX.out HY.out HEQ.out).symm, hend⟩
      · obtain rfl : k = ms.length := by omega
        go_wp2
        go_ret
        refine ⟨ret_bool (decide_eq_true ?_).symm, HB.out⟩
        have := HT.out
        rw [HMS.out.1, List.take_length, ← HMS.out.1, HLEN.out, HNS.out.1, List.take_length] at this
        exact this
  · have hz : ((ms.length : Int) != (ns.length : Int)) = true := by simp; omega
    have HN : Hid (¬ L = M) := hid (fun h => hlen (by rw [HMS.out.1, HNS.out.1, h]))
    clear hlen
    go_enter Try.func34, Try.ntmps34
    go_wp2
    go_ret
    exact ⟨ret_bool (decide_eq_false HN.out).symm, Below.refl _ _⟩

/-- Is the same on its way? -/
def nsameB (n m : NetV) : Bool := decide (n.asks = m.asks) && decide (n.tells = m.tells)
theorem nsameB_self (n : NetV) : nsameB n n = true := by simp [nsameB]
def netOk (n : NetV) : Prop := n.asks.length ≤ 1000 ∧ n.tells.length ≤ 1000 ∧ seenOk 1000 n.tells
theorem seenOk.mono {a b : Nat} {l : List TellV} (h : seenOk a l) (hab : a ≤ b) : seenOk b l := fun x hx => Nat.le_trans (h x hx) hab

set_option maxHeartbeats 1000000 in
set_option maxRecDepth 100000 in
theorem nsame_any (va vt ua ut : Value) (n m : NetV) (w : World) (hn : NetIs w va vt n) (hm : NetIs w ua ut m) (hl : netOk n) (hk : netOk m) :
    Calls Try.prog 16 #[netv va vt, netv ua ut] w fun e w' => e = .returned (.bool (nsameB n m)) ∧ Below w.heap.size w w' := by
  have Z0 : Below w.heap.size w ((w.alloc (.cells #[va, vt] 25)).alloc (.cells #[ua, ut] 25)) := ((Below.refl _ _).alloc (Nat.le_refl _) _).alloc (by simp) _
  have Z := hid Z0
  have B0 := hid (blk_alloc (heap_new w (.cells #[va, vt] 25)) (.cells #[ua, ut] 25))
  have D0 := hid (heap_new2 w (.cells #[va, vt] 25) (.cells #[ua, ut] 25))
  have hn1 := hn.below Z0
  have hm1 := hm.below Z0
  obtain ⟨ha, ms, hr, hms⟩ := hn1
  obtain ⟨ha', ns, hr', hns⟩ := hm1
  have HA := hid (equalA_any va ua n.asks m.asks _ ha ha' (by have := hl.1; omega) (by have := hk.1; omega))
  obtain ⟨b1, hb1⟩ : ∃ b, decide (n.asks = m.asks) = b := ⟨_, rfl⟩
  obtain ⟨b2, hb2⟩ : ∃ b, decide (n.tells = m.tells) = b := ⟨_, rfl⟩
  have hv : nsameB n m = (b1 && b2) := by rw [← hb1, ← hb2]; rfl
  rw [hv]
  rw [hb1] at HA
  have HT : Hid (∀ W, Below ((w.alloc (.cells #[va, vt] 25)).alloc (.cells #[ua, ut] 25)).heap.size ((w.alloc (.cells #[va, vt] 25)).alloc (.cells #[ua, ut] 25)) W → Calls Try.prog 34 #[vt, ut, .func (.func 35) #[] #[]] W fun e w' => e = .returned (.bool b2) ∧ Below W.heap.size W w') := hid (fun W hW => by
    rw [← hb2]
    exact equalF_any vt ut ms ns _ _ W (RowOf.below hr hW) (RowOf.below hr' hW) (hms.below hW) (hns.below hW) (by have := hl.2.1; omega) (by have := hk.2.1; omega) (hl.2.2.mono (by omega)) (hk.2.2.mono (by omega)))
  clear hn hm ha ha' hr hr' hms hns hv hb1 hb2 Z0
  unfold netv
  go_enter Try.func16, Try.ntmps16
  obtain ⟨k0, k1, kf, kl⟩ := blk2 B0.out
  obtain ⟨j0, j1, jf, jl⟩ := blk2 D0.out
  go_wp2_with fail
  clear k0 k1 kf kl j0 j1 jf jl
  refine HA.out.mono ?_
  rintro e w1 ⟨rfl, hb⟩
  have HB := hid hb
  obtain ⟨k0, k1, kf, kl⟩ := blk2 (blk_below B0.out hb (blk_lt B0.out))
  obtain ⟨j0, j1, jf, jl⟩ := blk2 (blk_below D0.out hb (blk_lt D0.out))
  clear hb
  cases b1 with
  | false =>
    go_wp2
    go_ret
    exact ⟨rfl, Z.out.trans (HB.out.mono Z.out.size)⟩
  | true =>
    go_wp2_with fail
    refine (HT.out _ HB.out).mono ?_
    rintro e w2 ⟨rfl, hb⟩
    go_wp2
    go_ret
    exact ⟨by simp, (Z.out.trans (HB.out.mono Z.out.size)).trans (hb.mono (Z.out.trans (HB.out.mono Z.out.size)).size)⟩
end Go.Proofs.Ythnlppbfmmiioaa
