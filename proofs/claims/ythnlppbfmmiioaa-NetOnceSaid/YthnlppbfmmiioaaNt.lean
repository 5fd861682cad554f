/- Whether two answers tell the same: the closure of net.Same, and the reference. -/
import Derived.Test.YthnlppbfmmiioaaNi
namespace Go.Proofs.Ythnlppbfmmiioaa
open Go.RowKit Go.Shelf

set_option maxHeartbeats 1000000 in
set_option maxRecDepth 100000 in
theorem sclo_any (m q : TellM) (L M : List SeenV) (w : World) (hL : L.length ≤ 1000000) (hM : M.length ≤ 1000000) (hs : RowN w m.sv L) (ht : RowN w q.sv M) :
    Calls Try.prog 35 #[aggT m, aggT q] w fun e w' => e = .returned (.bool (toldB (m.val L) (q.val M))) ∧ Below w.heap.size w w' := by
  have Z0 : Below w.heap.size w ((w.alloc (.cells #[.int .i64 m.call, .int .u8 m.kind, .int .u8 m.code, .int .i64 m.id, m.sv, .bool m.more] 30)).alloc (.cells #[.int .i64 q.call, .int .u8 q.kind, .int .u8 q.code, .int .i64 q.id, q.sv, .bool q.more] 30)) := ((Below.refl _ _).alloc (Nat.le_refl _) _).alloc (by simp) _
  have Z := hid Z0
  have HE := hid (equalN_any m.sv q.sv L M _ (RowOf.below hs Z0) (RowOf.below ht Z0) hL hM)
  clear hs ht Z0
  unfold aggT
  by_cases h0 : m.call = q.call
  · have t0 : (m.call == q.call) = true := by simpa using h0
    clear h0
    by_cases h1 : m.kind = q.kind
    · have t1 : (m.kind == q.kind) = true := by simpa using h1
      clear h1
      by_cases h2 : m.code = q.code
      · have t2 : (m.code == q.code) = true := by simpa using h2
        clear h2
        by_cases h3 : m.id = q.id
        · have t3 : (m.id == q.id) = true := by simpa using h3
          clear h3
          by_cases h4 : m.more = q.more
          · have t4 : (m.more == q.more) = true := by simpa using h4
            clear h4
            have hv : toldB (m.val L) (q.val M) = decide (L = M) := by (simp only [toldB, TellM.val, t0, t1, t2, t3, t4, Bool.true_and]); rfl
            rw [hv]
            clear hv
            generalize decide (L = M) = bb at HE ⊢
            go_enter Try.func35, Try.ntmps35
            go_wp2_with fail
            refine HE.out.mono ?_
            rintro e w1 ⟨rfl, hb⟩
            go_wp2
            go_ret
            exact ⟨rfl, Z.out.trans (hb.mono Z.out.size)⟩
          · have t4 : (m.more == q.more) = false := by simpa using h4
            clear h4
            have hv : toldB (m.val L) (q.val M) = false := by simp only [toldB, TellM.val, t0, t1, t2, t3, t4, Bool.true_and, Bool.false_and]
            rw [hv]
            clear hv HE
            go_enter Try.func35, Try.ntmps35
            go_wp2
            go_ret
            exact ⟨rfl, Z.out⟩
        · have t3 : (m.id == q.id) = false := by simpa using h3
          clear h3
          have hv : toldB (m.val L) (q.val M) = false := by simp only [toldB, TellM.val, t0, t1, t2, t3, Bool.true_and, Bool.false_and]
          rw [hv]
          clear hv HE
          go_enter Try.func35, Try.ntmps35
          go_wp2
          go_ret
          exact ⟨rfl, Z.out⟩
      · have t2 : (m.code == q.code) = false := by simpa using h2
        clear h2
        have hv : toldB (m.val L) (q.val M) = false := by simp only [toldB, TellM.val, t0, t1, t2, Bool.true_and, Bool.false_and]
        rw [hv]
        clear hv HE
        go_enter Try.func35, Try.ntmps35
        go_wp2
        go_ret
        exact ⟨rfl, Z.out⟩
    · have t1 : (m.kind == q.kind) = false := by simpa using h1
      clear h1
      have hv : toldB (m.val L) (q.val M) = false := by simp only [toldB, TellM.val, t0, t1, Bool.true_and, Bool.false_and]
      rw [hv]
      clear hv HE
      go_enter Try.func35, Try.ntmps35
      go_wp2
      go_ret
      exact ⟨rfl, Z.out⟩
  · have t0 : (m.call == q.call) = false := by simpa using h0
    clear h0
    have hv : toldB (m.val L) (q.val M) = false := by simp only [toldB, TellM.val, t0, Bool.false_and]
    rw [hv]
    clear hv HE
    go_enter Try.func35, Try.ntmps35
    go_wp2
    go_ret
    exact ⟨rfl, Z.out⟩

set_option maxHeartbeats 1000000 in
set_option maxRecDepth 100000 in
theorem rsame9_any (s t : Value) (L M : List SeenV) (w : World) (hs : RowN w s L) (ht : RowN w t M) (hL : L.length ≤ 1000000) (_hM : M.length ≤ 1000000) :
    Calls Try.prog 25 #[s, t] w fun e w' => e = .returned (.bool (decide (L = M))) ∧ Below w.heap.size w w' := by
  obtain ⟨a, c, rfl, hl1, hl2, hl3, hop⟩ := hs.open
  obtain ⟨b, d, rfl, hm1, hm2, hm3, hoq⟩ := ht.open
  have HOP := hid hop
  have HOQ := hid hoq
  clear hop hoq hs ht
  by_cases hlen : L.length = M.length
  · have HLEN := hid hlen
    rw [← hlen]
    clear hlen
    have hlm : M.length ≤ L.length ∧ L.length ≤ M.length := by have := HLEN.out; omega
    go_enter Try.func25, Try.ntmps25
    go_wp2
    go_loopw [5] (fun i wr => ∃ k : Nat, k ≤ L.length ∧ i = .int .i64 k ∧ L.take k = M.take k ∧ Below w.heap.size w wr) (fun i _ => L.length - (intOf i).toNat)
    case atStart => exact ⟨0, Nat.zero_le _, rfl, rfl, Below.refl _ _⟩
    case round =>
      obtain ⟨k, hk, rfl, htk, hB⟩ := hrel
      have HT := hid htk
      clear htk
      obtain ⟨hc, hf⟩ := bcell hB
      by_cases hlt : k < L.length
      · obtain ⟨b1, o1, rfl, hb1, hr1⟩ := HOP.out (by omega)
        obtain ⟨b2, o2, rfl, hb2, hr2⟩ := HOQ.out (by omega)
        obtain ⟨x, hx⟩ := get_lt hlt
        obtain ⟨y, hy⟩ := get_lt (show k < M.length by omega)
        obtain ⟨g0, g1, g2, g3, g4, g5, g6⟩ := rowN hr1 hx
        obtain ⟨h0, h1, h2, h3, h4, h5, h6⟩ := rowN hr2 hy
        have HX := hid hx
        have HY := hid hy
        have HS := hid (take_snoc L k x hx)
        have HS' := hid (take_snoc M k y hy)
        have hkL : (k : Int) < (L.length : Int) := by omega
        clear hx hy
        have hne := neqN_run x y
        by_cases hxy : x = y
        · rw [sameN_iff.2 hxy] at hne
          have HXY := hid hxy
          clear hxy
          go_wp2
          go_quiet (fail)
          go_wp2
          go_roundw
          case rel => exact ⟨k + 1, by omega, by go_num, by rw [HS.out, HS'.out, HT.out, HXY.out], below_drewN hB _⟩
          case measure => simp [intOf]; omega
        · have : sameN x y = false := by apply Bool.eq_false_iff.2; intro h; exact hxy (sameN_iff.1 h)
          rw [this] at hne
          have HXY := hid hxy
          clear hxy this
          go_wp2
          go_quiet (fail)
          go_wp2
          go_ret
          exact ⟨ret_bool (eqN_false_at HX.out HY.out HXY.out).symm, below_drewN hB _⟩
      · obtain rfl : k = L.length := by omega
        go_wp2
        go_ret
        refine ⟨ret_bool (decide_eq_true ?_).symm, hB⟩
        have := HT.out
        rw [List.take_length, HLEN.out, List.take_length] at this
        exact this
  · have hz : ((L.length : Int) != (M.length : Int)) = true := by simp; omega
    have HN := hid hlen
    clear hlen
    go_enter Try.func25, Try.ntmps25
    go_wp2
    go_ret
    exact ⟨ret_bool (decide_eq_false (fun h => HN.out (by rw [h]))).symm, Below.refl _ _⟩

set_option maxHeartbeats 1000000 in
set_option maxRecDepth 100000 in
theorem told_any (m q : TellM) (L M : List SeenV) (w : World) (hL : L.length ≤ 1000000) (hM : M.length ≤ 1000000) (hs : RowN w m.sv L) (ht : RowN w q.sv M) :
    Calls Try.prog 21 #[aggT m, aggT q] w fun e w' => e = .returned (.bool (toldB (m.val L) (q.val M))) ∧ Below w.heap.size w w' := by
  have Z0 : Below w.heap.size w ((w.alloc (.cells #[.int .i64 m.call, .int .u8 m.kind, .int .u8 m.code, .int .i64 m.id, m.sv, .bool m.more] 30)).alloc (.cells #[.int .i64 q.call, .int .u8 q.kind, .int .u8 q.code, .int .i64 q.id, q.sv, .bool q.more] 30)) := ((Below.refl _ _).alloc (Nat.le_refl _) _).alloc (by simp) _
  have Z := hid Z0
  have HE := hid (rsame9_any m.sv q.sv L M _ (RowOf.below hs Z0) (RowOf.below ht Z0) hL hM)
  clear hs ht Z0
  unfold aggT
  by_cases h0 : m.call = q.call
  · have t0 : (m.call == q.call) = true := by simpa using h0
    clear h0
    by_cases h1 : m.kind = q.kind
    · have t1 : (m.kind == q.kind) = true := by simpa using h1
      clear h1
      by_cases h2 : m.code = q.code
      · have t2 : (m.code == q.code) = true := by simpa using h2
        clear h2
        by_cases h3 : m.id = q.id
        · have t3 : (m.id == q.id) = true := by simpa using h3
          clear h3
          by_cases h4 : m.more = q.more
          · have t4 : (m.more == q.more) = true := by simpa using h4
            clear h4
            have hv : toldB (m.val L) (q.val M) = decide (L = M) := by (simp only [toldB, TellM.val, t0, t1, t2, t3, t4, Bool.true_and]); rfl
            rw [hv]
            clear hv
            generalize decide (L = M) = bb at HE ⊢
            go_enter Try.func21, Try.ntmps21
            go_wp2_with fail
            refine HE.out.mono ?_
            rintro e w1 ⟨rfl, hb⟩
            go_wp2
            go_ret
            exact ⟨rfl, Z.out.trans (hb.mono Z.out.size)⟩
          · have t4 : (m.more == q.more) = false := by simpa using h4
            clear h4
            have hv : toldB (m.val L) (q.val M) = false := by simp only [toldB, TellM.val, t0, t1, t2, t3, t4, Bool.true_and, Bool.false_and]
            rw [hv]
            clear hv HE
            go_enter Try.func21, Try.ntmps21
            go_wp2
            go_ret
            exact ⟨rfl, Z.out⟩
        · have t3 : (m.id == q.id) = false := by simpa using h3
          clear h3
          have hv : toldB (m.val L) (q.val M) = false := by simp only [toldB, TellM.val, t0, t1, t2, t3, Bool.true_and, Bool.false_and]
          rw [hv]
          clear hv HE
          go_enter Try.func21, Try.ntmps21
          go_wp2
          go_ret
          exact ⟨rfl, Z.out⟩
      · have t2 : (m.code == q.code) = false := by simpa using h2
        clear h2
        have hv : toldB (m.val L) (q.val M) = false := by simp only [toldB, TellM.val, t0, t1, t2, Bool.true_and, Bool.false_and]
        rw [hv]
        clear hv HE
        go_enter Try.func21, Try.ntmps21
        go_wp2
        go_ret
        exact ⟨rfl, Z.out⟩
    · have t1 : (m.kind == q.kind) = false := by simpa using h1
      clear h1
      have hv : toldB (m.val L) (q.val M) = false := by simp only [toldB, TellM.val, t0, t1, Bool.true_and, Bool.false_and]
      rw [hv]
      clear hv HE
      go_enter Try.func21, Try.ntmps21
      go_wp2
      go_ret
      exact ⟨rfl, Z.out⟩
  · have t0 : (m.call == q.call) = false := by simpa using h0
    clear h0
    have hv : toldB (m.val L) (q.val M) = false := by simp only [toldB, TellM.val, t0, Bool.false_and]
    rw [hv]
    clear hv HE
    go_enter Try.func21, Try.ntmps21
    go_wp2
    go_ret
    exact ⟨rfl, Z.out⟩
end Go.Proofs.Ythnlppbfmmiioaa
