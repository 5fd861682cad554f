import Derived.Test.YtgcajfglidflnaaDoorWkr
/- ReapPages: a page that is not awaited changes nothing; a listing is whole once. -/
namespace Go.Proofs.YtgcajfglidflnaaDoor
open Go.RowKit Go.Shelf
attribute [-go_sem] loadVar storeVar Instr.buildSlice
attribute [local go_sem] load_other store_other

def scanC (on : Bool) (frm beh : Int) (sv : Value) : Array Value := #[.bool on, .int .i64 frm, .int .i64 beh, sv]
def tellC (c k d i : Int) (sv : Value) (m : Bool) : Array Value := #[.int .i64 c, .int .u8 k, .int .u8 d, .int .i64 i, sv, .bool m]
/-- What the law goes by. -/
structure PgM (w : World) (on : Bool) (frm beh c k d i : Int) (sa ta : Option Addr) (sc tc : Nat) (m : Bool) (L T : List SeenV) (W : World) : Prop where
  scan : W.heap[w.heap.size]? = some (.cells #[.bool on, .int .i64 frm, .int .i64 beh, .slice sa L.length sc] 33)
  tell : W.heap[w.heap.size + 1]? = some (.cells #[.int .i64 c, .int .u8 k, .int .u8 d, .int .i64 i, .slice ta T.length tc, .bool m] 47)
  rs : RowS W (.slice sa L.length sc) L
  rt : RowS W (.slice ta T.length tc) T
  bel : Below w.heap.size w W
theorem PgM.below {w W W' : World} {on : Bool} {frm beh c k d i : Int} {sa ta : Option Addr} {sc tc : Nat} {m : Bool} {L T : List SeenV} (h : PgM w on frm beh c k d i sa ta sc tc m L T W) (hb : Below W.heap.size W W') : PgM w on frm beh c k d i sa ta sc tc m L T W' :=
  ⟨blk_below h.scan hb (blk_lt h.scan), blk_below h.tell hb (blk_lt h.tell), h.rs.below hb, h.rt.below hb, h.bel.trans (hb.mono h.bel.size)⟩
theorem PgM.cells {w W : World} {on : Bool} {frm beh c k d i : Int} {sa ta : Option Addr} {sc tc : Nat} {m : Bool} {L T : List SeenV} (h : PgM w on frm beh c k d i sa ta sc tc m L T W) :
    (W.cell? ⟨w.heap.size, 0, none⟩ = some (.bool on) ∧ W.cell? ⟨w.heap.size, 1, none⟩ = some (.int .i64 frm) ∧ W.cell? ⟨w.heap.size, 2, none⟩ = some (.int .i64 beh) ∧ W.cell? ⟨w.heap.size, 3, none⟩ = some (.slice sa L.length sc) ∧ w.heap.size < W.heap.size) ∧
    W.cell? ⟨w.heap.size + 1, 0, none⟩ = some (.int .i64 c) ∧ W.cell? ⟨w.heap.size + 1, 1, none⟩ = some (.int .u8 k) ∧ W.cell? ⟨w.heap.size + 1, 2, none⟩ = some (.int .u8 d) ∧ W.cell? ⟨w.heap.size + 1, 3, none⟩ = some (.int .i64 i) ∧ W.cell? ⟨w.heap.size + 1, 4, none⟩ = some (.slice ta T.length tc) ∧ W.cell? ⟨w.heap.size + 1, 5, none⟩ = some (.bool m) ∧ w.heap.size + 1 < W.heap.size :=
  ⟨⟨blk_cell h.scan 0, blk_cell h.scan 1, blk_cell h.scan 2, blk_cell h.scan 3, blk_lt h.scan⟩, blk_cell h.tell 0, blk_cell h.tell 1, blk_cell h.tell 2, blk_cell h.tell 3, blk_cell h.tell 4, blk_cell h.tell 5, blk_lt h.tell⟩
set_option maxRecDepth 100000 in
set_option maxHeartbeats 8000000 in
theorem pages_law (on : Bool) (frm beh c k d i : Int) (sv tv : Value) (m : Bool) (L T : List SeenV) (w : World) (hs : RowS w sv L) (ht : RowS w tv T) (hC : Changes w) (hL : Limits w) :
    Calls Tryd.prog 5 #[scanV on frm beh sv, tellV c k d i tv m] w fun e w' => e = .returned (.bool true) ∧ Below w.heap.size w w' := by
  obtain ⟨sa, sc, rfl, _⟩ := hs.open
  obtain ⟨ta, tc, rfl, _⟩ := ht.open
  obtain ⟨W1, hW1⟩ : ∃ W1, W1 = (w.alloc (.cells #[.bool on, .int .i64 frm, .int .i64 beh, .slice sa L.length sc] 33)).alloc (.cells #[.int .i64 c, .int .u8 k, .int .u8 d, .int .i64 i, .slice ta T.length tc, .bool m] 47) := ⟨_, rfl⟩
  have hb1 : Below w.heap.size w W1 := by rw [hW1]; exact ((Below.refl _ _).alloc (Nat.le_refl _) _).alloc (by simp) _
  have M1 := hid (show PgM w on frm beh c k d i sa ta sc tc m L T W1 from ⟨by rw [hW1]; exact blk_alloc (heap_new _ _) _, by rw [hW1]; exact heap_new2 _ _ _, hs.below hb1, ht.below hb1, hb1⟩)
  have HW1 := hid hW1
  have HC := hid hC
  have HL := hid hL
  clear hs ht hb1 hW1 hC hL
  have HWK := hid (fun (W : World) (hb : Below w.heap.size w W) => wakes21_any W (HC.out.below hb) (HL.out.below hb))
  unfold scanV tellV
  go_enter Tryd.func5, Tryd.ntmps5
  go_upto_region 1 with (fail)
  rw [← HW1.out]
  clear HW1
  obtain ⟨⟨s0, s1, s2, s3, sl⟩, t0, t1, t2, t3, t4, t5, tl⟩ := M1.out.cells
  obtain ⟨q, hq⟩ : ∃ q, decide ((60 : Int) < (L.length : Int)) = q := ⟨_, rfl⟩
  have HQ := hid hq
  clear hq
  go_wp2_with fail
  refine (great21_any on frm beh _ L W1 M1.out.rs q HQ.out).mono ?_
  rintro e W2 ⟨rfl, hb⟩
  have M2 := hid (M1.out.below hb)
  clear hb s0 s1 s2 s3 sl t0 t1 t2 t3 t4 t5 tl M1
  obtain ⟨⟨s0, s1, s2, s3, sl⟩, t0, t1, t2, t3, t4, t5, tl⟩ := M2.out.cells
  cases q with
  | true =>
    go_wp2_with fail
    refine (HWK.out _ M2.out.bel).mono ?_
    rintro e W3 ⟨rfl, hb⟩
    have HB := hid (M2.out.bel.trans (hb.mono M2.out.bel.size))
    clear hb
    go_wp2
    go_ret
    exact ⟨rfl, HB.out⟩
  | false =>
    have hL60 : L.length ≤ 60 := by have := HQ.out; simp at this; omega
    by_cases hT6 : 60 < T.length
    · have d1 : decide ((60 : Int) < (T.length : Int)) = true := by simp; omega
      go_wp2_with fail
      refine (HWK.out _ M2.out.bel).mono ?_
      rintro e W3 ⟨rfl, hb⟩
      have HB := hid (M2.out.bel.trans (hb.mono M2.out.bel.size))
      clear hb
      go_wp2
      go_ret
      exact ⟨rfl, HB.out⟩
    · have hT60 : T.length ≤ 60 := by omega
      have d1 : decide ((60 : Int) < (T.length : Int)) = false := by simp; omega
      have HL60 := hid hL60
      have HT60 := hid hT60
      clear hT6 hL60 hT60
      go_wp2_with fail
      clear d1 s0 s1 s2 s3 sl t0 t1 t2 t3 t4 t5 tl
      by_cases hok : pageOk on beh k d i
      · obtain ⟨rfl, rfl, rfl, rfl⟩ := hok
        obtain ⟨LT, hLT⟩ : ∃ LT, LT = L ++ T := ⟨_, rfl⟩
        have HLT := hid (show LT.length = L.length + T.length by rw [hLT, List.length_append])
        refine (page_any true frm i c 7 1 i _ _ m L T W2 M2.out.rs M2.out.rt (by have := HL60.out; omega) (by have := HT60.out; omega) m (!m) (nextL T i) LT (.inl ⟨⟨rfl, rfl, rfl, rfl⟩, rfl, rfl, hLT, rfl⟩)).mono ?_
        rintro e V ⟨v, rfl, ho, hb⟩
        obtain ⟨nx, hnx⟩ : ∃ nx, nextL T i = nx := ⟨_, rfl⟩
        have HNX := hid (show i ≤ nx by rw [← hnx]; exact nextL_ge T i)
        rw [hnx]
        obtain ⟨va, vc, rfl, _⟩ := (Owns.row ho encSn_len (by decide)).open
        obtain ⟨W3, hW3⟩ : ∃ W3, W3 = V.alloc (.cells #[.bool m, .int .i64 frm, .int .i64 nx, .slice va LT.length vc] 33) := ⟨_, rfl⟩
        have hal : Below V.heap.size V W3 := by rw [hW3]; exact (Below.refl _ _).alloc (Nat.le_refl _) _
        have M3 := hid (M2.out.below (hb.trans (hal.mono hb.size)))
        have R3 := hid (show RowS W3 (.slice va LT.length vc) LT from (Owns.row ho encSn_len (by decide)).below hal)
        have N30 := (show W3.heap[V.heap.size]? = some (.cells #[.bool m, .int .i64 frm, .int .i64 nx, .slice va LT.length vc] 33) by rw [hW3]; exact heap_new _ _)
        have HW3 := hid hW3
        clear ho hb hal hW3 hnx hLT
        unfold scanV
        go_upto_region 4 with (fail)
        rw [← HW3.out]
        obtain ⟨T5, hT5⟩ : ∃ T5, V.heap.size = T5 := ⟨_, rfl⟩
        rw [hT5] at N30 ⊢
        have N3 := hid N30
        clear hT5 HW3 N30
        obtain ⟨⟨s0, s1, s2, s3, sl⟩, t0, t1, t2, t3, t4, t5, tl⟩ := M3.out.cells
        obtain ⟨o0, o1, o2, o3, of, ol⟩ := blk4 N3.out
        go_wp2_with fail
        clear s0 s1 s2 s3 sl t0 t1 t2 t3 t4 t5 tl o0 o1 o2 o3 of ol
        cases m with
        | true =>
          by_cases hok2 : i = nx
          · subst hok2
            obtain ⟨L2, hL2⟩ : ∃ L2, L2 = LT ++ T := ⟨_, rfl⟩
            obtain ⟨n2, hn2⟩ : ∃ n2, n2 = nextL T i := ⟨_, rfl⟩
            refine (page_any true frm i c 7 1 i _ _ true LT T W3 R3.out M3.out.rt (by have := HLT.out; have := HL60.out; have := HT60.out; omega) (by have := HT60.out; omega) true false n2 L2 (.inl ⟨⟨rfl, rfl, rfl, rfl⟩, rfl, hn2, hL2, rfl⟩)).mono ?_
            clear hn2 hL2
            rintro e V2 ⟨v2, rfl, ho, hb⟩
            obtain ⟨vb, vd, rfl, _⟩ := (Owns.row ho encSn_len (by decide)).open
            obtain ⟨W4, hW4⟩ : ∃ W4, W4 = V2.alloc (.cells #[.bool true, .int .i64 frm, .int .i64 n2, .slice vb (L2).length vd] 33) := ⟨_, rfl⟩
            have hal : Below V2.heap.size V2 W4 := by rw [hW4]; exact (Below.refl _ _).alloc (Nat.le_refl _) _
            have hb4 := hb.trans (hal.mono hb.size)
            have M4 := hid (M3.out.below hb4)
            have N4 := hid (blk_below N3.out hb4 (blk_lt N3.out))
            have R4 := hid (R3.out.below hb4)
            have Q4 := hid (show RowS W4 (.slice vb (L2).length vd) (L2) from (Owns.row ho encSn_len (by decide)).below hal)
            have N50 := (show W4.heap[V2.heap.size]? = some (.cells #[.bool true, .int .i64 frm, .int .i64 n2, .slice vb (L2).length vd] 33) by rw [hW4]; exact heap_new _ _)
            have HW4 := hid hW4
            clear ho hb hal hW4 hb4
            unfold scanV
            go_upto_region 7 with (fail)
            rw [← HW4.out]
            obtain ⟨T7, hT7⟩ : ∃ T7, V2.heap.size = T7 := ⟨_, rfl⟩
            rw [hT7] at N50 ⊢
            have N5 := hid N50
            clear hT7 HW4 N50
            obtain ⟨⟨s0, s1, s2, s3, sl⟩, t0, t1, t2, t3, t4, t5, tl⟩ := M4.out.cells
            obtain ⟨o0, o1, o2, o3, of, ol⟩ := blk4 N4.out
            obtain ⟨p0, p1, p2, p3, pf, pl⟩ := blk4 N5.out
            have d1 : ((LT.length : Int) == (L.length : Int) + (T.length : Int)) = true := by have := HLT.out; simp; omega
            have d2 : decide (i ≤ i) = true := decide_eq_true HNX.out
            have d3 : (frm == frm) = true := by simp
            have e1 := HL60.out
            have e2 := HT60.out
            go_wp2_with fail
            refine (HWK.out _ M4.out.bel).mono ?_
            rintro e W9 ⟨rfl, hb⟩
            have HB9 := hid (Below.trans M4.out.bel (hb.mono (M4.out.bel).size))
            clear hb d1 d2 d3 e1 e2
            go_wp2
            go_ret
            exact ⟨rfl, HB9.out⟩
          · refine (page_any true frm nx c 7 1 i _ _ true LT T W3 R3.out M3.out.rt (by have := HLT.out; have := HL60.out; have := HT60.out; omega) (by have := HT60.out; omega) true false nx LT (.inr ⟨fun h => hok2 h.2.2.2, rfl, rfl, rfl, rfl⟩)).mono ?_
            rintro e V2 ⟨v2, rfl, ho, hb⟩
            obtain ⟨vb, vd, rfl, _⟩ := (Owns.row ho encSn_len (by decide)).open
            obtain ⟨W4, hW4⟩ : ∃ W4, W4 = V2.alloc (.cells #[.bool true, .int .i64 frm, .int .i64 nx, .slice vb (LT).length vd] 33) := ⟨_, rfl⟩
            have hal : Below V2.heap.size V2 W4 := by rw [hW4]; exact (Below.refl _ _).alloc (Nat.le_refl _) _
            have hb4 := hb.trans (hal.mono hb.size)
            have M4 := hid (M3.out.below hb4)
            have N4 := hid (blk_below N3.out hb4 (blk_lt N3.out))
            have R4 := hid (R3.out.below hb4)
            have Q4 := hid (show RowS W4 (.slice vb (LT).length vd) (LT) from (Owns.row ho encSn_len (by decide)).below hal)
            have N50 := (show W4.heap[V2.heap.size]? = some (.cells #[.bool true, .int .i64 frm, .int .i64 nx, .slice vb (LT).length vd] 33) by rw [hW4]; exact heap_new _ _)
            have HW4 := hid hW4
            clear ho hb hal hW4 hb4
            unfold scanV
            go_upto_region 7 with (fail)
            rw [← HW4.out]
            obtain ⟨T7, hT7⟩ : ∃ T7, V2.heap.size = T7 := ⟨_, rfl⟩
            rw [hT7] at N50 ⊢
            have N5 := hid N50
            clear hT7 HW4 N50
            obtain ⟨⟨s0, s1, s2, s3, sl⟩, t0, t1, t2, t3, t4, t5, tl⟩ := M4.out.cells
            obtain ⟨o0, o1, o2, o3, of, ol⟩ := blk4 N4.out
            obtain ⟨p0, p1, p2, p3, pf, pl⟩ := blk4 N5.out
            clear hok2
            have d1 : ((LT.length : Int) == (L.length : Int) + (T.length : Int)) = true := by have := HLT.out; simp; omega
            have d2 : decide (i ≤ nx) = true := decide_eq_true HNX.out
            have d3 : (frm == frm) = true := by simp
            have e1 := HL60.out
            have e2 := HT60.out
            go_wp2_with fail
            refine (HWK.out _ M4.out.bel).mono ?_
            rintro e W9 ⟨rfl, hb⟩
            have HB9 := hid (Below.trans M4.out.bel (hb.mono (M4.out.bel).size))
            clear hb d1 d2 d3 e1 e2
            go_wp2
            go_ret
            exact ⟨rfl, HB9.out⟩
        | false =>
          refine (page_any false frm nx c 7 1 i _ _ false LT T W3 R3.out M3.out.rt (by have := HLT.out; have := HL60.out; have := HT60.out; omega) (by have := HT60.out; omega) false false nx LT (.inr ⟨fun h => (by cases h.1), rfl, rfl, rfl, rfl⟩)).mono ?_
          rintro e V2 ⟨v2, rfl, ho, hb⟩
          obtain ⟨vb, vd, rfl, _⟩ := (Owns.row ho encSn_len (by decide)).open
          obtain ⟨W4, hW4⟩ : ∃ W4, W4 = V2.alloc (.cells #[.bool false, .int .i64 frm, .int .i64 nx, .slice vb (LT).length vd] 33) := ⟨_, rfl⟩
          have hal : Below V2.heap.size V2 W4 := by rw [hW4]; exact (Below.refl _ _).alloc (Nat.le_refl _) _
          have hb4 := hb.trans (hal.mono hb.size)
          have M4 := hid (M3.out.below hb4)
          have N4 := hid (blk_below N3.out hb4 (blk_lt N3.out))
          have R4 := hid (R3.out.below hb4)
          have Q4 := hid (show RowS W4 (.slice vb (LT).length vd) (LT) from (Owns.row ho encSn_len (by decide)).below hal)
          have N50 := (show W4.heap[V2.heap.size]? = some (.cells #[.bool false, .int .i64 frm, .int .i64 nx, .slice vb (LT).length vd] 33) by rw [hW4]; exact heap_new _ _)
          have HW4 := hid hW4
          clear ho hb hal hW4 hb4
          unfold scanV
          go_upto_region 7 with (fail)
          rw [← HW4.out]
          obtain ⟨T7, hT7⟩ : ∃ T7, V2.heap.size = T7 := ⟨_, rfl⟩
          rw [hT7] at N50 ⊢
          have N5 := hid N50
          clear hT7 HW4 N50
          obtain ⟨⟨s0, s1, s2, s3, sl⟩, t0, t1, t2, t3, t4, t5, tl⟩ := M4.out.cells
          obtain ⟨o0, o1, o2, o3, of, ol⟩ := blk4 N4.out
          obtain ⟨p0, p1, p2, p3, pf, pl⟩ := blk4 N5.out
          go_wp2_with fail
          have HSM := hid (same21_any false frm nx _ _ LT W4 Q4.out R4.out)
          unfold scanV at HSM
          refine HSM.out.mono ?_
          rintro e W5 ⟨rfl, hb⟩
          have M5 := hid (M4.out.below hb)
          have N45 := hid (blk_below N4.out hb (blk_lt N4.out))
          clear hb s0 s1 s2 s3 sl t0 t1 t2 t3 t4 t5 tl o0 o1 o2 o3 of ol p0 p1 p2 p3 pf pl
          obtain ⟨⟨s0, s1, s2, s3, sl⟩, t0, t1, t2, t3, t4, t5, tl⟩ := M5.out.cells
          obtain ⟨o0, o1, o2, o3, of, ol⟩ := blk4 N45.out
          have d1 : ((LT.length : Int) == (L.length : Int) + (T.length : Int)) = true := by have := HLT.out; simp; omega
          have d2 : decide (i ≤ nx) = true := decide_eq_true HNX.out
          have d3 : (frm == frm) = true := by simp
          have e1 := HL60.out
          have e2 := HT60.out
          go_wp2_with fail
          refine (HWK.out _ M5.out.bel).mono ?_
          rintro e W9 ⟨rfl, hb⟩
          have HB9 := hid (Below.trans M5.out.bel (hb.mono (M5.out.bel).size))
          clear hb d1 d2 d3 e1 e2
          go_wp2
          go_ret
          exact ⟨rfl, HB9.out⟩
      · refine (page_any on frm beh c k d i _ _ m L T W2 M2.out.rs M2.out.rt (by have := HL60.out; omega) (by have := HT60.out; omega) on false beh L (.inr ⟨hok, rfl, rfl, rfl, rfl⟩)).mono ?_
        rintro e V ⟨v, rfl, ho, hb⟩
        obtain ⟨va, vc, rfl, _⟩ := (Owns.row ho encSn_len (by decide)).open
        obtain ⟨W3, hW3⟩ : ∃ W3, W3 = V.alloc (.cells #[.bool on, .int .i64 frm, .int .i64 beh, .slice va L.length vc] 33) := ⟨_, rfl⟩
        have hal : Below V.heap.size V W3 := by rw [hW3]; exact (Below.refl _ _).alloc (Nat.le_refl _) _
        have M3 := hid (M2.out.below (hb.trans (hal.mono hb.size)))
        have R3 := hid (show RowS W3 (.slice va L.length vc) L from (Owns.row ho encSn_len (by decide)).below hal)
        have N30 := (show W3.heap[V.heap.size]? = some (.cells #[.bool on, .int .i64 frm, .int .i64 beh, .slice va L.length vc] 33) by rw [hW3]; exact heap_new _ _)
        have HW3 := hid hW3
        clear ho hb hal hW3
        unfold scanV
        go_upto_region 4 with (fail)
        rw [← HW3.out]
        obtain ⟨T5, hT5⟩ : ∃ T5, V.heap.size = T5 := ⟨_, rfl⟩
        rw [hT5] at N30 ⊢
        have N3 := hid N30
        clear hT5 HW3 N30
        obtain ⟨⟨s0, s1, s2, s3, sl⟩, t0, t1, t2, t3, t4, t5, tl⟩ := M3.out.cells
        obtain ⟨o0, o1, o2, o3, of, ol⟩ := blk4 N3.out
        have HREST := hid (same21_any on frm beh _ _ L W3 R3.out M3.out.rs)
        have hok4 : on = false ∨ ¬ k = 7 ∨ ¬ d = 1 ∨ ¬ i = beh := by
          cases on with
          | false => exact .inl rfl
          | true =>
            by_cases h1 : k = 7
            · by_cases h2 : d = 1
              · exact .inr (.inr (.inr (fun h3 => hok ⟨rfl, h1, h2, h3⟩)))
              · exact .inr (.inr (.inl h2))
            · exact .inr (.inl h1)
        clear hok
        cases on with
        | false =>
          clear hok4
          go_wp2_with fail
          unfold scanV at HREST
          refine HREST.out.mono ?_
          rintro e W4 ⟨rfl, hb⟩
          have HB4 := hid (M3.out.bel.trans (hb.mono M3.out.bel.size))
          clear hb s0 s1 s2 s3 sl t0 t1 t2 t3 t4 t5 tl o0 o1 o2 o3 of ol
          go_wp2_with fail
          refine (HWK.out _ HB4.out).mono ?_
          rintro e W5 ⟨rfl, hb⟩
          have HB5 := hid (HB4.out.trans (hb.mono HB4.out.size))
          clear hb
          go_wp2
          go_ret
          exact ⟨rfl, HB5.out⟩
        | true =>
          by_cases h1 : k = 7
          · subst h1
            by_cases h2 : d = 1
            · subst h2
              have h3 : ¬ i = beh := by
                rcases hok4 with h | h | h | h
                · cases h
                · exact absurd rfl h
                · exact absurd rfl h
                · exact h
              clear hok4
              go_wp2_with fail
              unfold scanV at HREST
              refine HREST.out.mono ?_
              rintro e W4 ⟨rfl, hb⟩
              have HB4 := hid (M3.out.bel.trans (hb.mono M3.out.bel.size))
              clear hb s0 s1 s2 s3 sl t0 t1 t2 t3 t4 t5 tl o0 o1 o2 o3 of ol
              go_wp2_with fail
              refine (HWK.out _ HB4.out).mono ?_
              rintro e W5 ⟨rfl, hb⟩
              have HB5 := hid (HB4.out.trans (hb.mono HB4.out.size))
              clear hb
              go_wp2
              go_ret
              exact ⟨rfl, HB5.out⟩
            · clear hok4
              go_wp2_with fail
              unfold scanV at HREST
              refine HREST.out.mono ?_
              rintro e W4 ⟨rfl, hb⟩
              have HB4 := hid (M3.out.bel.trans (hb.mono M3.out.bel.size))
              clear hb s0 s1 s2 s3 sl t0 t1 t2 t3 t4 t5 tl o0 o1 o2 o3 of ol
              go_wp2_with fail
              refine (HWK.out _ HB4.out).mono ?_
              rintro e W5 ⟨rfl, hb⟩
              have HB5 := hid (HB4.out.trans (hb.mono HB4.out.size))
              clear hb
              go_wp2
              go_ret
              exact ⟨rfl, HB5.out⟩
          · clear hok4
            go_wp2_with fail
            unfold scanV at HREST
            refine HREST.out.mono ?_
            rintro e W4 ⟨rfl, hb⟩
            have HB4 := hid (M3.out.bel.trans (hb.mono M3.out.bel.size))
            clear hb s0 s1 s2 s3 sl t0 t1 t2 t3 t4 t5 tl o0 o1 o2 o3 of ol
            go_wp2_with fail
            refine (HWK.out _ HB4.out).mono ?_
            rintro e W5 ⟨rfl, hb⟩
            have HB5 := hid (HB4.out.trans (hb.mono HB4.out.size))
            clear hb
            go_wp2
            go_ret
            exact ⟨rfl, HB5.out⟩
end Go.Proofs.YtgcajfglidflnaaDoor
