/- A part of the proofs about open calls: contracts of functions, or plain facts that they want. -/
import Derived.Test.YtljmhmdpihpafaaDoorBgn
namespace Go.Proofs.YtljmhmdpihpafaaDoor
open Go.RowKit Go.Shelf

def openOk (c : CallsV) (k key now : Int) : Bool := rightB c && (kindB k && ((numB key && numB now) && !hasB c.opens k key))
def openErr (c : CallsV) (k key now : Int) : Int := if openOk c k key now then (if c.next < 1048576 then 0 else 241) else 2
def openId (c : CallsV) (k key now : Int) : Int := if openErr c k key now = 0 then c.epoch * 1048576 + c.next else 0
def openC (c : CallsV) (k key now : Int) : CallsV := if openErr c k key now = 0 then ⟨c.epoch, c.next + 1, c.opens ++ [⟨c.epoch * 1048576 + c.next, k, key, now⟩]⟩ else c

/-- The variables that Open's closure has caught. -/
structure OB (n : Nat) (W : World) (ep nx : Int) (s : Value) (kd ky now : Int) (nx' : Int) (v : Value) (id : Int) : Prop where
  b0 : W.heap[n]? = some (.cells #[.int .i64 ep, .int .i64 nx, s] 33)
  b1 : W.heap[n + 1]? = some (.cells #[.int .u8 kd] 5)
  b2 : W.heap[n + 2]? = some (.cells #[.int .i64 ky] 3)
  b3 : W.heap[n + 3]? = some (.cells #[.int .i64 now] 3)
  b4 : W.heap[n + 4]? = some (.cells #[.int .i64 ep, .int .i64 nx', v] 33)
  b5 : W.heap[n + 5]? = some (.cells #[.int .i64 id] 3)

theorem OB.below {n B : Nat} {W W' : World} {ep nx : Int} {s : Value} {kd ky now nx' : Int} {v : Value} {id : Int} (h : OB n W ep nx s kd ky now nx' v id) (hB : Below B W W') (hn : n + 6 ≤ B) : OB n W' ep nx s kd ky now nx' v id :=
  ⟨blk_below h.b0 hB (by omega), blk_below h.b1 hB (by omega), blk_below h.b2 hB (by omega), blk_below h.b3 hB (by omega), blk_below h.b4 hB (by omega), blk_below h.b5 hB (by omega)⟩
theorem OB.size {n : Nat} {W : World} {ep nx : Int} {s : Value} {kd ky now nx' : Int} {v : Value} {id : Int} (h : OB n W ep nx s kd ky now nx' v id) : n + 6 ≤ W.heap.size := blk_lt h.b5

def hi52 (ep : Int) : Prop := 0 ≤ ep ∧ ep ≤ 524288

theorem rightB_in {c : CallsV} (h : rightB c = true) : 0 ≤ c.epoch ∧ c.epoch ≤ 524288 ∧ 1 ≤ c.next ∧ c.next ≤ 1048576 := by
  unfold rightB at h
  simp only [Bool.and_eq_true, decide_eq_true_eq] at h
  exact ⟨h.1.1.1.1, h.1.1.1.2, h.1.1.2, h.1.2⟩

set_option maxHeartbeats 1000000 in
set_option maxRecDepth 10000 in
theorem open1_fail (n : Nat) (ep nx kd ky now : Int) (s v : Value) (L : List CallV) (W : World) (hn : L.length ≤ 1000000) (hs : Row12 W s L) (ob : OB n W ep nx s kd ky now nx v 0)
    (hf : ¬ openErr ⟨ep, nx, L⟩ kd ky now = 0) :
    Calls Tryd.prog 32 #[.pointer (some ⟨n, 0, none⟩), .pointer (some ⟨n + 1, 0, none⟩), .pointer (some ⟨n + 2, 0, none⟩), .pointer (some ⟨n + 3, 0, none⟩), .pointer (some ⟨n + 5, 0, none⟩), .pointer (some ⟨n + 4, 0, none⟩)] W
      fun e w' => e = .panicked (errno (openErr ⟨ep, nx, L⟩ kd ky now)) ∧ Below W.heap.size W w' := by
  obtain ⟨k0, k1, k2, _, l0⟩ := blk3 ob.b0
  obtain ⟨m1, _, l1⟩ := blk1 ob.b1
  obtain ⟨m2, _, l2⟩ := blk1 ob.b2
  obtain ⟨m3, _, l3⟩ := blk1 ob.b3
  have HC := hid (check_any ep nx s L W hn hs)
  have HS := hid hs
  have OBH := hid ob
  clear hs ob
  by_cases e1 : rightB ⟨ep, nx, L⟩ = true
  · have HIN := rightB_in e1
    simp only at HIN
    rw [e1] at HC
    have E1 := hid e1
    clear e1
    by_cases e2 : kindB kd = true
    · obtain ⟨e2a, e2b⟩ := kindB_yes e2
      by_cases e3 : (numB ky && numB now) = true
      · have HE := hid (Bool.and_eq_true_iff.1 e3)
        by_cases e4 : hasB L kd ky = true
        · have herr : openErr ⟨ep, nx, L⟩ kd ky now = 2 := by simp [openErr, openOk, e4]
          rw [herr]
          have E4 := hid e4
          clear e4 herr hf e2 e3

          go_enter Tryd.func32, Tryd.ntmps32
          go_wp2_with fail
          refine HC.out.mono ?_
          rintro e w1 ⟨he, hb⟩
          obtain rfl : e = .returned (.tuple #[]) := he
          clear k0 k1 k2 l0 m1 l1 m2 l2 m3 l3
          have ob1 := OBH.out.below hb (OB.size OBH.out)
          obtain ⟨k0, k1, k2, _, l0⟩ := blk3 ob1.b0
          obtain ⟨m1, _, l1⟩ := blk1 ob1.b1
          obtain ⟨m2, _, l2⟩ := blk1 ob1.b2
          obtain ⟨m3, _, l3⟩ := blk1 ob1.b3
          have OB1 := hid ob1
          clear ob1
          go_wp2_with fail
          refine (kind_yes _ _ e2a e2b).mono ?_
          rintro e w' ⟨rfl, rfl⟩
          go_wp2_with fail
          refine (numbers2_yes _ ky now _ (by simp [go_sem]) (by simp [go_sem]) HE.out.1 HE.out.2).mono ?_
          rintro e w' ⟨rfl, rfl⟩
          have hb2 : Below W.heap.size W (w1.alloc (.cells #[.int .i64 ky, .int .i64 now] 3)) := hb.alloc hb.size _
          have HH := hid (has_row ep nx kd ky s L _ hn (HS.out.below hb2))
          rw [E4.out] at HH
          go_wp2_with fail
          refine HH.out.mono ?_
          rintro e w2 ⟨rfl, hb3⟩
          have hb4 := hb2.trans (hb3.mono hb2.size)
          go_wp2_with (go_at_call 36; refine (must_no _ _).mono ?_; rintro e w' ⟨rfl, rfl⟩)
          exact ⟨rfl, rfl, hb4⟩
        · have e4' : hasB L kd ky = false := by simpa using e4
          have hnx : ¬ nx < 1048576 := by
            intro h
            exact hf (by simp [openErr, openOk, E1.out, e2, e3, e4', h])
          have herr : openErr ⟨ep, nx, L⟩ kd ky now = 241 := by simp [openErr, openOk, E1.out, e2, e3, e4', hnx]
          rw [herr]
          have E4 := hid e4'
          have d9 : decide (nx < 1048576) = false := by simpa using hnx
          clear e4 e4' herr hf e2 e3

          go_enter Tryd.func32, Tryd.ntmps32
          go_wp2_with fail
          refine HC.out.mono ?_
          rintro e w1 ⟨he, hb⟩
          obtain rfl : e = .returned (.tuple #[]) := he
          clear k0 k1 k2 l0 m1 l1 m2 l2 m3 l3
          have ob1 := OBH.out.below hb (OB.size OBH.out)
          obtain ⟨k0, k1, k2, _, l0⟩ := blk3 ob1.b0
          obtain ⟨m1, _, l1⟩ := blk1 ob1.b1
          obtain ⟨m2, _, l2⟩ := blk1 ob1.b2
          obtain ⟨m3, _, l3⟩ := blk1 ob1.b3
          have OB1 := hid ob1
          clear ob1
          go_wp2_with fail
          refine (kind_yes _ _ e2a e2b).mono ?_
          rintro e w' ⟨rfl, rfl⟩
          go_wp2_with fail
          refine (numbers2_yes _ ky now _ (by simp [go_sem]) (by simp [go_sem]) HE.out.1 HE.out.2).mono ?_
          rintro e w' ⟨rfl, rfl⟩
          have hb2 : Below W.heap.size W (w1.alloc (.cells #[.int .i64 ky, .int .i64 now] 3)) := hb.alloc hb.size _
          have HH := hid (has_row ep nx kd ky s L _ hn (HS.out.below hb2))
          rw [E4.out] at HH
          go_wp2_with fail
          refine HH.out.mono ?_
          rintro e w2 ⟨rfl, hb3⟩
          have hb4 := hb2.trans (hb3.mono hb2.size)
          clear k0 k1 k2 l0 m1 l1 m2 l2 m3 l3
          obtain ⟨k0, k1, k2, _, l0⟩ := blk3 (OBH.out.below hb4 (OB.size OBH.out)).b0
          go_wp2_with fail
          refine (must_yes _ _).mono ?_
          rintro e w' ⟨rfl, rfl⟩
          go_wp2_with fail
          refine (must_no _ _).mono ?_
          rintro e w' ⟨rfl, rfl⟩
          exact ⟨rfl, rfl, hb4⟩
      · have e3' : (numB ky && numB now) = false := by simpa using e3
        have herr : openErr ⟨ep, nx, L⟩ kd ky now = 2 := by simp only [openErr, openOk, e3', Bool.false_and, Bool.and_false]; rfl
        rw [herr]
        have E3 := hid e3'
        clear e3 e3' herr hf e2

        go_enter Tryd.func32, Tryd.ntmps32
        go_wp2_with fail
        refine HC.out.mono ?_
        rintro e w1 ⟨he, hb⟩
        obtain rfl : e = .returned (.tuple #[]) := he
        clear k0 k1 k2 l0 m1 l1 m2 l2 m3 l3
        have ob1 := OBH.out.below hb (OB.size OBH.out)
        obtain ⟨k0, k1, k2, _, l0⟩ := blk3 ob1.b0
        obtain ⟨m1, _, l1⟩ := blk1 ob1.b1
        obtain ⟨m2, _, l2⟩ := blk1 ob1.b2
        obtain ⟨m3, _, l3⟩ := blk1 ob1.b3
        have OB1 := hid ob1
        clear ob1
        go_wp2_with fail
        refine (kind_yes _ _ e2a e2b).mono ?_
        rintro e w' ⟨rfl, rfl⟩
        go_wp2_with fail
        refine (numbers2_no _ ky now _ (by simp [go_sem]) (by simp [go_sem]) E3.out).mono ?_
        rintro e w' ⟨rfl, rfl⟩
        exact ⟨rfl, rfl, hb.alloc hb.size _⟩
    · have e2' : kindB kd = false := by simpa using e2
      have herr : openErr ⟨ep, nx, L⟩ kd ky now = 2 := by simp only [openErr, openOk, e2', Bool.false_and, Bool.and_false]; rfl
      rw [herr]
      have E2 := hid (kindB_no e2')
      clear e2 e2' herr hf

      go_enter Tryd.func32, Tryd.ntmps32
      go_wp2_with fail
      refine HC.out.mono ?_
      rintro e w1 ⟨he, hb⟩
      obtain rfl : e = .returned (.tuple #[]) := he
      clear k0 k1 k2 l0 m1 l1 m2 l2 m3 l3
      have ob1 := OBH.out.below hb (OB.size OBH.out)
      obtain ⟨k0, k1, k2, _, l0⟩ := blk3 ob1.b0
      obtain ⟨m1, _, l1⟩ := blk1 ob1.b1
      obtain ⟨m2, _, l2⟩ := blk1 ob1.b2
      obtain ⟨m3, _, l3⟩ := blk1 ob1.b3
      have OB1 := hid ob1
      clear ob1
      go_wp2_with fail
      refine (kind_no _ _ E2.out).mono ?_
      rintro e w' ⟨rfl, rfl⟩
      exact ⟨rfl, rfl, hb⟩
  · have e1' : rightB ⟨ep, nx, L⟩ = false := by simpa using e1
    have herr : openErr ⟨ep, nx, L⟩ kd ky now = 2 := by simp only [openErr, openOk, e1', Bool.false_and]; rfl
    rw [herr]
    rw [e1'] at HC
    clear e1 e1' herr hf
    go_enter Tryd.func32, Tryd.ntmps32
    go_wp2_with fail
    refine HC.out.mono ?_
    rintro e w1 ⟨he, hb⟩
    obtain rfl : e = .panicked (errno 2) := he
    exact ⟨rfl, rfl, hb⟩
end Go.Proofs.YtljmhmdpihpafaaDoor
