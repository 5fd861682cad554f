
/- A part of the proofs about open calls: contracts of functions, or plain facts that they want. -/
import Derived.Test.YthhgpiolcnojfaaDoorTold
import Derived.Test.YthhgpiolcnojfaaDoorMp
namespace Go.Proofs.YthhgpiolcnojfaaDoor
open Go.RowKit Go.Shelf

def goR (hi : Int) : Int → List (Int × Int) → List CallV → Bool
  | _, _, [] => true
  | last, seen, x :: xs => kindB x.kind && numB x.key && numB x.sent && decide (last < x.id) && decide (x.id < hi) && decide ((x.kind, x.key) ∉ seen) && goR hi x.id (seen ++ [(x.kind, x.key)]) xs

def crightB (c : CallsV) : Bool :=
  decide (0 ≤ c.epoch) && decide (c.epoch ≤ 524288) && decide (1 ≤ c.next) && decide (c.next ≤ 1048576) && goR (c.epoch * 1048576 + c.next) (c.epoch * 1048576) [] c.opens

theorem drop_get {α : Type} {l : List α} {k : Nat} {x : α} (h : l[k]? = some x) : l.drop k = x :: l.drop (k + 1) := by
  obtain ⟨hk, rfl⟩ := List.getElem?_eq_some_iff.1 h
  exact List.drop_eq_getElem_cons hk

theorem goR_step {hi last : Int} {seen : List (Int × Int)} {x : CallV} {xs : List CallV} (h1 : kindB x.kind = true) (h2 : numB x.key = true) (h3 : numB x.sent = true) (h4 : last < x.id) (h5 : x.id < hi) (h6 : (x.kind, x.key) ∉ seen) :
    goR hi last seen (x :: xs) = goR hi x.id (seen ++ [(x.kind, x.key)]) xs := by
  rw [goR]; simp [h1, h2, h3, h4, h5, h6]
theorem goR_not {hi last : Int} {seen : List (Int × Int)} {x : CallV} {xs : List CallV} (h : ¬ (kindB x.kind = true ∧ (numB x.key && numB x.sent) = true ∧ last < x.id ∧ x.id < hi ∧ (x.kind, x.key) ∉ seen)) :
    goR hi last seen (x :: xs) = false := by
  rw [goR]
  simp only [Bool.and_eq_true] at h
  apply Bool.eq_false_iff.2
  simp only [Bool.and_eq_true, decide_eq_true_eq, ne_eq]
  rintro ⟨⟨⟨⟨⟨⟨a, b⟩, c⟩, d⟩, e⟩, f⟩, _⟩
  exact h ⟨a, ⟨b, c⟩, d, e, f⟩
theorem endsBy_no {b : Bool} {n : Int} (h : b = false) : EndsBy b n (.panicked (errno n)) := by subst h; rfl
theorem endsBy_yes {b : Bool} {n : Int} (h : b = true) : EndsBy b n (.returned (.tuple #[])) := by subst h; rfl

/-- The round's state in 'check'. -/
structure ChkR (l : List CallV) (ep nx : Int) (B : Nat) (W : World) (m : Nat) (k : Nat) (last : Int) (seen : List (Int × Int)) (wr : World) : Prop where
  le : k ≤ l.length
  lo : 0 ≤ last
  hi : last ≤ 1099511627776
  map : SeenMap wr m seen
  same : goR (ep * 1048576 + nx) last seen (l.drop k) = goR (ep * 1048576 + nx) (ep * 1048576) [] l
  below : Below B W wr

set_option maxHeartbeats 400000 in
set_option maxRecDepth 100000 in
theorem check_in (ep nx : Int) (s : Value) (l : List CallV) (w : World) (hn : l.length ≤ 1000000) (hs : Row12 w s l)
    (h1 : 0 ≤ ep) (h2 : ep ≤ 524288) (h3 : 1 ≤ nx) (h4 : nx ≤ 1048576) :
    Calls Tryd.prog 44 #[calls ep nx s] w fun e w' => EndsBy (goR (ep * 1048576 + nx) (ep * 1048576) [] l) 2 e ∧ Below w.heap.size w w' := by
  unfold calls
  obtain ⟨a, c, rfl, hl1, hl2, hl3, hop⟩ := hs.open
  have HOP := hid hop
  clear hop hs
  have hmm := @run_makeMap Tryd.prog
  have d1 : decide (0 ≤ ep) = true := by simpa using h1
  have d2 : decide (ep ≤ 524288) = true := by simpa using h2
  have d3 : decide (1 ≤ nx) = true := by simpa using h3
  have d4 : decide (nx ≤ 1048576) = true := by simpa using h4
  go_enter Tryd.func44, Tryd.ntmps44
  go_wp2_with (go_at_call 57; refine (must_yes _ _).mono ?_; rintro e w' ⟨rfl, rfl⟩)
  have hW0 : ∃ W0 : World, W0 = w.alloc (.cells #[.int .i64 ep, .int .i64 nx, .slice a l.length c] 37) := ⟨_, rfl⟩
  obtain ⟨W0, hW0⟩ := hW0
  have HW0 := hid hW0
  go_loopw [2, 33] (fun la i wr => ∃ (k : Nat) (last : Int) (seen : List (Int × Int)), i = .int .i64 k ∧ la = .int .i64 last ∧ ChkR l ep nx (w.heap.size + 1) W0 (w.heap.size + 1) k last seen wr) (fun _ i _ => l.length - (intOf i).toNat)
  case atStart =>
    refine ⟨0, ep * 1048576, [], rfl, rfl, ⟨Nat.zero_le _, by omega, by omega, ?_, rfl, ?_⟩⟩
    · exact ⟨#[], 0, heap_new2 _ _ _, rfl, by simp⟩
    · rw [HW0.out]; exact (Below.refl _ _).alloc (by simp) _
  case round =>
    obtain ⟨k, last, seen, rfl, rfl, hR⟩ := hrel
    have hk := hR.le
    have hlo := hR.lo
    have hhi := hR.hi
    have HM := hid hR.map
    have HSm := hid hR.same
    have hB := hR.below
    obtain ⟨hc, hf⟩ := bcell hB
    have hsz := hB.size
    clear hR
    subst hW0
    simp at hsz
    by_cases hlt : k < l.length
    · obtain ⟨b, off, rfl, hb, hrow⟩ := HOP.out (by omega)
      obtain ⟨x, hx⟩ := get_lt hlt
      obtain ⟨g0, g1, g2, g3⟩ := row4 hrow hx
      have HD := hid (drop_get hx)
      clear hx
      have z0 : w.heap.size < wr.heap.size := by omega
      have z1 : w.heap.size < wr.heap.size + 1 := by omega
      have z2 : w.heap.size < wr.heap.size + 1 + 1 := by omega
      have hB0 : Below w.heap.size w wr := ((Below.refl _ _).alloc (Nat.le_refl _) _).trans (hB.mono (by omega))
      by_cases e1 : kindB x.kind = true
      · obtain ⟨e1a, e1b⟩ := kindB_yes e1
        have E1 := hid e1
        clear e1
        by_cases e2 : (numB x.key && numB x.sent) = true
        · have HE := hid (Bool.and_eq_true_iff.1 e2)
          obtain ⟨k1, k2⟩ := numB_yes HE.out.1
          clear e2
          by_cases e3 : last < x.id
          · have f1 : decide (last < x.id) = true := by simpa using e3
            by_cases e4 : x.id < ep * 1048576 + nx
            · have f2 : decide (x.id < ep * 1048576 + nx) = true := by simpa using e4
              have hlook : ∀ o1 o2 o3, (Instr.lookup 123 (.map (some (w.heap.size + 1))) (.agg #[.int .i64 x.kind, .int .i64 x.key]) false).run Tryd.prog (((wr.alloc o1).alloc o2).alloc o3) = .ok (.bool (decide ((x.kind, x.key) ∈ seen))) (((wr.alloc o1).alloc o2).alloc o3) :=
                fun o1 o2 o3 => lookup_run (x.kind, x.key) (((wr.alloc o1).alloc o2).alloc o3) (w.heap.size + 1) seen (((HM.out.alloc o1).alloc o2).alloc o3)
              by_cases e5 : (x.kind, x.key) ∈ seen
              · have E5 := hid e5
                rw [decide_eq_true e5] at hlook
                clear e5
                go_wp2_with (first | (go_at_call 58; refine (kind_yes _ _ e1a e1b).mono ?_; rintro e w' ⟨rfl, rfl⟩) | (go_at_call 59; refine (numbers2_yes _ x.key x.sent _ (by simp [go_sem]) (by simp [go_sem]) HE.out.1 HE.out.2).mono ?_; rintro e w' ⟨rfl, rfl⟩) | (go_at_call 57; refine (must_no _ _).mono ?_; rintro e w' ⟨rfl, rfl⟩))
                refine ⟨rfl, endsBy_no (by rw [← HSm.out, HD.out]; exact goR_not fun h => h.2.2.2.2 E5.out), ?_⟩
                exact (((hB0.alloc (by omega) _).alloc (by simp; omega) _).alloc (by simp; omega) _)
              · rw [decide_eq_false e5] at hlook
                obtain ⟨w2, hrun, hmap2, hgrow⟩ := update_run (x.kind, x.key) ((((wr.alloc (.cells #[.int .i64 x.id, .int .u8 x.kind, .int .i64 x.key, .int .i64 x.sent] 23)).alloc (.cells #[.int .i64 x.key, .int .i64 x.sent] 3)).alloc (.cells #[.int .i64 x.kind, .int .i64 x.key] 126)).drew) (w.heap.size + 1) seen (((HM.out.alloc _).alloc _).alloc _).drew e5
                simp only [encK] at hrun
                have E5 := hid e5
                clear e5
                go_wp2_with (first | (go_at_call 58; refine (kind_yes _ _ e1a e1b).mono ?_; rintro e w' ⟨rfl, rfl⟩) | (go_at_call 59; refine (numbers2_yes _ x.key x.sent _ (by simp [go_sem]) (by simp [go_sem]) HE.out.1 HE.out.2).mono ?_; rintro e w' ⟨rfl, rfl⟩) | (go_at_call 57; refine (must_yes _ _).mono ?_; rintro e w' ⟨rfl, rfl⟩))
                go_region
                all_goals go_wp2
                go_roundw
                case rel =>
                  refine ⟨k + 1, x.id, seen ++ [(x.kind, x.key)], by go_num, rfl, ⟨by omega, by omega, by omega, hmap2, ?_, ?_⟩⟩
                  · rw [← HSm.out, HD.out, goR_step E1.out HE.out.1 HE.out.2 e3 e4 E5.out]
                  · exact ((((hB.alloc (by omega) _).alloc (by simp; omega) _).alloc (by simp; omega) _).drew).grown hgrow (by simp; omega) (fun k e => by cases e; omega)
                case measure => simp [intOf]; omega
            · have f2 : decide (x.id < ep * 1048576 + nx) = false := by simpa using e4
              go_wp2_with (first | (go_at_call 58; refine (kind_yes _ _ e1a e1b).mono ?_; rintro e w' ⟨rfl, rfl⟩) | (go_at_call 59; refine (numbers2_yes _ x.key x.sent _ (by simp [go_sem]) (by simp [go_sem]) HE.out.1 HE.out.2).mono ?_; rintro e w' ⟨rfl, rfl⟩) | (go_at_call 57; refine (must_no _ _).mono ?_; rintro e w' ⟨rfl, rfl⟩))
              refine ⟨rfl, endsBy_no (by rw [← HSm.out, HD.out]; exact goR_not fun h => by have := h.2.2.2.1; omega), ?_⟩
              exact (((hB0.alloc (by omega) _).alloc (by simp; omega) _).alloc (by simp; omega) _)
          · have f1 : decide (last < x.id) = false := by simpa using e3
            go_wp2_with (first | (go_at_call 58; refine (kind_yes _ _ e1a e1b).mono ?_; rintro e w' ⟨rfl, rfl⟩) | (go_at_call 59; refine (numbers2_yes _ x.key x.sent _ (by simp [go_sem]) (by simp [go_sem]) HE.out.1 HE.out.2).mono ?_; rintro e w' ⟨rfl, rfl⟩) | (go_at_call 57; refine (must_no _ _).mono ?_; rintro e w' ⟨rfl, rfl⟩))
            refine ⟨rfl, endsBy_no (by rw [← HSm.out, HD.out]; exact goR_not fun h => by have := h.2.2.1; omega), ?_⟩
            exact (((hB0.alloc (by omega) _).alloc (by simp; omega) _).alloc (by simp; omega) _)
        · have e2' : (numB x.key && numB x.sent) = false := by simpa using e2
          have E2 := hid e2
          have E2' := hid e2'
          clear e2 e2'
          go_wp2_with (first | (go_at_call 58; refine (kind_yes _ _ e1a e1b).mono ?_; rintro e w' ⟨rfl, rfl⟩) | (go_at_call 59; refine (numbers2_no _ x.key x.sent _ (by simp [go_sem]) (by simp [go_sem]) E2'.out).mono ?_; rintro e w' ⟨rfl, rfl⟩))
          refine ⟨rfl, endsBy_no (by rw [← HSm.out, HD.out]; exact goR_not fun h => E2.out h.2.1), ?_⟩
          exact ((hB0.alloc (by omega) _).alloc (by simp; omega) _)
      · have e1' := kindB_no (by simpa using e1)
        have E1 := hid e1
        have E1' := hid e1'
        clear e1 e1'
        go_wp2_with (go_at_call 58; refine (kind_no _ _ E1'.out).mono ?_; rintro e w' ⟨rfl, rfl⟩)
        refine ⟨rfl, endsBy_no (by rw [← HSm.out, HD.out]; exact goR_not fun h => E1.out h.1), ?_⟩
        exact (hB0.alloc (by omega) _)
    · obtain rfl : k = l.length := by omega
      go_wp2
      go_end0
      refine ⟨endsBy_yes ?_, ((Below.refl _ _).alloc (Nat.le_refl _) _).trans (hB.mono (by omega))⟩
      rw [← HSm.out, List.drop_length, goR]
end Go.Proofs.YthhgpiolcnojfaaDoor
