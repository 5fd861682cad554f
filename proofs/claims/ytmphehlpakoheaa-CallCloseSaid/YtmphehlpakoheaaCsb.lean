/- CallClose at any arguments. -/
import Derived.Test.YtmphehlpakoheaaCs
import Derived.Test.YtmphehlpakoheaaOpc
namespace Go.Proofs.Ytmphehlpakoheaa
open Go.RowKit Go.Shelf

set_option maxHeartbeats 1000000 in
set_option maxRecDepth 100000 in
theorem close_bad (C : CallsV) (a : Option Addr) (c : Nat) (at' now : Int) (w : World) (hwf : ∀ x ∈ C.opens, x.wf) (hr : Row12 w (.slice a C.opens.length c) C.opens)
    (h : ¬ (C.opens.length ≤ 60 ∧ rightB C = true ∧ 0 < C.opens.length ∧ C.next < 1048576 ∧ 0 ≤ now ∧ now ≤ 1099511627776)) :
    Calls Try.prog 3 #[calls C.epoch C.next (.slice a C.opens.length c), .int .i64 at', .int .i64 now] w fun e w' => e = .returned (.bool true) ∧ Below w.heap.size w w' := by
  have Z0 : Below w.heap.size w (w.alloc (.cells #[.int .i64 C.epoch, .int .i64 C.next, .slice a C.opens.length c] 24)) := (Below.refl _ _).alloc (Nat.le_refl _) _
  have HR := hid (RowOf.below hr Z0)
  have Z := hid Z0
  have B0 := hid (heap_new w (.cells #[.int .i64 C.epoch, .int .i64 C.next, .slice a C.opens.length c] 24))
  have HWF := hid hwf
  clear Z0 hr hwf
  by_cases hl : C.opens.length ≤ 60
  · have d0 : decide ((60 : Int) < (C.opens.length : Int)) = false := by simp; omega
    obtain ⟨rb, hrb⟩ : ∃ rb, rightB C = rb := ⟨_, rfl⟩
    have HRB := hid hrb
    rw [hrb] at h
    clear hrb
    cases rb with
    | false =>
      unfold calls
      go_enter Try.func3, Try.ntmps3
      obtain ⟨b00, b01, b02, b0f, b0l⟩ := blk3 B0.out
      go_wp2_with fail
      clear b00 b01 b02 b0f b0l
      refine (lt_great C _ _ _ _ _ d0).mono ?_
      rintro e v1 ⟨he, hb⟩
      subst he
      have hz := hb.size
      replace B0 := hid (blk_below B0.out hb (blk_lt B0.out))
      have hq : Below (w.alloc (.cells #[.int .i64 C.epoch, .int .i64 C.next, .slice a C.opens.length c] 24)).heap.size (w.alloc (.cells #[.int .i64 C.epoch, .int .i64 C.next, .slice a C.opens.length c] 24)) v1 := hb
      replace HR := hid (RowOf.below HR.out hq)
      replace Z := hid (Z.out.trans (hq.mono Z.out.size))
      clear hb hz hq
      obtain ⟨b00, b01, b02, b0f, b0l⟩ := blk3 B0.out
      go_wp2_with fail
      clear b00 b01 b02 b0f b0l
      refine (lt_right C _ _ _ HRB.out HWF.out HR.out hl).mono ?_
      rintro e v2 ⟨he, hb⟩
      subst he
      have hz := hb.size
      replace B0 := hid (blk_below B0.out hb (blk_lt B0.out))
      have hq : Below v1.heap.size v1 v2 := hb
      replace HR := hid (RowOf.below HR.out hq)
      replace Z := hid (Z.out.trans (hq.mono Z.out.size))
      clear hb hz hq
      obtain ⟨b00, b01, b02, b0f, b0l⟩ := blk3 B0.out
      go_wp2_with fail
      clear b00 b01 b02 b0f b0l
      refine (wakes_any _).mono ?_
      rintro e v3 ⟨he, hb⟩
      subst he
      have hz := hb.size
      replace B0 := hid (blk_below B0.out hb (blk_lt B0.out))
      have hq : Below v2.heap.size v2 v3 := hb
      replace HR := hid (RowOf.below HR.out hq)
      replace Z := hid (Z.out.trans (hq.mono Z.out.size))
      clear hb hz hq
      go_wp2
      go_ret
      exact ⟨rfl, Z.out⟩
    | true =>
      by_cases h1 : 0 < C.opens.length
      · have e1 : ((C.opens.length : Int) == 0) = false := by rw [beq_eq_false_iff_ne]; omega
        by_cases h2 : C.next < 1048576
        · have e2 : decide (1048576 ≤ C.next) = false := by simp; omega
          by_cases h3 : 0 ≤ now
          · have e3 : decide (now < 0) = false := by simpa using h3
            have h4 : ¬ now ≤ 1099511627776 := fun h4 => h ⟨hl, rfl, h1, h2, h3, h4⟩
            have e4 : decide (1099511627776 < now) = true := by simp; omega
            unfold calls
            go_enter Try.func3, Try.ntmps3
            obtain ⟨b00, b01, b02, b0f, b0l⟩ := blk3 B0.out
            go_wp2_with fail
            clear b00 b01 b02 b0f b0l
            refine (lt_great C _ _ _ _ _ d0).mono ?_
            rintro e v1 ⟨he, hb⟩
            subst he
            have hz := hb.size
            replace B0 := hid (blk_below B0.out hb (blk_lt B0.out))
            have hq : Below (w.alloc (.cells #[.int .i64 C.epoch, .int .i64 C.next, .slice a C.opens.length c] 24)).heap.size (w.alloc (.cells #[.int .i64 C.epoch, .int .i64 C.next, .slice a C.opens.length c] 24)) v1 := hb
            replace HR := hid (RowOf.below HR.out hq)
            replace Z := hid (Z.out.trans (hq.mono Z.out.size))
            clear hb hz hq
            obtain ⟨b00, b01, b02, b0f, b0l⟩ := blk3 B0.out
            go_wp2_with fail
            clear b00 b01 b02 b0f b0l
            refine (lt_right C _ _ _ HRB.out HWF.out HR.out hl).mono ?_
            rintro e v2 ⟨he, hb⟩
            subst he
            have hz := hb.size
            replace B0 := hid (blk_below B0.out hb (blk_lt B0.out))
            have hq : Below v1.heap.size v1 v2 := hb
            replace HR := hid (RowOf.below HR.out hq)
            replace Z := hid (Z.out.trans (hq.mono Z.out.size))
            clear hb hz hq
            obtain ⟨b00, b01, b02, b0f, b0l⟩ := blk3 B0.out
            go_wp2_with fail
            clear b00 b01 b02 b0f b0l
            refine (wakes_any _).mono ?_
            rintro e v3 ⟨he, hb⟩
            subst he
            have hz := hb.size
            replace B0 := hid (blk_below B0.out hb (blk_lt B0.out))
            have hq : Below v2.heap.size v2 v3 := hb
            replace HR := hid (RowOf.below HR.out hq)
            replace Z := hid (Z.out.trans (hq.mono Z.out.size))
            clear hb hz hq
            go_wp2
            go_ret
            exact ⟨rfl, Z.out⟩
          · have e3 : decide (now < 0) = true := by simp; omega
            unfold calls
            go_enter Try.func3, Try.ntmps3
            obtain ⟨b00, b01, b02, b0f, b0l⟩ := blk3 B0.out
            go_wp2_with fail
            clear b00 b01 b02 b0f b0l
            refine (lt_great C _ _ _ _ _ d0).mono ?_
            rintro e v1 ⟨he, hb⟩
            subst he
            have hz := hb.size
            replace B0 := hid (blk_below B0.out hb (blk_lt B0.out))
            have hq : Below (w.alloc (.cells #[.int .i64 C.epoch, .int .i64 C.next, .slice a C.opens.length c] 24)).heap.size (w.alloc (.cells #[.int .i64 C.epoch, .int .i64 C.next, .slice a C.opens.length c] 24)) v1 := hb
            replace HR := hid (RowOf.below HR.out hq)
            replace Z := hid (Z.out.trans (hq.mono Z.out.size))
            clear hb hz hq
            obtain ⟨b00, b01, b02, b0f, b0l⟩ := blk3 B0.out
            go_wp2_with fail
            clear b00 b01 b02 b0f b0l
            refine (lt_right C _ _ _ HRB.out HWF.out HR.out hl).mono ?_
            rintro e v2 ⟨he, hb⟩
            subst he
            have hz := hb.size
            replace B0 := hid (blk_below B0.out hb (blk_lt B0.out))
            have hq : Below v1.heap.size v1 v2 := hb
            replace HR := hid (RowOf.below HR.out hq)
            replace Z := hid (Z.out.trans (hq.mono Z.out.size))
            clear hb hz hq
            obtain ⟨b00, b01, b02, b0f, b0l⟩ := blk3 B0.out
            go_wp2_with fail
            clear b00 b01 b02 b0f b0l
            refine (wakes_any _).mono ?_
            rintro e v3 ⟨he, hb⟩
            subst he
            have hz := hb.size
            replace B0 := hid (blk_below B0.out hb (blk_lt B0.out))
            have hq : Below v2.heap.size v2 v3 := hb
            replace HR := hid (RowOf.below HR.out hq)
            replace Z := hid (Z.out.trans (hq.mono Z.out.size))
            clear hb hz hq
            go_wp2
            go_ret
            exact ⟨rfl, Z.out⟩
        · have e2 : decide (1048576 ≤ C.next) = true := by simp; omega
          unfold calls
          go_enter Try.func3, Try.ntmps3
          obtain ⟨b00, b01, b02, b0f, b0l⟩ := blk3 B0.out
          go_wp2_with fail
          clear b00 b01 b02 b0f b0l
          refine (lt_great C _ _ _ _ _ d0).mono ?_
          rintro e v1 ⟨he, hb⟩
          subst he
          have hz := hb.size
          replace B0 := hid (blk_below B0.out hb (blk_lt B0.out))
          have hq : Below (w.alloc (.cells #[.int .i64 C.epoch, .int .i64 C.next, .slice a C.opens.length c] 24)).heap.size (w.alloc (.cells #[.int .i64 C.epoch, .int .i64 C.next, .slice a C.opens.length c] 24)) v1 := hb
          replace HR := hid (RowOf.below HR.out hq)
          replace Z := hid (Z.out.trans (hq.mono Z.out.size))
          clear hb hz hq
          obtain ⟨b00, b01, b02, b0f, b0l⟩ := blk3 B0.out
          go_wp2_with fail
          clear b00 b01 b02 b0f b0l
          refine (lt_right C _ _ _ HRB.out HWF.out HR.out hl).mono ?_
          rintro e v2 ⟨he, hb⟩
          subst he
          have hz := hb.size
          replace B0 := hid (blk_below B0.out hb (blk_lt B0.out))
          have hq : Below v1.heap.size v1 v2 := hb
          replace HR := hid (RowOf.below HR.out hq)
          replace Z := hid (Z.out.trans (hq.mono Z.out.size))
          clear hb hz hq
          obtain ⟨b00, b01, b02, b0f, b0l⟩ := blk3 B0.out
          go_wp2_with fail
          clear b00 b01 b02 b0f b0l
          refine (wakes_any _).mono ?_
          rintro e v3 ⟨he, hb⟩
          subst he
          have hz := hb.size
          replace B0 := hid (blk_below B0.out hb (blk_lt B0.out))
          have hq : Below v2.heap.size v2 v3 := hb
          replace HR := hid (RowOf.below HR.out hq)
          replace Z := hid (Z.out.trans (hq.mono Z.out.size))
          clear hb hz hq
          go_wp2
          go_ret
          exact ⟨rfl, Z.out⟩
      · have e1 : ((C.opens.length : Int) == 0) = true := by rw [beq_iff_eq]; omega
        unfold calls
        go_enter Try.func3, Try.ntmps3
        obtain ⟨b00, b01, b02, b0f, b0l⟩ := blk3 B0.out
        go_wp2_with fail
        clear b00 b01 b02 b0f b0l
        refine (lt_great C _ _ _ _ _ d0).mono ?_
        rintro e v1 ⟨he, hb⟩
        subst he
        have hz := hb.size
        replace B0 := hid (blk_below B0.out hb (blk_lt B0.out))
        have hq : Below (w.alloc (.cells #[.int .i64 C.epoch, .int .i64 C.next, .slice a C.opens.length c] 24)).heap.size (w.alloc (.cells #[.int .i64 C.epoch, .int .i64 C.next, .slice a C.opens.length c] 24)) v1 := hb
        replace HR := hid (RowOf.below HR.out hq)
        replace Z := hid (Z.out.trans (hq.mono Z.out.size))
        clear hb hz hq
        obtain ⟨b00, b01, b02, b0f, b0l⟩ := blk3 B0.out
        go_wp2_with fail
        clear b00 b01 b02 b0f b0l
        refine (lt_right C _ _ _ HRB.out HWF.out HR.out hl).mono ?_
        rintro e v2 ⟨he, hb⟩
        subst he
        have hz := hb.size
        replace B0 := hid (blk_below B0.out hb (blk_lt B0.out))
        have hq : Below v1.heap.size v1 v2 := hb
        replace HR := hid (RowOf.below HR.out hq)
        replace Z := hid (Z.out.trans (hq.mono Z.out.size))
        clear hb hz hq
        obtain ⟨b00, b01, b02, b0f, b0l⟩ := blk3 B0.out
        go_wp2_with fail
        clear b00 b01 b02 b0f b0l
        refine (wakes_any _).mono ?_
        rintro e v3 ⟨he, hb⟩
        subst he
        have hz := hb.size
        replace B0 := hid (blk_below B0.out hb (blk_lt B0.out))
        have hq : Below v2.heap.size v2 v3 := hb
        replace HR := hid (RowOf.below HR.out hq)
        replace Z := hid (Z.out.trans (hq.mono Z.out.size))
        clear hb hz hq
        go_wp2
        go_ret
        exact ⟨rfl, Z.out⟩
  · have d0 : decide ((60 : Int) < (C.opens.length : Int)) = true := by simp; omega
    unfold calls
    go_enter Try.func3, Try.ntmps3
    obtain ⟨b00, b01, b02, b0f, b0l⟩ := blk3 B0.out
    go_wp2_with fail
    clear b00 b01 b02 b0f b0l
    refine (lt_great C _ _ _ _ _ d0).mono ?_
    rintro e v1 ⟨he, hb⟩
    subst he
    have hz := hb.size
    replace B0 := hid (blk_below B0.out hb (blk_lt B0.out))
    have hq : Below (w.alloc (.cells #[.int .i64 C.epoch, .int .i64 C.next, .slice a C.opens.length c] 24)).heap.size (w.alloc (.cells #[.int .i64 C.epoch, .int .i64 C.next, .slice a C.opens.length c] 24)) v1 := hb
    replace HR := hid (RowOf.below HR.out hq)
    replace Z := hid (Z.out.trans (hq.mono Z.out.size))
    clear hb hz hq
    obtain ⟨b00, b01, b02, b0f, b0l⟩ := blk3 B0.out
    go_wp2_with fail
    clear b00 b01 b02 b0f b0l
    refine (wakes_any _).mono ?_
    rintro e v2 ⟨he, hb⟩
    subst he
    have hz := hb.size
    replace B0 := hid (blk_below B0.out hb (blk_lt B0.out))
    have hq : Below v1.heap.size v1 v2 := hb
    replace HR := hid (RowOf.below HR.out hq)
    replace Z := hid (Z.out.trans (hq.mono Z.out.size))
    clear hb hz hq
    go_wp2
    go_ret
    exact ⟨rfl, Z.out⟩

theorem close_walk (C : CallsV) (s : Value) (at' now : Int) (w : World) (hwf : C.wf) (hr : Row12 w s C.opens) :
    Calls Try.prog 3 #[calls C.epoch C.next s, .int .i64 at', .int .i64 now] w fun e w' => e = .returned (.bool true) ∧ Below w.heap.size w w' := by
  by_cases h : C.opens.length ≤ 60 ∧ rightB C = true ∧ 0 < C.opens.length ∧ C.next < 1048576 ∧ 0 ≤ now ∧ now ≤ 1099511627776
  · exact close_good C s at' now w h.1 hwf.2.2 h.2.1 h.2.2.1 h.2.2.2.1 h.2.2.2.2.1 h.2.2.2.2.2 hr
  · obtain ⟨a, c, rfl⟩ := shape_row hr
    exact close_bad C a c at' now w hwf.2.2 hr h
end Go.Proofs.Ytmphehlpakoheaa
