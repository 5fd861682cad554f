/- Arguments that are calls, opened: they read as calls; and CallLate at any arguments. -/
import Derived.Test.YtmphehlpakoheaaLt
import Derived.Test.YtmphehlpakoheaaOpr
namespace Go.Proofs.Ytmphehlpakoheaa
open Go.ChangeShapes Go.WideShapes Go.ChangeAt Go.RowKit Go.Deep Go.Joins

section
variable {H : Type} {enc : TypeId × Value → H} {w : World}

theorem read_call (n : Nat) (cs : List Value) (y : DataW H × List MemPlace) (h : DataW.trod enc Try.prog w 0 (fun _ => true) true n 28 cs = some y) : ∃ x : CallV, x.wf ∧ encC x = cs := by
  have hs : Try.prog.underlying 28 = some (.struct (Try.prog.fieldsOf 28)) := by kernel_rfl
  obtain ⟨ys, n', hn', hy, hlen, hyl, hf⟩ := DataW.trod_struct hs h
  rw [show Try.prog.cellsOf 28 = 4 by kernel_rfl] at hlen
  match cs, hlen with
  | [c0, c1, c2, c3], _ =>
    obtain ⟨a0, rfl, w0⟩ := int_read Try.underlying3 (field_read (T := 28) (i := 0) (ty := 3) (off := 0) (by kernel_rfl) (by kernel_rfl) hyl hf)
    obtain ⟨a1, rfl, w1⟩ := int_read Try.underlying5 (field_read (T := 28) (i := 1) (ty := 5) (off := 1) (by kernel_rfl) (by kernel_rfl) hyl hf)
    obtain ⟨a2, rfl, w2⟩ := int_read Try.underlying3 (field_read (T := 28) (i := 2) (ty := 3) (off := 2) (by kernel_rfl) (by kernel_rfl) hyl hf)
    obtain ⟨a3, rfl, w3⟩ := int_read Try.underlying3 (field_read (T := 28) (i := 3) (ty := 3) (off := 3) (by kernel_rfl) (by kernel_rfl) hyl hf)
    exact ⟨⟨a0, a1, a2, a3⟩, ⟨wf_in64 w0, wf_in8 w1, wf_in64 w2, wf_in64 w3⟩, rfl⟩

theorem open_calls {r : Reach} {base : Nat} {v : Value} {x : DataW H × List MemPlace} (hv : Value.okWide Try.prog w r base 24 v) (h : ∃ fu, DataW.trod enc Try.prog w 0 (fun _ => true) true fu 24 v.cells.toList = some x) :
    ∃ (C : CallsV) (s : Value), C.wf ∧ v = calls C.epoch C.next s ∧ Row12 w s C.opens := by
  have hs : Try.prog.underlying 24 = some (.struct (Try.prog.fieldsOf 24)) := by kernel_rfl
  obtain ⟨fu, h⟩ := h
  obtain ⟨cs, rfl, hsz⟩ := okWide_struct hs hv
  rw [show Try.prog.cellsOf 24 = 3 by kernel_rfl] at hsz
  rw [show (Value.agg cs).cells.toList = cs.toList from rfl] at h
  obtain ⟨ys, n', hn', hy, hlen, hyl, hf⟩ := DataW.trod_struct hs h
  obtain ⟨c0, c1, c2, rfl⟩ : ∃ c0 c1 c2, cs = #[c0, c1, c2] := by
    obtain ⟨l⟩ := cs
    match l, hsz with
    | [c0, c1, c2], _ => exact ⟨c0, c1, c2, rfl⟩
  obtain ⟨a0, rfl, w0⟩ := int_read Try.underlying3 (field_read (T := 24) (i := 0) (ty := 3) (off := 0) (by kernel_rfl) (by kernel_rfl) hyl hf)
  obtain ⟨a1, rfl, w1⟩ := int_read Try.underlying3 (field_read (T := 24) (i := 1) (ty := 3) (off := 1) (by kernel_rfl) (by kernel_rfl) hyl hf)
  obtain ⟨y2, h2⟩ := field_read (T := 24) (i := 2) (ty := 22) (off := 2) (by kernel_rfl) (by kernel_rfl) hyl hf
  obtain ⟨l, hr, hw⟩ := open_rows (k := 4) (en := encC) Try.underlying22 (by kernel_rfl) (by decide) (fun _ => rfl) read_call h2
  exact ⟨⟨a0, a1, l⟩, c2, ⟨wf_in64 w0, wf_in64 w1, hw⟩, rfl, hr⟩
end

set_option maxHeartbeats 1000000 in
set_option maxRecDepth 100000 in
theorem late_bad (C : CallsV) (a : Option Addr) (c : Nat) (now tm : Int) (w : World) (hwf : ∀ x ∈ C.opens, x.wf) (hr : Row12 w (.slice a C.opens.length c) C.opens)
    (h : ¬ (C.opens.length ≤ 60 ∧ rightB C = true ∧ 0 ≤ now ∧ now ≤ 1099511627776 ∧ 0 ≤ tm ∧ tm ≤ 1099511627776)) :
    Calls Try.prog 6 #[calls C.epoch C.next (.slice a C.opens.length c), .int .i64 now, .int .i64 tm] w fun e w' => e = .returned (.bool true) ∧ Below w.heap.size w w' := by
  have Z0 : Below w.heap.size w (w.alloc (.cells #[.int .i64 C.epoch, .int .i64 C.next, .slice a C.opens.length c] 24)) := (Below.refl _ _).alloc (Nat.le_refl _) _
  have HR := hid (RowOf.below hr Z0)
  have Z := hid Z0
  have B0 := hid (heap_new w (.cells #[.int .i64 C.epoch, .int .i64 C.next, .slice a C.opens.length c] 24))
  have HWF := hid hwf
  clear Z0 hr hwf
  by_cases hl : C.opens.length ≤ 60
  · have d0 : decide ((60 : Int) < (C.opens.length : Int)) = false := by simp; omega
    obtain ⟨rb, hrb⟩ : ∃ rb, rightB C = rb := ⟨_, rfl⟩
    have HRB := hid hrb
    rw [hrb] at h
    clear hrb
    cases rb with
    | false =>
      unfold calls
      go_enter Try.func6, Try.ntmps6
      obtain ⟨b00, b01, b02, b0f, b0l⟩ := blk3 B0.out
      go_wp2_with fail
      clear b00 b01 b02 b0f b0l
      refine (lt_great C _ _ _ _ _ d0).mono ?_
      rintro e v1 ⟨he, hb⟩
      subst he
      have hz := hb.size
      replace B0 := hid (blk_below B0.out hb (blk_lt B0.out))
      have hq : Below (w.alloc (.cells #[.int .i64 C.epoch, .int .i64 C.next, .slice a C.opens.length c] 24)).heap.size (w.alloc (.cells #[.int .i64 C.epoch, .int .i64 C.next, .slice a C.opens.length c] 24)) v1 := hb
      replace HR := hid (RowOf.below HR.out hq)
      replace Z := hid (Z.out.trans (hq.mono Z.out.size))
      clear hb hz hq
      obtain ⟨b00, b01, b02, b0f, b0l⟩ := blk3 B0.out
      go_wp2_with fail
      clear b00 b01 b02 b0f b0l
      refine (lt_right C _ _ _ HRB.out HWF.out HR.out hl).mono ?_
      rintro e v2 ⟨he, hb⟩
      subst he
      have hz := hb.size
      replace B0 := hid (blk_below B0.out hb (blk_lt B0.out))
      have hq : Below v1.heap.size v1 v2 := hb
      replace HR := hid (RowOf.below HR.out hq)
      replace Z := hid (Z.out.trans (hq.mono Z.out.size))
      clear hb hz hq
      obtain ⟨b00, b01, b02, b0f, b0l⟩ := blk3 B0.out
      go_wp2_with fail
      clear b00 b01 b02 b0f b0l
      refine (wakes_any _).mono ?_
      rintro e v3 ⟨he, hb⟩
      subst he
      have hz := hb.size
      replace B0 := hid (blk_below B0.out hb (blk_lt B0.out))
      have hq : Below v2.heap.size v2 v3 := hb
      replace HR := hid (RowOf.below HR.out hq)
      replace Z := hid (Z.out.trans (hq.mono Z.out.size))
      clear hb hz hq
      go_wp2
      go_ret
      exact ⟨rfl, Z.out⟩
    | true =>
      by_cases h1 : 0 ≤ now
      · have e1 : decide (now < 0) = false := by simpa using h1
        by_cases h2 : now ≤ 1099511627776
        · have e2 : decide (1099511627776 < now) = false := by simpa using h2
          by_cases h3 : 0 ≤ tm
          · have e3 : decide (tm < 0) = false := by simpa using h3
            have h4 : ¬ tm ≤ 1099511627776 := fun h4 => h ⟨hl, rfl, h1, h2, h3, h4⟩
            have e4 : decide (1099511627776 < tm) = true := by simp; omega
            unfold calls
            go_enter Try.func6, Try.ntmps6
            obtain ⟨b00, b01, b02, b0f, b0l⟩ := blk3 B0.out
            go_wp2_with fail
            clear b00 b01 b02 b0f b0l
            refine (lt_great C _ _ _ _ _ d0).mono ?_
            rintro e v1 ⟨he, hb⟩
            subst he
            have hz := hb.size
            replace B0 := hid (blk_below B0.out hb (blk_lt B0.out))
            have hq : Below (w.alloc (.cells #[.int .i64 C.epoch, .int .i64 C.next, .slice a C.opens.length c] 24)).heap.size (w.alloc (.cells #[.int .i64 C.epoch, .int .i64 C.next, .slice a C.opens.length c] 24)) v1 := hb
            replace HR := hid (RowOf.below HR.out hq)
            replace Z := hid (Z.out.trans (hq.mono Z.out.size))
            clear hb hz hq
            obtain ⟨b00, b01, b02, b0f, b0l⟩ := blk3 B0.out
            go_wp2_with fail
            clear b00 b01 b02 b0f b0l
            refine (lt_right C _ _ _ HRB.out HWF.out HR.out hl).mono ?_
            rintro e v2 ⟨he, hb⟩
            subst he
            have hz := hb.size
            replace B0 := hid (blk_below B0.out hb (blk_lt B0.out))
            have hq : Below v1.heap.size v1 v2 := hb
            replace HR := hid (RowOf.below HR.out hq)
            replace Z := hid (Z.out.trans (hq.mono Z.out.size))
            clear hb hz hq
            obtain ⟨b00, b01, b02, b0f, b0l⟩ := blk3 B0.out
            go_wp2_with fail
            clear b00 b01 b02 b0f b0l
            refine (wakes_any _).mono ?_
            rintro e v3 ⟨he, hb⟩
            subst he
            have hz := hb.size
            replace B0 := hid (blk_below B0.out hb (blk_lt B0.out))
            have hq : Below v2.heap.size v2 v3 := hb
            replace HR := hid (RowOf.below HR.out hq)
            replace Z := hid (Z.out.trans (hq.mono Z.out.size))
            clear hb hz hq
            go_wp2
            go_ret
            exact ⟨rfl, Z.out⟩
          · have e3 : decide (tm < 0) = true := by simp; omega
            unfold calls
            go_enter Try.func6, Try.ntmps6
            obtain ⟨b00, b01, b02, b0f, b0l⟩ := blk3 B0.out
            go_wp2_with fail
            clear b00 b01 b02 b0f b0l
            refine (lt_great C _ _ _ _ _ d0).mono ?_
            rintro e v1 ⟨he, hb⟩
            subst he
            have hz := hb.size
            replace B0 := hid (blk_below B0.out hb (blk_lt B0.out))
            have hq : Below (w.alloc (.cells #[.int .i64 C.epoch, .int .i64 C.next, .slice a C.opens.length c] 24)).heap.size (w.alloc (.cells #[.int .i64 C.epoch, .int .i64 C.next, .slice a C.opens.length c] 24)) v1 := hb
            replace HR := hid (RowOf.below HR.out hq)
            replace Z := hid (Z.out.trans (hq.mono Z.out.size))
            clear hb hz hq
            obtain ⟨b00, b01, b02, b0f, b0l⟩ := blk3 B0.out
            go_wp2_with fail
            clear b00 b01 b02 b0f b0l
            refine (lt_right C _ _ _ HRB.out HWF.out HR.out hl).mono ?_
            rintro e v2 ⟨he, hb⟩
            subst he
            have hz := hb.size
            replace B0 := hid (blk_below B0.out hb (blk_lt B0.out))
            have hq : Below v1.heap.size v1 v2 := hb
            replace HR := hid (RowOf.below HR.out hq)
            replace Z := hid (Z.out.trans (hq.mono Z.out.size))
            clear hb hz hq
            obtain ⟨b00, b01, b02, b0f, b0l⟩ := blk3 B0.out
            go_wp2_with fail
            clear b00 b01 b02 b0f b0l
            refine (wakes_any _).mono ?_
            rintro e v3 ⟨he, hb⟩
            subst he
            have hz := hb.size
            replace B0 := hid (blk_below B0.out hb (blk_lt B0.out))
            have hq : Below v2.heap.size v2 v3 := hb
            replace HR := hid (RowOf.below HR.out hq)
            replace Z := hid (Z.out.trans (hq.mono Z.out.size))
            clear hb hz hq
            go_wp2
            go_ret
            exact ⟨rfl, Z.out⟩
        · have e2 : decide (1099511627776 < now) = true := by simp; omega
          unfold calls
          go_enter Try.func6, Try.ntmps6
          obtain ⟨b00, b01, b02, b0f, b0l⟩ := blk3 B0.out
          go_wp2_with fail
          clear b00 b01 b02 b0f b0l
          refine (lt_great C _ _ _ _ _ d0).mono ?_
          rintro e v1 ⟨he, hb⟩
          subst he
          have hz := hb.size
          replace B0 := hid (blk_below B0.out hb (blk_lt B0.out))
          have hq : Below (w.alloc (.cells #[.int .i64 C.epoch, .int .i64 C.next, .slice a C.opens.length c] 24)).heap.size (w.alloc (.cells #[.int .i64 C.epoch, .int .i64 C.next, .slice a C.opens.length c] 24)) v1 := hb
          replace HR := hid (RowOf.below HR.out hq)
          replace Z := hid (Z.out.trans (hq.mono Z.out.size))
          clear hb hz hq
          obtain ⟨b00, b01, b02, b0f, b0l⟩ := blk3 B0.out
          go_wp2_with fail
          clear b00 b01 b02 b0f b0l
          refine (lt_right C _ _ _ HRB.out HWF.out HR.out hl).mono ?_
          rintro e v2 ⟨he, hb⟩
          subst he
          have hz := hb.size
          replace B0 := hid (blk_below B0.out hb (blk_lt B0.out))
          have hq : Below v1.heap.size v1 v2 := hb
          replace HR := hid (RowOf.below HR.out hq)
          replace Z := hid (Z.out.trans (hq.mono Z.out.size))
          clear hb hz hq
          obtain ⟨b00, b01, b02, b0f, b0l⟩ := blk3 B0.out
          go_wp2_with fail
          clear b00 b01 b02 b0f b0l
          refine (wakes_any _).mono ?_
          rintro e v3 ⟨he, hb⟩
          subst he
          have hz := hb.size
          replace B0 := hid (blk_below B0.out hb (blk_lt B0.out))
          have hq : Below v2.heap.size v2 v3 := hb
          replace HR := hid (RowOf.below HR.out hq)
          replace Z := hid (Z.out.trans (hq.mono Z.out.size))
          clear hb hz hq
          go_wp2
          go_ret
          exact ⟨rfl, Z.out⟩
      · have e1 : decide (now < 0) = true := by simp; omega
        unfold calls
        go_enter Try.func6, Try.ntmps6
        obtain ⟨b00, b01, b02, b0f, b0l⟩ := blk3 B0.out
        go_wp2_with fail
        clear b00 b01 b02 b0f b0l
        refine (lt_great C _ _ _ _ _ d0).mono ?_
        rintro e v1 ⟨he, hb⟩
        subst he
        have hz := hb.size
        replace B0 := hid (blk_below B0.out hb (blk_lt B0.out))
        have hq : Below (w.alloc (.cells #[.int .i64 C.epoch, .int .i64 C.next, .slice a C.opens.length c] 24)).heap.size (w.alloc (.cells #[.int .i64 C.epoch, .int .i64 C.next, .slice a C.opens.length c] 24)) v1 := hb
        replace HR := hid (RowOf.below HR.out hq)
        replace Z := hid (Z.out.trans (hq.mono Z.out.size))
        clear hb hz hq
        obtain ⟨b00, b01, b02, b0f, b0l⟩ := blk3 B0.out
        go_wp2_with fail
        clear b00 b01 b02 b0f b0l
        refine (lt_right C _ _ _ HRB.out HWF.out HR.out hl).mono ?_
        rintro e v2 ⟨he, hb⟩
        subst he
        have hz := hb.size
        replace B0 := hid (blk_below B0.out hb (blk_lt B0.out))
        have hq : Below v1.heap.size v1 v2 := hb
        replace HR := hid (RowOf.below HR.out hq)
        replace Z := hid (Z.out.trans (hq.mono Z.out.size))
        clear hb hz hq
        obtain ⟨b00, b01, b02, b0f, b0l⟩ := blk3 B0.out
        go_wp2_with fail
        clear b00 b01 b02 b0f b0l
        refine (wakes_any _).mono ?_
        rintro e v3 ⟨he, hb⟩
        subst he
        have hz := hb.size
        replace B0 := hid (blk_below B0.out hb (blk_lt B0.out))
        have hq : Below v2.heap.size v2 v3 := hb
        replace HR := hid (RowOf.below HR.out hq)
        replace Z := hid (Z.out.trans (hq.mono Z.out.size))
        clear hb hz hq
        go_wp2
        go_ret
        exact ⟨rfl, Z.out⟩
  · have d0 : decide ((60 : Int) < (C.opens.length : Int)) = true := by simp; omega
    unfold calls
    go_enter Try.func6, Try.ntmps6
    obtain ⟨b00, b01, b02, b0f, b0l⟩ := blk3 B0.out
    go_wp2_with fail
    clear b00 b01 b02 b0f b0l
    refine (lt_great C _ _ _ _ _ d0).mono ?_
    rintro e v1 ⟨he, hb⟩
    subst he
    have hz := hb.size
    replace B0 := hid (blk_below B0.out hb (blk_lt B0.out))
    have hq : Below (w.alloc (.cells #[.int .i64 C.epoch, .int .i64 C.next, .slice a C.opens.length c] 24)).heap.size (w.alloc (.cells #[.int .i64 C.epoch, .int .i64 C.next, .slice a C.opens.length c] 24)) v1 := hb
    replace HR := hid (RowOf.below HR.out hq)
    replace Z := hid (Z.out.trans (hq.mono Z.out.size))
    clear hb hz hq
    obtain ⟨b00, b01, b02, b0f, b0l⟩ := blk3 B0.out
    go_wp2_with fail
    clear b00 b01 b02 b0f b0l
    refine (wakes_any _).mono ?_
    rintro e v2 ⟨he, hb⟩
    subst he
    have hz := hb.size
    replace B0 := hid (blk_below B0.out hb (blk_lt B0.out))
    have hq : Below v1.heap.size v1 v2 := hb
    replace HR := hid (RowOf.below HR.out hq)
    replace Z := hid (Z.out.trans (hq.mono Z.out.size))
    clear hb hz hq
    go_wp2
    go_ret
    exact ⟨rfl, Z.out⟩

theorem late_walk (C : CallsV) (s : Value) (now tm : Int) (w : World) (hwf : C.wf) (hr : Row12 w s C.opens) :
    Calls Try.prog 6 #[calls C.epoch C.next s, .int .i64 now, .int .i64 tm] w fun e w' => e = .returned (.bool true) ∧ Below w.heap.size w w' := by
  by_cases h : C.opens.length ≤ 60 ∧ rightB C = true ∧ 0 ≤ now ∧ now ≤ 1099511627776 ∧ 0 ≤ tm ∧ tm ≤ 1099511627776
  · exact late_good C s now tm w h.1 hwf.2.2 h.2.1 h.2.2.1 h.2.2.2.1 h.2.2.2.2.1 h.2.2.2.2.2 hr
  · obtain ⟨a, c, rfl⟩ := shape_row hr
    exact late_bad C a c now tm w hwf.2.2 hr h
end Go.Proofs.Ytmphehlpakoheaa
