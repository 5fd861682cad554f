/- CallTells at whatever calls. -/
import Derived.Test.YtmphehlpakoheaaTl
import Derived.Test.YtmphehlpakoheaaOpc
namespace Go.Proofs.Ytmphehlpakoheaa
open Go.RowKit Go.Shelf

set_option maxHeartbeats 1000000 in
set_option maxRecDepth 100000 in
theorem tells_bad (C D : CallsV) (v u : Value) (k key now id tm : Int) (w : World) (h : ¬ (C.opens.length ≤ 60 ∧ D.opens.length ≤ 60)) (hr : Row12 w v C.opens) (hs : Row12 w u D.opens) :
    Calls Try.prog 4 #[calls C.epoch C.next v, calls D.epoch D.next u, .int .u8 k, .int .i64 key, .int .i64 now, .int .i64 id, .int .i64 tm] w fun e w' => e = .returned (.bool true) ∧ Below w.heap.size w w' := by
  obtain ⟨ca, cc, rfl⟩ := shape_row hr
  obtain ⟨da, dc, rfl⟩ := shape_row hs
  have Z0 : Below w.heap.size w ((w.alloc (.cells #[.int .i64 C.epoch, .int .i64 C.next, .slice ca C.opens.length cc] 24)).alloc (.cells #[.int .i64 D.epoch, .int .i64 D.next, .slice da D.opens.length dc] 24)) := ((Below.refl _ _).alloc (Nat.le_refl _) _).alloc (by simp) _
  have Z := hid Z0
  have B0 := hid (blk_alloc (heap_new w (.cells #[.int .i64 C.epoch, .int .i64 C.next, .slice ca C.opens.length cc] 24)) (.cells #[.int .i64 D.epoch, .int .i64 D.next, .slice da D.opens.length dc] 24))
  have D0 := hid (heap_new2 w (.cells #[.int .i64 C.epoch, .int .i64 C.next, .slice ca C.opens.length cc] 24) (.cells #[.int .i64 D.epoch, .int .i64 D.next, .slice da D.opens.length dc] 24))
  clear hr hs Z0
  unfold calls
  by_cases hl : C.opens.length ≤ 60
  · have d0 : decide ((60 : Int) < (C.opens.length : Int)) = false := by simp; omega
    have hm : ¬ D.opens.length ≤ 60 := fun hm => h ⟨hl, hm⟩
    have d1 : decide ((60 : Int) < (D.opens.length : Int)) = true := by simp; omega
    go_enter Try.func4, Try.ntmps4
    obtain ⟨b00, b01, b02, b0f, b0l⟩ := blk3 B0.out
    obtain ⟨d00, d01, d02, d0f, d0l⟩ := blk3 D0.out
    go_wp2_with fail
    clear b00 b01 b02 b0f b0l
    clear d00 d01 d02 d0f d0l
    refine (lt_great C _ _ _ _ _ d0).mono ?_
    rintro e v1 ⟨he, hb⟩
    subst he
    have hz := hb.size
    replace B0 := hid (blk_below B0.out hb (blk_lt B0.out))
    replace D0 := hid (blk_below D0.out hb (blk_lt D0.out))
    have hq : Below ((w.alloc (.cells #[.int .i64 C.epoch, .int .i64 C.next, .slice ca C.opens.length cc] 24)).alloc (.cells #[.int .i64 D.epoch, .int .i64 D.next, .slice da D.opens.length dc] 24)).heap.size ((w.alloc (.cells #[.int .i64 C.epoch, .int .i64 C.next, .slice ca C.opens.length cc] 24)).alloc (.cells #[.int .i64 D.epoch, .int .i64 D.next, .slice da D.opens.length dc] 24)) v1 := hb
    replace Z := hid (Z.out.trans (hq.mono Z.out.size))
    clear hb hz hq
    obtain ⟨b00, b01, b02, b0f, b0l⟩ := blk3 B0.out
    obtain ⟨d00, d01, d02, d0f, d0l⟩ := blk3 D0.out
    go_wp2_with fail
    clear b00 b01 b02 b0f b0l
    clear d00 d01 d02 d0f d0l
    refine (lt_great D _ _ _ _ _ d1).mono ?_
    rintro e v2 ⟨he, hb⟩
    subst he
    have hz := hb.size
    replace B0 := hid (blk_below B0.out hb (blk_lt B0.out))
    replace D0 := hid (blk_below D0.out hb (blk_lt D0.out))
    have hq : Below v1.heap.size v1 v2 := hb
    replace Z := hid (Z.out.trans (hq.mono Z.out.size))
    clear hb hz hq
    obtain ⟨b00, b01, b02, b0f, b0l⟩ := blk3 B0.out
    obtain ⟨d00, d01, d02, d0f, d0l⟩ := blk3 D0.out
    go_wp2_with fail
    clear b00 b01 b02 b0f b0l
    clear d00 d01 d02 d0f d0l
    refine (wakes_any _).mono ?_
    rintro e v3 ⟨he, hb⟩
    subst he
    have hz := hb.size
    replace B0 := hid (blk_below B0.out hb (blk_lt B0.out))
    replace D0 := hid (blk_below D0.out hb (blk_lt D0.out))
    have hq : Below v2.heap.size v2 v3 := hb
    replace Z := hid (Z.out.trans (hq.mono Z.out.size))
    clear hb hz hq
    go_wp2
    go_ret
    exact ⟨rfl, Z.out⟩
  · have d0 : decide ((60 : Int) < (C.opens.length : Int)) = true := by simp; omega
    go_enter Try.func4, Try.ntmps4
    obtain ⟨b00, b01, b02, b0f, b0l⟩ := blk3 B0.out
    obtain ⟨d00, d01, d02, d0f, d0l⟩ := blk3 D0.out
    go_wp2_with fail
    clear b00 b01 b02 b0f b0l
    clear d00 d01 d02 d0f d0l
    refine (lt_great C _ _ _ _ _ d0).mono ?_
    rintro e v1 ⟨he, hb⟩
    subst he
    have hz := hb.size
    replace B0 := hid (blk_below B0.out hb (blk_lt B0.out))
    replace D0 := hid (blk_below D0.out hb (blk_lt D0.out))
    have hq : Below ((w.alloc (.cells #[.int .i64 C.epoch, .int .i64 C.next, .slice ca C.opens.length cc] 24)).alloc (.cells #[.int .i64 D.epoch, .int .i64 D.next, .slice da D.opens.length dc] 24)).heap.size ((w.alloc (.cells #[.int .i64 C.epoch, .int .i64 C.next, .slice ca C.opens.length cc] 24)).alloc (.cells #[.int .i64 D.epoch, .int .i64 D.next, .slice da D.opens.length dc] 24)) v1 := hb
    replace Z := hid (Z.out.trans (hq.mono Z.out.size))
    clear hb hz hq
    obtain ⟨b00, b01, b02, b0f, b0l⟩ := blk3 B0.out
    obtain ⟨d00, d01, d02, d0f, d0l⟩ := blk3 D0.out
    go_wp2_with fail
    clear b00 b01 b02 b0f b0l
    clear d00 d01 d02 d0f d0l
    refine (wakes_any _).mono ?_
    rintro e v2 ⟨he, hb⟩
    subst he
    have hz := hb.size
    replace B0 := hid (blk_below B0.out hb (blk_lt B0.out))
    replace D0 := hid (blk_below D0.out hb (blk_lt D0.out))
    have hq : Below v1.heap.size v1 v2 := hb
    replace Z := hid (Z.out.trans (hq.mono Z.out.size))
    clear hb hz hq
    go_wp2
    go_ret
    exact ⟨rfl, Z.out⟩

theorem tells_walk (C D : CallsV) (v u : Value) (k key now id tm : Int) (w : World) (hwf : C.wf) (hr : Row12 w v C.opens) (hs : Row12 w u D.opens) :
    Calls Try.prog 4 #[calls C.epoch C.next v, calls D.epoch D.next u, .int .u8 k, .int .i64 key, .int .i64 now, .int .i64 id, .int .i64 tm] w fun e w' => e = .returned (.bool true) ∧ Below w.heap.size w w' := by
  by_cases h : C.opens.length ≤ 60 ∧ D.opens.length ≤ 60
  · exact tells_good C D v u k key now id tm w h.1 h.2 hwf.2.2 hr hs
  · exact tells_bad C D v u k key now id tm w h hr hs
end Go.Proofs.Ytmphehlpakoheaa
