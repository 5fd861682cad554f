/- The walk of CallTells. -/
import Derived.Test.YtmphehlpakoheaaRf6
import Derived.Test.YtmphehlpakoheaaLt0
import Derived.Test.YtmphehlpakoheaaWk
import Derived.Deep.RegionHeld3
namespace Go.Proofs.Ytmphehlpakoheaa
open Go.RowKit Go.Shelf

theorem openC_len (C : CallsV) (k key now : Int) : (openC C k key now).opens.length ≤ C.opens.length + 1 := by
  unfold openC; split <;> simp
theorem tl_open (C : CallsV) (v : Value) (k key now : Int) (X : CallsV) (I E : Int) (w : World) (hr : Row12 w v C.opens) (hl : C.opens.length ≤ 60) (hX : openC C k key now = X) (hI : openId C k key now = I) (hE : openErr C k key now = E) :
    Calls Try.prog 13 #[calls C.epoch C.next v, .int .u8 k, .int .i64 key, .int .i64 now] w fun e w' => ∃ a c, e = .returned (.tuple #[calls C.epoch X.next (.slice a X.opens.length c), .int .i64 I, .int .i64 E]) ∧ Row12 w' (.slice a X.opens.length c) X.opens ∧ Below w.heap.size w w' := by
  refine (open_any C.epoch C.next k key now v C.opens w (by omega) hr).mono ?_
  rintro e w' ⟨v', he, ho, hb⟩
  rw [show (⟨C.epoch, C.next, C.opens⟩ : CallsV) = C from rfl, hX, hI, hE] at he
  rw [show (⟨C.epoch, C.next, C.opens⟩ : CallsV) = C from rfl, hX] at ho
  have hrow := own12_row ho
  obtain ⟨a, c, rfl⟩ := shape_row hrow
  exact ⟨a, c, he, hrow, hb⟩
theorem tl_ropen (C : CallsV) (v : Value) (k key now : Int) (X : CallsV) (I E : Int) (w : World) (hr : Row12 w v C.opens) (hl : C.opens.length ≤ 60) (hwf : ∀ x ∈ C.opens, x.wf) (hX : openC C k key now = X) (hI : openId C k key now = I) (hE : openErr C k key now = E) :
    Calls Try.prog 16 #[calls C.epoch C.next v, .int .u8 k, .int .i64 key, .int .i64 now] w fun e w' => ∃ a c, e = .returned (.tuple #[calls C.epoch X.next (.slice a X.opens.length c), .int .i64 I, .int .i64 E]) ∧ Row12 w' (.slice a X.opens.length c) X.opens ∧ Below w.heap.size w w' := by
  refine (ropen_any C.epoch C.next k key now v C.opens w (by omega) hwf hr).mono ?_
  rintro e w' ⟨v', he, hrow, hb⟩
  rw [show (⟨C.epoch, C.next, C.opens⟩ : CallsV) = C from rfl, hX, hI, hE] at he
  rw [show (⟨C.epoch, C.next, C.opens⟩ : CallsV) = C from rfl, hX] at hrow
  obtain ⟨a, c, rfl⟩ := shape_row hrow
  exact ⟨a, c, he, hrow, hb⟩
theorem tl_find (C : CallsV) (v : Value) (id : Int) (F : CallV) (fb : Bool) (w : World) (hr : Row12 w v C.opens) (hl : C.opens.length ≤ 60) (hF : findC C.opens id = (F, fb)) :
    Calls Try.prog 14 #[calls C.epoch C.next v, .int .i64 id] w fun e w' => e = .returned (.tuple #[encS F, .bool fb]) ∧ Below w.heap.size w w' := by
  have h := find_any C.epoch C.next id v _ w (by omega) hr
  rw [hF] at h; exact h
theorem tl_rfind (C : CallsV) (v : Value) (id : Int) (F : CallV) (fb : Bool) (w : World) (hr : Row12 w v C.opens) (hl : C.opens.length ≤ 60) (hF : findC C.opens id = (F, fb)) :
    Calls Try.prog 17 #[calls C.epoch C.next v, .int .i64 id] w fun e w' => e = .returned (.tuple #[encS F, .bool fb]) ∧ Below w.heap.size w w' := by
  have h := rfind_any C.epoch C.next id v _ w (by omega) hr
  rw [hF] at h; exact h
theorem tl_begin (key a b c : Int) (w : World) (h : beginV key = (a, b, c)) :
    Calls Try.prog 18 #[.int .i64 key] w fun e w' => e = .returned (.tuple #[calls a b (.slice none 0 0), .int .i64 c]) ∧ Below w.heap.size w w' := by
  have := begin_any key w
  rw [h] at this; exact this
theorem tl_rbegin (key a b c : Int) (w : World) (h : beginV key = (a, b, c)) :
    Calls Try.prog 19 #[.int .i64 key] w fun e w' => e = .returned (.tuple #[calls a b (.slice none 0 0), .int .i64 c]) ∧ Below w.heap.size w w' := by
  have := rbegin_any key w
  rw [h] at this; exact this

theorem rsame_same (ep nx : Int) (v v' : Value) (L : List CallV) (w : World) (hr : Row12 w v L) (hr' : Row12 w v' L) (hl : L.length ≤ 100) :
    Calls Try.prog 20 #[calls ep nx v, calls ep nx v'] w fun e w' => e = .returned (.bool true) ∧ Below w.heap.size w w' := by
  have h := rsame_any ep nx ep nx v v' L L w hr hr' (by omega) (by omega)
  rw [show sameV ⟨ep, nx, L⟩ ⟨ep, nx, L⟩ = true by simp [sameV]] at h
  exact h
theorem tl_right (C : CallsV) (v : Value) (w : World) (b : Bool) (hC : rightB C = b) (hr : Row12 w v C.opens) (hl : C.opens.length ≤ 60) :
    Calls Try.prog 15 #[calls C.epoch C.next v] w fun e w' => e = .returned (.bool b) ∧ Below w.heap.size w w' := by
  have h := right_any C.epoch C.next v C.opens w (by omega) hr
  rw [show rightB ⟨C.epoch, C.next, C.opens⟩ = b from hC] at h
  exact h
theorem tl_has (C : CallsV) (v : Value) (k key : Int) (b : Bool) (w : World) (hr : Row12 w v C.opens) (hl : C.opens.length ≤ 60) (hb : hasB C.opens k key = b) :
    Calls Try.prog 12 #[calls C.epoch C.next v, .int .u8 k, .int .i64 key] w fun e w' => e = .returned (.bool b) ∧ Below w.heap.size w w' := by
  rw [← hb]; exact has_row C.epoch C.next k key v C.opens w (by omega) hr
theorem tl_close (C : CallsV) (v : Value) (id : Int) (KL : List CallV) (w : World) (hr : Row12 w v C.opens) (hl : C.opens.length ≤ 60) (hK : keptL C (fun x => x.id != id) = KL) :
    Calls Try.prog 11 #[calls C.epoch C.next v, .int .i64 id] w fun e w' => ∃ a c, e = .returned (.agg #[.int .i64 C.epoch, .int .i64 C.next, .slice a KL.length c]) ∧ Hid (Row12 w' (.slice a KL.length c) KL) ∧ Below w.heap.size w w' := by
  refine (close_any C.epoch C.next id v C.opens w (by omega) hr).mono ?_
  rintro e w' ⟨v', he, ho, hb⟩
  rw [show (⟨C.epoch, C.next, C.opens⟩ : CallsV) = C from rfl, hK] at ho
  have hrow := own12_row ho
  obtain ⟨a, c, rfl⟩ := shape_row hrow
  exact ⟨a, c, he, hrow, hb⟩
theorem tl_rclose (C : CallsV) (v : Value) (id : Int) (KL : List CallV) (w : World) (hr : Row12 w v C.opens) (hl : C.opens.length ≤ 60) (hwf : ∀ x ∈ C.opens, x.wf) (hK : keptL C (fun x => x.id != id) = KL) :
    Calls Try.prog 22 #[calls C.epoch C.next v, .int .i64 id] w fun e w' => ∃ a c, e = .returned (.agg #[.int .i64 C.epoch, .int .i64 C.next, .slice a KL.length c]) ∧ Hid (Row12 w' (.slice a KL.length c) KL) ∧ Below w.heap.size w w' := by
  refine (rclose_any C.epoch C.next id v C.opens w (by omega) hwf hr).mono ?_
  rintro e w' ⟨v', he, hrow, hb⟩
  rw [show (⟨C.epoch, C.next, C.opens⟩ : CallsV) = C from rfl, hK] at hrow
  obtain ⟨a, c, rfl⟩ := shape_row hrow
  exact ⟨a, c, he, hrow, hb⟩
theorem tl_late (C : CallsV) (v : Value) (now tm : Int) (KL : List CallV) (w : World) (hr : Row12 w v C.opens) (hl : C.opens.length ≤ 60) (hK : lateL C now tm = KL) :
    Calls Try.prog 23 #[calls C.epoch C.next v, .int .i64 now, .int .i64 tm] w fun e w' => ∃ a c, e = .returned (.agg #[.int .i64 C.epoch, .int .i64 C.next, .slice a KL.length c]) ∧ Hid (Row12 w' (.slice a KL.length c) KL) ∧ Below w.heap.size w w' := by
  refine (late_any C.epoch C.next now tm v C.opens w (by omega) hr).mono ?_
  rintro e w' ⟨v', he, ho, hb⟩
  rw [show (⟨C.epoch, C.next, C.opens⟩ : CallsV) = C from rfl, hK] at ho
  have hrow := own12_row ho
  obtain ⟨a, c, rfl⟩ := shape_row hrow
  exact ⟨a, c, he, hrow, hb⟩
theorem tl_rlate (C : CallsV) (v : Value) (now tm : Int) (KL : List CallV) (w : World) (hr : Row12 w v C.opens) (hl : C.opens.length ≤ 60) (hwf : ∀ x ∈ C.opens, x.wf) (hK : lateL C now tm = KL) :
    Calls Try.prog 24 #[calls C.epoch C.next v, .int .i64 now, .int .i64 tm] w fun e w' => ∃ a c, e = .returned (.agg #[.int .i64 C.epoch, .int .i64 C.next, .slice a KL.length c]) ∧ Hid (Row12 w' (.slice a KL.length c) KL) ∧ Below w.heap.size w w' := by
  refine (rlate_any C.epoch C.next now tm v C.opens w (by omega) hwf hr).mono ?_
  rintro e w' ⟨v', he, hrow, hb⟩
  rw [show (⟨C.epoch, C.next, C.opens⟩ : CallsV) = C from rfl, hK] at hrow
  obtain ⟨a, c, rfl⟩ := shape_row hrow
  exact ⟨a, c, he, hrow, hb⟩
theorem tl_same (C D : CallsV) (v u : Value) (b : Bool) (w : World) (hr : Row12 w v C.opens) (hs : Row12 w u D.opens) (hl : C.opens.length ≤ 60) (hm : D.opens.length ≤ 60) (hb : sameV C D = b) :
    Calls Try.prog 25 #[calls C.epoch C.next v, calls D.epoch D.next u] w fun e w' => e = .returned (.bool b) ∧ Below w.heap.size w w' := by
  rw [← hb]; exact same_any _ _ _ _ _ _ _ _ w hr hs (by omega) (by omega)
theorem tl_rsame (C D : CallsV) (v u : Value) (b : Bool) (w : World) (hr : Row12 w v C.opens) (hs : Row12 w u D.opens) (hl : C.opens.length ≤ 60) (hm : D.opens.length ≤ 60) (hb : sameV C D = b) :
    Calls Try.prog 20 #[calls C.epoch C.next v, calls D.epoch D.next u] w fun e w' => e = .returned (.bool b) ∧ Below w.heap.size w w' := by
  rw [← hb]; exact rsame_any _ _ _ _ _ _ _ _ w hr hs (by omega) (by omega)

set_option maxHeartbeats 4000000 in
set_option maxRecDepth 100000 in
theorem tells_good (C D : CallsV) (v u : Value) (k key now id tm : Int) (w : World) (hl : C.opens.length ≤ 60) (hm : D.opens.length ≤ 60) (hwf : ∀ x ∈ C.opens, x.wf) (hr : Row12 w v C.opens) (hs : Row12 w u D.opens) :
    Calls Try.prog 4 #[calls C.epoch C.next v, calls D.epoch D.next u, .int .u8 k, .int .i64 key, .int .i64 now, .int .i64 id, .int .i64 tm] w fun e w' => e = .returned (.bool true) ∧ Below w.heap.size w w' := by
  obtain ⟨ca, cc, rfl⟩ := shape_row hr
  obtain ⟨da, dc, rfl⟩ := shape_row hs
  have d0 : decide ((60 : Int) < (C.opens.length : Int)) = false := by simp; omega
  have d1 : decide ((60 : Int) < (D.opens.length : Int)) = false := by simp; omega
  obtain ⟨X, hX⟩ : ∃ X, openC C k key now = X := ⟨_, rfl⟩
  obtain ⟨I, hI⟩ : ∃ I, openId C k key now = I := ⟨_, rfl⟩
  obtain ⟨E, hE⟩ : ∃ E, openErr C k key now = E := ⟨_, rfl⟩
  obtain ⟨F, fb, hF⟩ : ∃ F fb, findC C.opens id = (F, fb) := ⟨_, _, rfl⟩
  obtain ⟨ba, bb, bc, hBg⟩ : ∃ a b c, beginV key = (a, b, c) := ⟨_, _, _, rfl⟩
  have hXl : X.opens.length ≤ 61 := by rw [← hX]; have := openC_len C k key now; omega
  have HX := hid hX
  have HI := hid hI
  have HE := hid hE
  have HF := hid hF
  have HBG := hid hBg
  have HWF := hid hwf
  clear hX hI hE hF hBg hwf
  have Z0 : Below w.heap.size w ((w.alloc (.cells #[.int .i64 C.epoch, .int .i64 C.next, .slice ca C.opens.length cc] 24)).alloc (.cells #[.int .i64 D.epoch, .int .i64 D.next, .slice da D.opens.length dc] 24)) := ((Below.refl _ _).alloc (Nat.le_refl _) _).alloc (by simp) _
  have Z := hid Z0
  have HR := hid (RowOf.below hr Z0)
  have HS := hid (RowOf.below hs Z0)
  have B0 := hid (blk_alloc (heap_new w (.cells #[.int .i64 C.epoch, .int .i64 C.next, .slice ca C.opens.length cc] 24)) (.cells #[.int .i64 D.epoch, .int .i64 D.next, .slice da D.opens.length dc] 24))
  have D0 := hid (heap_new2 w (.cells #[.int .i64 C.epoch, .int .i64 C.next, .slice ca C.opens.length cc] 24) (.cells #[.int .i64 D.epoch, .int .i64 D.next, .slice da D.opens.length dc] 24))
  clear hr hs Z0
  unfold calls
  go_enter Try.func4, Try.ntmps4
  obtain ⟨b00, b01, b02, b0f, b0l⟩ := blk3 B0.out
  obtain ⟨d00, d01, d02, d0f, d0l⟩ := blk3 D0.out
  go_wp2_with fail
  clear b00 b01 b02 b0f b0l
  clear d00 d01 d02 d0f d0l
  refine (lt_great C _ _ _ _ _ d0).mono ?_
  rintro e v1 ⟨he, hb⟩
  subst he
  have hz := hb.size
  replace B0 := hid (blk_below B0.out hb (blk_lt B0.out))
  replace D0 := hid (blk_below D0.out hb (blk_lt D0.out))
  have hq : Below ((w.alloc (.cells #[.int .i64 C.epoch, .int .i64 C.next, .slice ca C.opens.length cc] 24)).alloc (.cells #[.int .i64 D.epoch, .int .i64 D.next, .slice da D.opens.length dc] 24)).heap.size ((w.alloc (.cells #[.int .i64 C.epoch, .int .i64 C.next, .slice ca C.opens.length cc] 24)).alloc (.cells #[.int .i64 D.epoch, .int .i64 D.next, .slice da D.opens.length dc] 24)) v1 := hb
  replace HR := hid (RowOf.below HR.out hq)
  replace HS := hid (RowOf.below HS.out hq)
  replace Z := hid (Z.out.trans (hq.mono Z.out.size))
  clear hb hz hq
  obtain ⟨b00, b01, b02, b0f, b0l⟩ := blk3 B0.out
  obtain ⟨d00, d01, d02, d0f, d0l⟩ := blk3 D0.out
  go_wp2_with fail
  clear b00 b01 b02 b0f b0l
  clear d00 d01 d02 d0f d0l
  refine (lt_great D _ _ _ _ _ d1).mono ?_
  rintro e v2 ⟨he, hb⟩
  subst he
  have hz := hb.size
  replace B0 := hid (blk_below B0.out hb (blk_lt B0.out))
  replace D0 := hid (blk_below D0.out hb (blk_lt D0.out))
  have hq : Below v1.heap.size v1 v2 := hb
  replace HR := hid (RowOf.below HR.out hq)
  replace HS := hid (RowOf.below HS.out hq)
  replace Z := hid (Z.out.trans (hq.mono Z.out.size))
  clear hb hz hq
  obtain ⟨b00, b01, b02, b0f, b0l⟩ := blk3 B0.out
  obtain ⟨d00, d01, d02, d0f, d0l⟩ := blk3 D0.out
  go_wp2_with fail
  clear b00 b01 b02 b0f b0l
  clear d00 d01 d02 d0f d0l
  refine (tl_open C _ k key now X I E _ HR.out hl HX.out HI.out HE.out).mono ?_
  rintro e v3 ⟨xa, xc, he, hrx, hb⟩
  simp only [calls] at he
  subst he
  have hz := hb.size
  replace B0 := hid (blk_below B0.out hb (blk_lt B0.out))
  replace D0 := hid (blk_below D0.out hb (blk_lt D0.out))
  have hq : Below v2.heap.size v2 v3 := hb
  replace HR := hid (RowOf.below HR.out hq)
  replace HS := hid (RowOf.below HS.out hq)
  have RX := hid hrx
  replace Z := hid (Z.out.trans (hq.mono Z.out.size))
  clear hb hz hq hrx
  obtain ⟨b00, b01, b02, b0f, b0l⟩ := blk3 B0.out
  obtain ⟨d00, d01, d02, d0f, d0l⟩ := blk3 D0.out
  go_wp2_with fail
  clear b00 b01 b02 b0f b0l
  clear d00 d01 d02 d0f d0l
  refine (tl_ropen C _ k key now X I E _ (RowOf.below HR.out ((Below.refl _ _).alloc (Nat.le_refl _) _)) hl HWF.out HX.out HI.out HE.out).mono ?_
  rintro e v4 ⟨ya, yc, he, hry, hb⟩
  simp only [calls] at he
  subst he
  have hz := hb.size
  simp only [World.size_alloc] at hz
  replace B0 := hid (blk_below (blk_alloc B0.out _) hb (by have := blk_lt B0.out; simp; omega))
  replace D0 := hid (blk_below (blk_alloc D0.out _) hb (by have := blk_lt D0.out; simp; omega))
  have X0 := hid (blk_below (heap_new v3 _) hb (by simp))
  have hq : Below v3.heap.size v3 v4 := ((Below.refl _ _).alloc (Nat.le_refl _) _).trans (hb.mono (by simp))
  replace HR := hid (RowOf.below HR.out hq)
  replace HS := hid (RowOf.below HS.out hq)
  replace RX := hid (RowOf.below RX.out hq)
  have RY := hid hry
  replace Z := hid (Z.out.trans (hq.mono Z.out.size))
  clear hb hz hq hry
  obtain ⟨b00, b01, b02, b0f, b0l⟩ := blk3 B0.out
  obtain ⟨d00, d01, d02, d0f, d0l⟩ := blk3 D0.out
  obtain ⟨x00, x01, x02, x0f, x0l⟩ := blk3 X0.out
  go_wp2_with fail
  clear b00 b01 b02 b0f b0l
  clear d00 d01 d02 d0f d0l
  clear x00 x01 x02 x0f x0l
  refine (tl_find C _ id F fb _ (RowOf.below HR.out ((Below.refl _ _).alloc (Nat.le_refl _) _)) hl HF.out).mono ?_
  rintro e v5 ⟨he, hb⟩
  simp only [encS] at he
  subst he
  have hz := hb.size
  simp only [World.size_alloc] at hz
  replace B0 := hid (blk_below (blk_alloc B0.out _) hb (by have := blk_lt B0.out; simp; omega))
  replace D0 := hid (blk_below (blk_alloc D0.out _) hb (by have := blk_lt D0.out; simp; omega))
  replace X0 := hid (blk_below (blk_alloc X0.out _) hb (by have := blk_lt X0.out; simp; omega))
  have Y0 := hid (blk_below (heap_new v4 _) hb (by simp))
  have hq : Below v4.heap.size v4 v5 := ((Below.refl _ _).alloc (Nat.le_refl _) _).trans (hb.mono (by simp))
  replace HR := hid (RowOf.below HR.out hq)
  replace HS := hid (RowOf.below HS.out hq)
  replace RX := hid (RowOf.below RX.out hq)
  replace RY := hid (RowOf.below RY.out hq)
  replace Z := hid (Z.out.trans (hq.mono Z.out.size))
  clear hb hz hq
  obtain ⟨b00, b01, b02, b0f, b0l⟩ := blk3 B0.out
  obtain ⟨d00, d01, d02, d0f, d0l⟩ := blk3 D0.out
  obtain ⟨x00, x01, x02, x0f, x0l⟩ := blk3 X0.out
  obtain ⟨y00, y01, y02, y0f, y0l⟩ := blk3 Y0.out
  go_wp2_with fail
  clear b00 b01 b02 b0f b0l
  clear d00 d01 d02 d0f d0l
  clear x00 x01 x02 x0f x0l
  clear y00 y01 y02 y0f y0l
  refine (tl_rfind C _ id F fb _ (RowOf.below HR.out ((Below.refl _ _).alloc (Nat.le_refl _) _)) hl HF.out).mono ?_
  rintro e v6 ⟨he, hb⟩
  simp only [encS] at he
  subst he
  have hz := hb.size
  simp only [World.size_alloc] at hz
  replace B0 := hid (blk_below (blk_alloc B0.out _) hb (by have := blk_lt B0.out; simp; omega))
  replace D0 := hid (blk_below (blk_alloc D0.out _) hb (by have := blk_lt D0.out; simp; omega))
  replace X0 := hid (blk_below (blk_alloc X0.out _) hb (by have := blk_lt X0.out; simp; omega))
  replace Y0 := hid (blk_below (blk_alloc Y0.out _) hb (by have := blk_lt Y0.out; simp; omega))
  have P0 := hid (blk_below (heap_new v5 _) hb (by simp))
  have hq : Below v5.heap.size v5 v6 := ((Below.refl _ _).alloc (Nat.le_refl _) _).trans (hb.mono (by simp))
  replace HR := hid (RowOf.below HR.out hq)
  replace HS := hid (RowOf.below HS.out hq)
  replace RX := hid (RowOf.below RX.out hq)
  replace RY := hid (RowOf.below RY.out hq)
  replace Z := hid (Z.out.trans (hq.mono Z.out.size))
  clear hb hz hq
  obtain ⟨b00, b01, b02, b0f, b0l⟩ := blk3 B0.out
  obtain ⟨d00, d01, d02, d0f, d0l⟩ := blk3 D0.out
  obtain ⟨x00, x01, x02, x0f, x0l⟩ := blk3 X0.out
  obtain ⟨y00, y01, y02, y0f, y0l⟩ := blk3 Y0.out
  obtain ⟨p00, p01, p02, p03, p0f, p0l⟩ := blk4 P0.out
  go_wp2_with fail
  clear b00 b01 b02 b0f b0l
  clear d00 d01 d02 d0f d0l
  clear x00 x01 x02 x0f x0l
  clear y00 y01 y02 y0f y0l
  clear p00 p01 p02 p03 p0f p0l
  refine (tl_begin key ba bb bc _ HBG.out).mono ?_
  rintro e v7 ⟨he, hb⟩
  simp only [calls] at he
  subst he
  have hz := hb.size
  simp only [World.size_alloc] at hz
  replace B0 := hid (blk_below (blk_alloc B0.out _) hb (by have := blk_lt B0.out; simp; omega))
  replace D0 := hid (blk_below (blk_alloc D0.out _) hb (by have := blk_lt D0.out; simp; omega))
  replace X0 := hid (blk_below (blk_alloc X0.out _) hb (by have := blk_lt X0.out; simp; omega))
  replace Y0 := hid (blk_below (blk_alloc Y0.out _) hb (by have := blk_lt Y0.out; simp; omega))
  replace P0 := hid (blk_below (blk_alloc P0.out _) hb (by have := blk_lt P0.out; simp; omega))
  have Q0 := hid (blk_below (heap_new v6 _) hb (by simp))
  have hq : Below v6.heap.size v6 v7 := ((Below.refl _ _).alloc (Nat.le_refl _) _).trans (hb.mono (by simp))
  replace HR := hid (RowOf.below HR.out hq)
  replace HS := hid (RowOf.below HS.out hq)
  replace RX := hid (RowOf.below RX.out hq)
  replace RY := hid (RowOf.below RY.out hq)
  replace Z := hid (Z.out.trans (hq.mono Z.out.size))
  clear hb hz hq
  obtain ⟨b00, b01, b02, b0f, b0l⟩ := blk3 B0.out
  obtain ⟨d00, d01, d02, d0f, d0l⟩ := blk3 D0.out
  obtain ⟨x00, x01, x02, x0f, x0l⟩ := blk3 X0.out
  obtain ⟨y00, y01, y02, y0f, y0l⟩ := blk3 Y0.out
  obtain ⟨p00, p01, p02, p03, p0f, p0l⟩ := blk4 P0.out
  obtain ⟨q00, q01, q02, q03, q0f, q0l⟩ := blk4 Q0.out
  go_wp2_with fail
  clear b00 b01 b02 b0f b0l
  clear d00 d01 d02 d0f d0l
  clear x00 x01 x02 x0f x0l
  clear y00 y01 y02 y0f y0l
  clear p00 p01 p02 p03 p0f p0l
  clear q00 q01 q02 q03 q0f q0l
  refine (tl_rbegin key ba bb bc _ HBG.out).mono ?_
  rintro e v8 ⟨he, hb⟩
  simp only [calls] at he
  subst he
  have hz := hb.size
  simp only [World.size_alloc] at hz
  replace B0 := hid (blk_below (blk_alloc B0.out _) hb (by have := blk_lt B0.out; simp; omega))
  replace D0 := hid (blk_below (blk_alloc D0.out _) hb (by have := blk_lt D0.out; simp; omega))
  replace X0 := hid (blk_below (blk_alloc X0.out _) hb (by have := blk_lt X0.out; simp; omega))
  replace Y0 := hid (blk_below (blk_alloc Y0.out _) hb (by have := blk_lt Y0.out; simp; omega))
  replace P0 := hid (blk_below (blk_alloc P0.out _) hb (by have := blk_lt P0.out; simp; omega))
  replace Q0 := hid (blk_below (blk_alloc Q0.out _) hb (by have := blk_lt Q0.out; simp; omega))
  have G0 := hid (blk_below (heap_new v7 _) hb (by simp))
  have hq : Below v7.heap.size v7 v8 := ((Below.refl _ _).alloc (Nat.le_refl _) _).trans (hb.mono (by simp))
  replace HR := hid (RowOf.below HR.out hq)
  replace HS := hid (RowOf.below HS.out hq)
  replace RX := hid (RowOf.below RX.out hq)
  replace RY := hid (RowOf.below RY.out hq)
  replace Z := hid (Z.out.trans (hq.mono Z.out.size))
  clear hb hz hq
  obtain ⟨b00, b01, b02, b0f, b0l⟩ := blk3 B0.out
  obtain ⟨d00, d01, d02, d0f, d0l⟩ := blk3 D0.out
  obtain ⟨x00, x01, x02, x0f, x0l⟩ := blk3 X0.out
  obtain ⟨y00, y01, y02, y0f, y0l⟩ := blk3 Y0.out
  obtain ⟨p00, p01, p02, p03, p0f, p0l⟩ := blk4 P0.out
  obtain ⟨q00, q01, q02, q03, q0f, q0l⟩ := blk4 Q0.out
  obtain ⟨g00, g01, g02, g0f, g0l⟩ := blk3 G0.out
  go_wp2_with fail
  clear b00 b01 b02 b0f b0l
  clear d00 d01 d02 d0f d0l
  clear x00 x01 x02 x0f x0l
  clear y00 y01 y02 y0f y0l
  clear p00 p01 p02 p03 p0f p0l
  clear q00 q01 q02 q03 q0f q0l
  clear g00 g01 g02 g0f g0l
  obtain ⟨wo, hwo⟩ : ∃ wo : World, wo = v8.alloc (.cells #[.int .i64 ba, .int .i64 bb, .slice none 0 0] 24) := ⟨_, rfl⟩
  have A0 : Hid (wo.heap[v8.heap.size]? = some (.cells #[.int .i64 ba, .int .i64 bb, .slice none 0 0] 24)) := hid (by rw [hwo]; exact heap_new v8 _)
  have hq : Below v8.heap.size v8 wo := by rw [hwo]; exact (Below.refl _ _).alloc (Nat.le_refl _) _
  replace B0 := hid (blk_below B0.out hq (blk_lt B0.out))
  replace D0 := hid (blk_below D0.out hq (blk_lt D0.out))
  replace X0 := hid (blk_below X0.out hq (blk_lt X0.out))
  replace Y0 := hid (blk_below Y0.out hq (blk_lt Y0.out))
  replace P0 := hid (blk_below P0.out hq (blk_lt P0.out))
  replace Q0 := hid (blk_below Q0.out hq (blk_lt Q0.out))
  replace G0 := hid (blk_below G0.out hq (blk_lt G0.out))
  replace HR := hid (RowOf.below HR.out hq)
  replace HS := hid (RowOf.below HS.out hq)
  replace RX := hid (RowOf.below RX.out hq)
  replace RY := hid (RowOf.below RY.out hq)
  replace Z := hid (Z.out.trans (hq.mono Z.out.size))
  rw [← hwo]
  clear hwo hq
  obtain ⟨Ev, hEvdef⟩ : ∃ E : World → Prop, E = fun W => W.heap[w.heap.size]? = some (.cells #[.int .i64 C.epoch, .int .i64 C.next, .slice ca C.opens.length cc] 24) ∧ W.heap[w.heap.size + 1]? = some (.cells #[.int .i64 D.epoch, .int .i64 D.next, .slice da D.opens.length dc] 24) ∧ W.heap[v3.heap.size]? = some (.cells #[.int .i64 C.epoch, .int .i64 X.next, .slice xa X.opens.length xc] 24) ∧ W.heap[v4.heap.size]? = some (.cells #[.int .i64 C.epoch, .int .i64 X.next, .slice ya X.opens.length yc] 24) ∧ W.heap[v5.heap.size]? = some (.cells #[.int .i64 F.id, .int .u8 F.kind, .int .i64 F.key, .int .i64 F.sent] 28) ∧ W.heap[v6.heap.size]? = some (.cells #[.int .i64 F.id, .int .u8 F.kind, .int .i64 F.key, .int .i64 F.sent] 28) ∧ W.heap[v7.heap.size]? = some (.cells #[.int .i64 ba, .int .i64 bb, .slice none 0 0] 24) ∧ W.heap[v8.heap.size]? = some (.cells #[.int .i64 ba, .int .i64 bb, .slice none 0 0] 24) ∧ Row12 W (.slice ca C.opens.length cc) C.opens ∧ Row12 W (.slice da D.opens.length dc) D.opens ∧ Row12 W (.slice xa X.opens.length xc) X.opens ∧ Row12 W (.slice ya X.opens.length yc) X.opens ∧ Below w.heap.size w W := ⟨_, rfl⟩
  have hEv0 : Ev wo := by rw [hEvdef]; exact ⟨B0.out, D0.out, X0.out, Y0.out, P0.out, Q0.out, G0.out, A0.out, HR.out, HS.out, RX.out, RY.out, Z.out⟩
  have hEvk : ∀ W W', Below W.heap.size W W' → Ev W → Ev W' := by
    rw [hEvdef]
    rintro W W' hb ⟨q0, q1, q2, q3, q4, q5, q6, q7, q8, q9, q10, q11, q12⟩
    exact ⟨blk_below q0 hb (blk_lt q0), blk_below q1 hb (blk_lt q1), blk_below q2 hb (blk_lt q2), blk_below q3 hb (blk_lt q3), blk_below q4 hb (blk_lt q4), blk_below q5 hb (blk_lt q5), blk_below q6 hb (blk_lt q6), blk_below q7 hb (blk_lt q7), RowOf.below q8 hb, RowOf.below q9 hb, RowOf.below q10 hb, RowOf.below q11 hb, q12.trans (hb.mono q12.size)⟩
  have hEv_HR : ∀ W, Ev W → Row12 W (.slice ca C.opens.length cc) C.opens := by
    rw [hEvdef]
    rintro W ⟨q0, q1, q2, q3, q4, q5, q6, q7, q8, q9, q10, q11, q12⟩
    exact q8
  have hEv_HS : ∀ W, Ev W → Row12 W (.slice da D.opens.length dc) D.opens := by
    rw [hEvdef]
    rintro W ⟨q0, q1, q2, q3, q4, q5, q6, q7, q8, q9, q10, q11, q12⟩
    exact q9
  have hEv_RX : ∀ W, Ev W → Row12 W (.slice xa X.opens.length xc) X.opens := by
    rw [hEvdef]
    rintro W ⟨q0, q1, q2, q3, q4, q5, q6, q7, q8, q9, q10, q11, q12⟩
    exact q10
  have hEv_RY : ∀ W, Ev W → Row12 W (.slice ya X.opens.length yc) X.opens := by
    rw [hEvdef]
    rintro W ⟨q0, q1, q2, q3, q4, q5, q6, q7, q8, q9, q10, q11, q12⟩
    exact q11
  have hEv_Z : ∀ W, Ev W → Below w.heap.size w W := by
    rw [hEvdef]
    rintro W ⟨q0, q1, q2, q3, q4, q5, q6, q7, q8, q9, q10, q11, q12⟩
    exact q12
  have hEvc : ∀ W, Ev W → W.cell? ⟨w.heap.size, 0, none⟩ = some (.int .i64 C.epoch) ∧ W.cell? ⟨w.heap.size, 1, none⟩ = some (.int .i64 C.next) ∧ W.cell? ⟨w.heap.size, 2, none⟩ = some (.slice ca C.opens.length cc) ∧ W.cell? ⟨w.heap.size + 1, 0, none⟩ = some (.int .i64 D.epoch) ∧ W.cell? ⟨w.heap.size + 1, 1, none⟩ = some (.int .i64 D.next) ∧ W.cell? ⟨w.heap.size + 1, 2, none⟩ = some (.slice da D.opens.length dc) ∧ W.cell? ⟨v3.heap.size, 0, none⟩ = some (.int .i64 C.epoch) ∧ W.cell? ⟨v3.heap.size, 1, none⟩ = some (.int .i64 X.next) ∧ W.cell? ⟨v3.heap.size, 2, none⟩ = some (.slice xa X.opens.length xc) ∧ W.cell? ⟨v4.heap.size, 0, none⟩ = some (.int .i64 C.epoch) ∧ W.cell? ⟨v4.heap.size, 1, none⟩ = some (.int .i64 X.next) ∧ W.cell? ⟨v4.heap.size, 2, none⟩ = some (.slice ya X.opens.length yc) ∧ W.cell? ⟨v5.heap.size, 0, none⟩ = some (.int .i64 F.id) ∧ W.cell? ⟨v5.heap.size, 1, none⟩ = some (.int .u8 F.kind) ∧ W.cell? ⟨v5.heap.size, 2, none⟩ = some (.int .i64 F.key) ∧ W.cell? ⟨v5.heap.size, 3, none⟩ = some (.int .i64 F.sent) ∧ W.cell? ⟨v6.heap.size, 0, none⟩ = some (.int .i64 F.id) ∧ W.cell? ⟨v6.heap.size, 1, none⟩ = some (.int .u8 F.kind) ∧ W.cell? ⟨v6.heap.size, 2, none⟩ = some (.int .i64 F.key) ∧ W.cell? ⟨v6.heap.size, 3, none⟩ = some (.int .i64 F.sent) ∧ W.cell? ⟨v7.heap.size, 0, none⟩ = some (.int .i64 ba) ∧ W.cell? ⟨v7.heap.size, 1, none⟩ = some (.int .i64 bb) ∧ W.cell? ⟨v7.heap.size, 2, none⟩ = some (.slice none 0 0) ∧ W.cell? ⟨v8.heap.size, 0, none⟩ = some (.int .i64 ba) ∧ W.cell? ⟨v8.heap.size, 1, none⟩ = some (.int .i64 bb) ∧ W.cell? ⟨v8.heap.size, 2, none⟩ = some (.slice none 0 0) := by
    rw [hEvdef]
    rintro W ⟨q0, q1, q2, q3, q4, q5, q6, q7, q8, q9, q10, q11, q12⟩
    exact ⟨blk_cell q0 0, blk_cell q0 1, blk_cell q0 2, blk_cell q1 0, blk_cell q1 1, blk_cell q1 2, blk_cell q2 0, blk_cell q2 1, blk_cell q2 2, blk_cell q3 0, blk_cell q3 1, blk_cell q3 2, blk_cell q4 0, blk_cell q4 1, blk_cell q4 2, blk_cell q4 3, blk_cell q5 0, blk_cell q5 1, blk_cell q5 2, blk_cell q5 3, blk_cell q6 0, blk_cell q6 1, blk_cell q6 2, blk_cell q7 0, blk_cell q7 1, blk_cell q7 2⟩
  have hEvs : ∀ W W', Below W.heap.size W W' → Ev W → Ev W' ∧ W'.cell? ⟨w.heap.size, 0, none⟩ = some (.int .i64 C.epoch) ∧ W'.cell? ⟨w.heap.size, 1, none⟩ = some (.int .i64 C.next) ∧ W'.cell? ⟨w.heap.size, 2, none⟩ = some (.slice ca C.opens.length cc) ∧ W'.cell? ⟨w.heap.size + 1, 0, none⟩ = some (.int .i64 D.epoch) ∧ W'.cell? ⟨w.heap.size + 1, 1, none⟩ = some (.int .i64 D.next) ∧ W'.cell? ⟨w.heap.size + 1, 2, none⟩ = some (.slice da D.opens.length dc) ∧ W'.cell? ⟨v3.heap.size, 0, none⟩ = some (.int .i64 C.epoch) ∧ W'.cell? ⟨v3.heap.size, 1, none⟩ = some (.int .i64 X.next) ∧ W'.cell? ⟨v3.heap.size, 2, none⟩ = some (.slice xa X.opens.length xc) ∧ W'.cell? ⟨v4.heap.size, 0, none⟩ = some (.int .i64 C.epoch) ∧ W'.cell? ⟨v4.heap.size, 1, none⟩ = some (.int .i64 X.next) ∧ W'.cell? ⟨v4.heap.size, 2, none⟩ = some (.slice ya X.opens.length yc) ∧ W'.cell? ⟨v5.heap.size, 0, none⟩ = some (.int .i64 F.id) ∧ W'.cell? ⟨v5.heap.size, 1, none⟩ = some (.int .u8 F.kind) ∧ W'.cell? ⟨v5.heap.size, 2, none⟩ = some (.int .i64 F.key) ∧ W'.cell? ⟨v5.heap.size, 3, none⟩ = some (.int .i64 F.sent) ∧ W'.cell? ⟨v6.heap.size, 0, none⟩ = some (.int .i64 F.id) ∧ W'.cell? ⟨v6.heap.size, 1, none⟩ = some (.int .u8 F.kind) ∧ W'.cell? ⟨v6.heap.size, 2, none⟩ = some (.int .i64 F.key) ∧ W'.cell? ⟨v6.heap.size, 3, none⟩ = some (.int .i64 F.sent) ∧ W'.cell? ⟨v7.heap.size, 0, none⟩ = some (.int .i64 ba) ∧ W'.cell? ⟨v7.heap.size, 1, none⟩ = some (.int .i64 bb) ∧ W'.cell? ⟨v7.heap.size, 2, none⟩ = some (.slice none 0 0) ∧ W'.cell? ⟨v8.heap.size, 0, none⟩ = some (.int .i64 ba) ∧ W'.cell? ⟨v8.heap.size, 1, none⟩ = some (.int .i64 bb) ∧ W'.cell? ⟨v8.heap.size, 2, none⟩ = some (.slice none 0 0) := fun W W' hb h => ⟨hEvk W W' hb h, hEvc W' (hEvk W W' hb h)⟩
  have Ev_0 := hid hEv0
  have Ev_S := hid hEvs
  have Ev_K := hid hEvk
  have Ev_HR := hid hEv_HR
  have Ev_HS := hid hEv_HS
  have Ev_RX := hid hEv_RX
  have Ev_RY := hid hEv_RY
  have Ev_Z := hid hEv_Z
  have Ev_D := hid hEvdef
  clear B0 D0 X0 Y0 P0 Q0 G0 A0 HR HS RX RY Z hEv0 hEvk hEvs hEvdef hEv_HR hEv_HS hEv_RX hEv_RY hEv_Z hEvc
  obtain ⟨rb, hrb⟩ : ∃ rb, rightB C = rb := ⟨_, rfl⟩
  obtain ⟨hh, hhh⟩ : ∃ hh, hasB C.opens k key = hh := ⟨_, rfl⟩
  have HRB := hid hrb
  have HHH := hid hhh
  clear hrb hhh
  have hne := neq_run F F
  rw [sameX_iff.2 rfl] at hne
  go_region_held3 (fun W => Ev W ∧ W.cell? ⟨w.heap.size, 0, none⟩ = some (.int .i64 C.epoch) ∧ W.cell? ⟨w.heap.size, 1, none⟩ = some (.int .i64 C.next) ∧ W.cell? ⟨w.heap.size, 2, none⟩ = some (.slice ca C.opens.length cc) ∧ W.cell? ⟨w.heap.size + 1, 0, none⟩ = some (.int .i64 D.epoch) ∧ W.cell? ⟨w.heap.size + 1, 1, none⟩ = some (.int .i64 D.next) ∧ W.cell? ⟨w.heap.size + 1, 2, none⟩ = some (.slice da D.opens.length dc) ∧ W.cell? ⟨v3.heap.size, 0, none⟩ = some (.int .i64 C.epoch) ∧ W.cell? ⟨v3.heap.size, 1, none⟩ = some (.int .i64 X.next) ∧ W.cell? ⟨v3.heap.size, 2, none⟩ = some (.slice xa X.opens.length xc) ∧ W.cell? ⟨v4.heap.size, 0, none⟩ = some (.int .i64 C.epoch) ∧ W.cell? ⟨v4.heap.size, 1, none⟩ = some (.int .i64 X.next) ∧ W.cell? ⟨v4.heap.size, 2, none⟩ = some (.slice ya X.opens.length yc) ∧ W.cell? ⟨v5.heap.size, 0, none⟩ = some (.int .i64 F.id) ∧ W.cell? ⟨v5.heap.size, 1, none⟩ = some (.int .u8 F.kind) ∧ W.cell? ⟨v5.heap.size, 2, none⟩ = some (.int .i64 F.key) ∧ W.cell? ⟨v5.heap.size, 3, none⟩ = some (.int .i64 F.sent) ∧ W.cell? ⟨v6.heap.size, 0, none⟩ = some (.int .i64 F.id) ∧ W.cell? ⟨v6.heap.size, 1, none⟩ = some (.int .u8 F.kind) ∧ W.cell? ⟨v6.heap.size, 2, none⟩ = some (.int .i64 F.key) ∧ W.cell? ⟨v6.heap.size, 3, none⟩ = some (.int .i64 F.sent) ∧ W.cell? ⟨v7.heap.size, 0, none⟩ = some (.int .i64 ba) ∧ W.cell? ⟨v7.heap.size, 1, none⟩ = some (.int .i64 bb) ∧ W.cell? ⟨v7.heap.size, 2, none⟩ = some (.slice none 0 0) ∧ W.cell? ⟨v8.heap.size, 0, none⟩ = some (.int .i64 ba) ∧ W.cell? ⟨v8.heap.size, 1, none⟩ = some (.int .i64 bb) ∧ W.cell? ⟨v8.heap.size, 2, none⟩ = some (.slice none 0 0)) (first | exact Ev_S.out _ _ (below_drewN (Below.refl _ _) 1) Ev_0.out | (go_split_ands; exact Ev_S.out _ _ (below_drewN (Below.refl _ _) 1) (by assumption)) | (go_split_ands; exact Ev_S.out _ _ hb1 (by assumption)) | (go_split_ands; exact Ev_S.out _ _ hb2 (by assumption)) | (go_split_ands; exact Ev_S.out _ _ hb3 (by assumption)) | (go_split_ands; exact Ev_S.out _ _ hb4 (by assumption)) | (go_split_ands; exact Ev_S.out _ _ hb5 (by assumption)) | (go_split_ands; exact Ev_S.out _ _ hb6 (by assumption))) (first | (go_at_call_of 20 (Value.agg #[.int .i64 C.epoch, .int .i64 X.next, .slice xa X.opens.length xc]); go_split_ands; refine (rsame_same C.epoch X.next _ _ X.opens _ (Ev_RX.out _ (by assumption)) (Ev_RY.out _ (by assumption)) (by omega)).mono ?_; rintro e w1 ⟨rfl, hb1⟩) | (go_at_call_of 20 (Value.agg #[.int .i64 ba, .int .i64 bb, .slice none 0 0]); refine (rsame_same ba bb (.slice none 0 0) (.slice none 0 0) [] _ RowOf.nil RowOf.nil (by simp)).mono ?_; rintro e w2 ⟨rfl, hb2⟩) | (go_at_call 15; go_split_ands; refine (tl_right C _ _ rb HRB.out (Ev_HR.out _ (by assumption)) hl).mono ?_; rintro e w3 ⟨rfl, hb3⟩) | (go_at_call 9; go_split_ands; refine (lt_right C _ _ rb HRB.out HWF.out (Ev_HR.out _ (by assumption)) hl).mono ?_; rintro e w4 ⟨rfl, hb4⟩) | (go_at_call 12; go_split_ands; refine (tl_has C _ k key hh _ (Ev_HR.out _ (by assumption)) hl HHH.out).mono ?_; rintro e w5 ⟨rfl, hb5⟩) | (go_at_call 21; go_split_ands; refine (rhas_at _ _ k key _ _ hh _ (by omega) (Ev_HR.out _ (by assumption)) HHH.out).mono ?_; rintro e w6 ⟨rfl, hb6⟩))
  go_wp2
  obtain ⟨KL, hKL⟩ : ∃ KL, keptL C (fun x => x.id != id) = KL := ⟨_, rfl⟩
  obtain ⟨LL, hLL⟩ : ∃ LL, lateL C now tm = LL := ⟨_, rfl⟩
  obtain ⟨sb, hsb⟩ : ∃ sb, sameV C D = sb := ⟨_, rfl⟩
  have hKl : KL.length ≤ 60 := by rw [← hKL]; have := kept_len C (fun x => x.id != id); omega
  have hLl : LL.length ≤ 60 := by rw [← hLL]; have := late_len C now tm; omega
  have HKL := hid hKL
  have HLL := hid hLL
  have HSB := hid hsb
  clear hKL hLL hsb
  go_region_held3 (fun W => Ev W ∧ W.cell? ⟨w.heap.size, 0, none⟩ = some (.int .i64 C.epoch) ∧ W.cell? ⟨w.heap.size, 1, none⟩ = some (.int .i64 C.next) ∧ W.cell? ⟨w.heap.size, 2, none⟩ = some (.slice ca C.opens.length cc) ∧ W.cell? ⟨w.heap.size + 1, 0, none⟩ = some (.int .i64 D.epoch) ∧ W.cell? ⟨w.heap.size + 1, 1, none⟩ = some (.int .i64 D.next) ∧ W.cell? ⟨w.heap.size + 1, 2, none⟩ = some (.slice da D.opens.length dc) ∧ W.cell? ⟨v3.heap.size, 0, none⟩ = some (.int .i64 C.epoch) ∧ W.cell? ⟨v3.heap.size, 1, none⟩ = some (.int .i64 X.next) ∧ W.cell? ⟨v3.heap.size, 2, none⟩ = some (.slice xa X.opens.length xc) ∧ W.cell? ⟨v4.heap.size, 0, none⟩ = some (.int .i64 C.epoch) ∧ W.cell? ⟨v4.heap.size, 1, none⟩ = some (.int .i64 X.next) ∧ W.cell? ⟨v4.heap.size, 2, none⟩ = some (.slice ya X.opens.length yc) ∧ W.cell? ⟨v5.heap.size, 0, none⟩ = some (.int .i64 F.id) ∧ W.cell? ⟨v5.heap.size, 1, none⟩ = some (.int .u8 F.kind) ∧ W.cell? ⟨v5.heap.size, 2, none⟩ = some (.int .i64 F.key) ∧ W.cell? ⟨v5.heap.size, 3, none⟩ = some (.int .i64 F.sent) ∧ W.cell? ⟨v6.heap.size, 0, none⟩ = some (.int .i64 F.id) ∧ W.cell? ⟨v6.heap.size, 1, none⟩ = some (.int .u8 F.kind) ∧ W.cell? ⟨v6.heap.size, 2, none⟩ = some (.int .i64 F.key) ∧ W.cell? ⟨v6.heap.size, 3, none⟩ = some (.int .i64 F.sent) ∧ W.cell? ⟨v7.heap.size, 0, none⟩ = some (.int .i64 ba) ∧ W.cell? ⟨v7.heap.size, 1, none⟩ = some (.int .i64 bb) ∧ W.cell? ⟨v7.heap.size, 2, none⟩ = some (.slice none 0 0) ∧ W.cell? ⟨v8.heap.size, 0, none⟩ = some (.int .i64 ba) ∧ W.cell? ⟨v8.heap.size, 1, none⟩ = some (.int .i64 bb) ∧ W.cell? ⟨v8.heap.size, 2, none⟩ = some (.slice none 0 0)) (first | exact Ev_S.out _ _ (below_drewN (Below.refl _ _) 1) Ev_0.out | (go_split_ands; exact Ev_S.out _ _ (below_drewN (Below.refl _ _) 1) (by assumption)) | (go_split_ands; exact Ev_S.out _ _ hb1 (by assumption)) | (go_split_ands; exact Ev_S.out _ _ hb2 (by assumption)) | (go_split_ands; exact Ev_S.out _ _ hb3 (by assumption)) | (go_split_ands; exact Ev_S.out _ _ hb4 (by assumption)) | (go_split_ands; exact Ev_S.out _ _ hb5 (by assumption)) | (go_split_ands; exact Ev_S.out _ _ hb6 (by assumption)) | (go_split_ands; exact Ev_S.out _ _ hb7 (by assumption)) | (go_split_ands; exact Ev_S.out _ _ hb8 (by assumption)) | (go_split_ands; exact Ev_S.out _ _ hb9 (by assumption))) (first | (go_at_call 11; go_split_ands; refine (tl_close C _ id KL _ (Ev_HR.out _ (by assumption)) hl HKL.out).mono ?_; rintro e w1 ⟨k1a, k1c, rfl, hk1, hb1⟩) | (go_at_call 22; go_split_ands; refine (tl_rclose C _ id KL _ (Ev_HR.out _ (by assumption)) hl HWF.out HKL.out).mono ?_; rintro e w2 ⟨k2a, k2c, rfl, hk2, hb2⟩; replace hk1 := hid (RowOf.below hk1.out hb2)) | (go_at_call_of 20 (Value.agg #[.int .i64 C.epoch, .int .i64 C.next, .slice k1a KL.length k1c]); refine (rsame_same C.epoch C.next _ _ KL _ hk1.out hk2.out (by omega)).mono ?_; rintro e w3 ⟨rfl, hb3⟩) | (go_at_call 23; go_split_ands; refine (tl_late C _ now tm LL _ (Ev_HR.out _ (by assumption)) hl HLL.out).mono ?_; rintro e w4 ⟨l1a, l1c, rfl, hl1, hb4⟩) | (go_at_call 24; go_split_ands; refine (tl_rlate C _ now tm LL _ (Ev_HR.out _ (by assumption)) hl HWF.out HLL.out).mono ?_; rintro e w5 ⟨l2a, l2c, rfl, hl2, hb5⟩; replace hl1 := hid (RowOf.below hl1.out hb5)) | (go_at_call_of 20 (Value.agg #[.int .i64 C.epoch, .int .i64 C.next, .slice l1a LL.length l1c]); refine (rsame_same C.epoch C.next _ _ LL _ hl1.out hl2.out (by omega)).mono ?_; rintro e w6 ⟨rfl, hb6⟩) | (go_at_call 25; go_split_ands; refine (tl_same C D _ _ sb _ (Ev_HR.out _ (by assumption)) (Ev_HS.out _ (by assumption)) hl hm HSB.out).mono ?_; rintro e w7 ⟨rfl, hb7⟩) | (go_at_call 20; go_split_ands; refine (tl_rsame C D _ _ sb _ (Ev_HR.out _ (by assumption)) (Ev_HS.out _ (by assumption)) hl hm HSB.out).mono ?_; rintro e w8 ⟨rfl, hb8⟩) | (go_at_call 10; refine (wakes_any _).mono ?_; rintro e w9 ⟨rfl, hb9⟩))
  go_wp2
  go_split_ands
  go_ret
  exact ⟨rfl, Ev_Z.out _ (by assumption)⟩
end Go.Proofs.Ytmphehlpakoheaa
