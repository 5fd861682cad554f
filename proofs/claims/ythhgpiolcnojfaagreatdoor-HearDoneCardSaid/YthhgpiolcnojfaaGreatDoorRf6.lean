import Derived.Test.YthhgpiolcnojfaaGreatDoorRfm
/- A part of the proofs about open calls: contracts of functions, or plain facts that they want. -/
namespace Go.Proofs.YthhgpiolcnojfaaGreatDoor
open Go.RowKit Go.Shelf

def openOk (c : CallsV) (k key now : Int) : Bool := crightB c && (kindB k && ((numB key && numB now) && !hasB c.opens k key))
def openErr (c : CallsV) (k key now : Int) : Int := if openOk c k key now then (if c.next < 1048576 then 0 else 241) else 2
def openId (c : CallsV) (k key now : Int) : Int := if openErr c k key now = 0 then c.epoch * 1048576 + c.next else 0
def openC (c : CallsV) (k key now : Int) : CallsV := if openErr c k key now = 0 then ⟨c.epoch, c.next + 1, c.opens ++ [⟨c.epoch * 1048576 + c.next, k, key, now⟩]⟩ else c

/-- The variables that Open's closure has caught. -/
structure OB (n : Nat) (W : World) (ep nx : Int) (s : Value) (kd ky now : Int) (nx' : Int) (v : Value) (id : Int) : Prop where
 b0 : W.heap[n]? = some (.cells #[.int .i64 ep, .int .i64 nx, s] 33)
 b1 : W.heap[n + 1]? = some (.cells #[.int .u8 kd] 5)
 b2 : W.heap[n + 2]? = some (.cells #[.int .i64 ky] 3)
 b3 : W.heap[n + 3]? = some (.cells #[.int .i64 now] 3)
 b4 : W.heap[n + 4]? = some (.cells #[.int .i64 ep, .int .i64 nx', v] 33)
 b5 : W.heap[n + 5]? = some (.cells #[.int .i64 id] 3)

theorem OB.below {n B : Nat} {W W' : World} {ep nx : Int} {s : Value} {kd ky now nx' : Int} {v : Value} {id : Int} (h : OB n W ep nx s kd ky now nx' v id) (hB : Below B W W') (hn : n + 6 ≤ B) : OB n W' ep nx s kd ky now nx' v id :=
 ⟨blk_below h.b0 hB (by omega), blk_below h.b1 hB (by omega), blk_below h.b2 hB (by omega), blk_below h.b3 hB (by omega), blk_below h.b4 hB (by omega), blk_below h.b5 hB (by omega)⟩
theorem OB.size {n : Nat} {W : World} {ep nx : Int} {s : Value} {kd ky now nx' : Int} {v : Value} {id : Int} (h : OB n W ep nx s kd ky now nx' v id) : n + 6 ≤ W.heap.size := blk_lt h.b5

theorem rightB_in {c : CallsV} (h : crightB c = true) : 0 ≤ c.epoch ∧ c.epoch ≤ 524288 ∧ 1 ≤ c.next ∧ c.next ≤ 1048576 := by
 unfold crightB at h
 simp only [Bool.and_eq_true, decide_eq_true_eq] at h
 exact ⟨h.1.1.1.1, h.1.1.1.2, h.1.1.2, h.1.2⟩

end Go.Proofs.YthhgpiolcnojfaaGreatDoor

/- A part of the proofs about open calls: contracts of functions, or plain facts that they want. -/
namespace Go.Proofs.YthhgpiolcnojfaaGreatDoor
open Go.RowKit Go.Shelf

end Go.Proofs.YthhgpiolcnojfaaGreatDoor

/- A part of the proofs about open calls: contracts of functions, or plain facts that they want. -/
namespace Go.Proofs.YthhgpiolcnojfaaGreatDoor
open Go.RowKit Go.Shelf

end Go.Proofs.YthhgpiolcnojfaaGreatDoor

/- The reference's Open. -/
namespace Go.Proofs.YthhgpiolcnojfaaGreatDoor
open Go.RowKit Go.Shelf

theorem res_calls_tt {fn : Func} {tmps : Array Value} {r q p : Tmp} {b : Nat} {x y z u t : Value} {W : World} (hres : fn.results = #[.cell r 33, .tmp q, .tmp p]) (h : tmps.getD r undef = .pointer (some ⟨b, 0, none⟩)) (hq : tmps.getD q undef = u) (hp : tmps.getD p undef = t)
  (hb : W.heap[b]? = some (.cells #[x, y, z] 33)) :
  (results fn tmps).run Tryz.prog W = .ok (.tuple #[.agg #[x, y, z], u, t]) W := by
 obtain ⟨k0, k1, k2, _, _⟩ := blk3 hb
 rw [Array.getD_eq_getD_getElem?] at h hq hp
 simp [results, hres, go_sem, h, hq, hp, k0, k1, k2]
theorem rhas_at (ep nx kd ky : Int) (s : Value) (l : List CallV) (b : Bool) (w : World) (hn : l.length ≤ 1000000) (hs : Row12 w s l) (hb : hasB l kd ky = b) :
  Calls Tryz.prog 56 #[calls ep nx s, .int .u8 kd, .int .i64 ky] w fun e w' => e = .returned (.bool b) ∧ Below w.heap.size w w' := by
 rw [← hb]; exact rhas_any ep nx kd ky s l w hn hs

set_option maxHeartbeats 4000000 in
set_option maxRecDepth 100000 in
theorem ropen_any (ep nx kd ky now : Int) (s : Value) (L : List CallV) (w : World) (hn : L.length ≤ 1000) (hwf : ∀ x ∈ L, x.wf) (hs : Row12 w s L) :
  Calls Tryz.prog 57 #[calls ep nx s, .int .u8 kd, .int .i64 ky, .int .i64 now] w fun e w' => ∃ v, e = .returned (.tuple #[calls ep (openC ⟨ep, nx, L⟩ kd ky now).next v, .int .i64 (openId ⟨ep, nx, L⟩ kd ky now), .int .i64 (openErr ⟨ep, nx, L⟩ kd ky now)]) ∧
   Row12 w' v (openC ⟨ep, nx, L⟩ kd ky now).opens ∧ Below w.heap.size w w' := by
 obtain ⟨i0, hi, hz0, hz1, hz2⟩ := info_parts infoC
 obtain ⟨sa, sc, rfl⟩ := shape_row hs
 obtain ⟨rb, hrb⟩ : ∃ rb, crightB ⟨ep, nx, L⟩ = rb := ⟨_, rfl⟩
 have HRB := hid hrb
 have HWF := hid hwf
 have Z0 : Below w.heap.size w ((w.alloc (.cells #[.int .i64 ep, .int .i64 nx, .slice sa L.length sc] 33)).alloc (.cells #[.int .i64 0, .int .i64 0, .slice none 0 0] 33)) := ((Below.refl _ _).alloc (Nat.le_refl _) _).alloc (by simp) _
 have Z := hid Z0
 have HS := hid (RowOf.below hs Z0)
 have B0 := hid (blk_alloc (heap_new w (.cells #[.int .i64 ep, .int .i64 nx, .slice sa L.length sc] 33)) (.cells #[.int .i64 0, .int .i64 0, .slice none 0 0] 33))
 have R0 := hid (heap_new2 w (.cells #[.int .i64 ep, .int .i64 nx, .slice sa L.length sc] 33) (.cells #[.int .i64 0, .int .i64 0, .slice none 0 0] 33))
 clear hrb hwf hs Z0
 unfold calls
 go_enter Tryz.func57, Tryz.ntmps57
 obtain ⟨b00, b01, b02, b0f, b0l⟩ := blk3 B0.out
 obtain ⟨r00, r01, r02, r0f, r0l⟩ := blk3 R0.out
 go_wp2_with fail
 clear b00 b01 b02 b0f b0l
 clear r00 r01 r02 r0f r0l
 refine (rown_at ep nx _ L _ (by omega) HS.out).mono ?_
 rintro e v1 ⟨va, vc, he, hown, hb⟩
 simp only [calls] at he
 subst he
 have hz := hb.size
 replace B0 := hid (blk_below B0.out hb (blk_lt B0.out))
 replace R0 := hid (blk_below R0.out hb (blk_lt R0.out))
 have hq : Below ((w.alloc (.cells #[.int .i64 ep, .int .i64 nx, .slice sa L.length sc] 33)).alloc (.cells #[.int .i64 0, .int .i64 0, .slice none 0 0] 33)).heap.size ((w.alloc (.cells #[.int .i64 ep, .int .i64 nx, .slice sa L.length sc] 33)).alloc (.cells #[.int .i64 0, .int .i64 0, .slice none 0 0] 33)) v1 := hb
 have OV := hid hown
 replace Z := hid (Z.out.trans (hq.mono Z.out.size))
 clear hb hz hq hown
 obtain ⟨b00, b01, b02, b0f, b0l⟩ := blk3 B0.out
 obtain ⟨r00, r01, r02, r0f, r0l⟩ := blk3 R0.out
 go_wp2_with fail
 clear b00 b01 b02 b0f b0l
 clear r00 r01 r02 r0f r0l
 obtain ⟨W5, hW5⟩ : ∃ W5, W5 = (((v1.setCell ⟨w.heap.size, 0, none⟩ (.int .i64 ep)).setCell ⟨w.heap.size, 1, none⟩ (.int .i64 nx)).setCell ⟨w.heap.size, 2, none⟩ (.slice va L.length vc)) := ⟨_, rfl⟩
 have hb5 : W5.heap[w.heap.size]? = some (.cells #[.int .i64 ep, .int .i64 nx, .slice va L.length vc] 33) := by rw [hW5]; exact blk_set (blk_set (blk_set B0.out 0 _) 1 _) 2 _
 have hr5 : W5.heap[w.heap.size + 1]? = some (.cells #[.int .i64 0, .int .i64 0, .slice none 0 0] 33) := by rw [hW5]; exact blk_other (blk_other (blk_other R0.out (by simp) _) (by simp) _) (by simp) _
 have hz5 : Below w.heap.size w W5 := by
  rw [hW5]
  exact ((Z.out.setCell (p := ⟨w.heap.size, 0, none⟩) (Nat.le_refl _) _).setCell (p := ⟨w.heap.size, 1, none⟩) (Nat.le_refl _) _).setCell (p := ⟨w.heap.size, 2, none⟩) (Nat.le_refl _) _
 have ho5 : Own12 W5 (w.heap.size + 2) (.slice va L.length vc) L := by
  rw [hW5]
  exact (((Owns.mono OV.out (by simp)).other (p := ⟨w.heap.size, 0, none⟩) (by simp) _).other (p := ⟨w.heap.size, 1, none⟩) (by simp) _).other (p := ⟨w.heap.size, 2, none⟩) (by simp) _
 rw [← hW5]
 clear B0 R0 Z OV hW5
 have B0 := hid hb5
 have R0 := hid hr5
 have Z := hid hz5
 have OV := hid ho5
 clear hb5 hr5 hz5 ho5
 refine (crright_at ep nx _ L rb _ (by omega) HWF.out (own12_row OV.out) HRB.out).mono ?_
 rintro e v2 ⟨he, hb⟩
 subst he
 have hz := hb.size
 replace B0 := hid (blk_below B0.out hb (blk_lt B0.out))
 replace R0 := hid (blk_below R0.out hb (blk_lt R0.out))
 have hq : Below W5.heap.size W5 v2 := hb
 replace OV := hid (Owns.below OV.out hq)
 replace Z := hid (Z.out.trans (hq.mono Z.out.size))
 clear hb hz hq
 cases rb with
 | false =>
  have HE : Hid (openErr ⟨ep, nx, L⟩ kd ky now = 2) := hid (by unfold openErr openOk; simp [HRB.out])
  have HI : Hid (openId ⟨ep, nx, L⟩ kd ky now = 0) := hid (by unfold openId; rw [HE.out]; rfl)
  have HN : Hid ((openC ⟨ep, nx, L⟩ kd ky now).next = nx) := hid (by unfold openC; rw [HE.out]; rfl)
  have HO : Hid ((openC ⟨ep, nx, L⟩ kd ky now).opens = L) := hid (by unfold openC; rw [HE.out]; rfl)
  obtain ⟨b00, b01, b02, b0f, b0l⟩ := blk3 B0.out
  obtain ⟨r00, r01, r02, r0f, r0l⟩ := blk3 R0.out
  go_wp2
  clear b00 b01 b02 b0f b0l
  clear r00 r01 r02 r0f r0l
  refine bodyPost_ret (res_calls_tt rfl rfl rfl rfl (blk_set (blk_set (blk_set R0.out 0 _) 1 _) 2 _)) rfl ⟨_, by rw [HN.out, HI.out, HE.out]; rfl, ?_, ?_⟩
  ·rw [HO.out]
   exact own12_row (((Owns.other OV.out (p := ⟨w.heap.size + 1, 0, none⟩) (by simp) _).other (p := ⟨w.heap.size + 1, 1, none⟩) (by simp) _).other (p := ⟨w.heap.size + 1, 2, none⟩) (by simp) _)
  ·exact ((Z.out.setCell (p := ⟨w.heap.size + 1, 0, none⟩) (by simp) _).setCell (p := ⟨w.heap.size + 1, 1, none⟩) (by simp) _).setCell (p := ⟨w.heap.size + 1, 2, none⟩) (by simp) _
 
 | true =>
  by_cases k1 : kindB kd = true
  ·have HK1 := hid k1
   clear k1
   by_cases k2 : numB ky = true
   ·have HK2 := hid k2
    clear k2
    by_cases k3 : numB now = true
    ·have HK3 := hid k3
     clear k3
     obtain ⟨hh, hhh⟩ : ∃ hh, hasB L kd ky = hh := ⟨_, rfl⟩
     have HH := hid hhh
     clear hhh
     cases hh with
     | true =>
      have HE : Hid (openErr ⟨ep, nx, L⟩ kd ky now = 2) := hid (by unfold openErr openOk; simp [HRB.out, HK1.out, HK2.out, HK3.out, HH.out])
      have HI : Hid (openId ⟨ep, nx, L⟩ kd ky now = 0) := hid (by unfold openId; rw [HE.out]; rfl)
      have HN : Hid ((openC ⟨ep, nx, L⟩ kd ky now).next = nx) := hid (by unfold openC; rw [HE.out]; rfl)
      have HO : Hid ((openC ⟨ep, nx, L⟩ kd ky now).opens = L) := hid (by unfold openC; rw [HE.out]; rfl)
      obtain ⟨b00, b01, b02, b0f, b0l⟩ := blk3 B0.out
      obtain ⟨r00, r01, r02, r0f, r0l⟩ := blk3 R0.out
      go_wp2_with fail
      refine (rkind_at kd true HK1.out _).mono ?_
      rintro e v3 ⟨he, rfl⟩
      subst he
      go_wp2_with fail
      refine (rnum_at ky true HK2.out _).mono ?_
      rintro e v3 ⟨he, rfl⟩
      subst he
      go_wp2_with fail
      refine (rnum_at now true HK3.out _).mono ?_
      rintro e v3 ⟨he, rfl⟩
      subst he
      go_wp2_with fail
      clear b00 b01 b02 b0f b0l
      clear r00 r01 r02 r0f r0l
      refine (rhas_at ep nx kd ky _ L true _ (by omega) (own12_row OV.out) HH.out).mono ?_
      rintro e v6 ⟨he, hb⟩
      subst he
      have hz := hb.size
      replace B0 := hid (blk_below B0.out hb (blk_lt B0.out))
      replace R0 := hid (blk_below R0.out hb (blk_lt R0.out))
      have hq : Below v2.heap.size v2 v6 := hb
      replace OV := hid (Owns.below OV.out hq)
      replace Z := hid (Z.out.trans (hq.mono Z.out.size))
      clear hb hz hq
      obtain ⟨b00, b01, b02, b0f, b0l⟩ := blk3 B0.out
      obtain ⟨r00, r01, r02, r0f, r0l⟩ := blk3 R0.out
      go_wp2
      clear b00 b01 b02 b0f b0l
      clear r00 r01 r02 r0f r0l
      refine bodyPost_ret (res_calls_tt rfl rfl rfl rfl (blk_set (blk_set (blk_set R0.out 0 _) 1 _) 2 _)) rfl ⟨_, by rw [HN.out, HI.out, HE.out]; rfl, ?_, ?_⟩
      ·rw [HO.out]
       exact own12_row (((Owns.other OV.out (p := ⟨w.heap.size + 1, 0, none⟩) (by simp) _).other (p := ⟨w.heap.size + 1, 1, none⟩) (by simp) _).other (p := ⟨w.heap.size + 1, 2, none⟩) (by simp) _)
      ·exact ((Z.out.setCell (p := ⟨w.heap.size + 1, 0, none⟩) (by simp) _).setCell (p := ⟨w.heap.size + 1, 1, none⟩) (by simp) _).setCell (p := ⟨w.heap.size + 1, 2, none⟩) (by simp) _
     | false =>
      obtain ⟨hb0, hb1, hb2, hb3⟩ := rightB_in HRB.out
      simp only at hb0 hb1 hb2 hb3
      by_cases hm : nx < 1048576
      ·have tm : (nx == 1048576) = false := by simp; omega
       have HE : Hid (openErr ⟨ep, nx, L⟩ kd ky now = 0) := hid (by unfold openErr openOk; simp [HRB.out, HK1.out, HK2.out, HK3.out, HH.out, hm])
       have HI : Hid (openId ⟨ep, nx, L⟩ kd ky now = ep * 1048576 + nx) := hid (by unfold openId; rw [HE.out]; rfl)
       have HN : Hid ((openC ⟨ep, nx, L⟩ kd ky now).next = nx + 1) := hid (by unfold openC; rw [HE.out]; rfl)
       have HO : Hid ((openC ⟨ep, nx, L⟩ kd ky now).opens = L ++ [⟨ep * 1048576 + nx, kd, ky, now⟩]) := hid (by unfold openC; rw [HE.out]; rfl)
       obtain ⟨b00, b01, b02, b0f, b0l⟩ := blk3 B0.out
       obtain ⟨r00, r01, r02, r0f, r0l⟩ := blk3 R0.out
       go_wp2_with fail
       refine (rkind_at kd true HK1.out _).mono ?_
       rintro e v3 ⟨he, rfl⟩
       subst he
       go_wp2_with fail
       refine (rnum_at ky true HK2.out _).mono ?_
       rintro e v3 ⟨he, rfl⟩
       subst he
       go_wp2_with fail
       refine (rnum_at now true HK3.out _).mono ?_
       rintro e v3 ⟨he, rfl⟩
       subst he
       go_wp2_with fail
       clear b00 b01 b02 b0f b0l
       clear r00 r01 r02 r0f r0l
       refine (rhas_at ep nx kd ky _ L false _ (by omega) (own12_row OV.out) HH.out).mono ?_
       rintro e v6 ⟨he, hb⟩
       subst he
       have hz := hb.size
       replace B0 := hid (blk_below B0.out hb (blk_lt B0.out))
       replace R0 := hid (blk_below R0.out hb (blk_lt R0.out))
       have hq : Below v2.heap.size v2 v6 := hb
       replace OV := hid (Owns.below OV.out hq)
       replace Z := hid (Z.out.trans (hq.mono Z.out.size))
       clear hb hz hq
       obtain ⟨b00, b01, b02, b0f, b0l⟩ := blk3 B0.out
       obtain ⟨r00, r01, r02, r0f, r0l⟩ := blk3 R0.out
 
       obtain ⟨W6, hW6⟩ : ∃ W6, W6 = v6.setCell ⟨w.heap.size, 1, none⟩ (.int .i64 (nx + 1)) := ⟨_, rfl⟩
       have hb6 : W6.heap[w.heap.size]? = some (.cells #[.int .i64 ep, .int .i64 (nx + 1), .slice va L.length vc] 33) := by rw [hW6]; exact blk_set B0.out 1 _
       have hr6 : W6.heap[w.heap.size + 1]? = some (.cells #[.int .i64 0, .int .i64 0, .slice none 0 0] 33) := by rw [hW6]; exact blk_other R0.out (by simp) _
       have hz6 : Below w.heap.size w W6 := by rw [hW6]; exact Z.out.setCell (p := ⟨w.heap.size, 1, none⟩) (Nat.le_refl _) _
       have hs6 : W6.heap.size = v6.heap.size := by rw [hW6]; simp [World.setCell]
       have ho6 : Own12 W6 (w.heap.size + 2) (.slice va L.length vc) L := by rw [hW6]; exact Owns.other OV.out (p := ⟨w.heap.size, 1, none⟩) (by simp) _
       have hlt6 : w.heap.size + 1 < W6.heap.size := blk_lt hr6
       have B6 := hid hb6
       have R6 := hid hr6
       have Z6 := hid hz6
       have O6 := hid ho6
       have HS6 := hid hs6
       have HW6 := hid hW6
       have c1 : L.length + 1 ≤ maxLen := by unfold maxLen; omega
       have c2 : (L.length + 1) * 32 ≤ 140737488355328 := by omega
       have c3 : w.heap.size + 2 ≤ (W6.alloc (.cells #[.int .i64 (ep * 1048576 + nx), .int .u8 kd, .int .i64 ky, .int .i64 now] 40)).heap.size := by simp; omega
       have hnew : ∀ (j : Nat) u, (encC ⟨ep * 1048576 + nx, kd, ky, now⟩)[j]? = some u → (W6.alloc (.cells #[.int .i64 (ep * 1048576 + nx), .int .u8 kd, .int .i64 ky, .int .i64 now] 40)).cell? ((⟨v6.heap.size, 0, none⟩ : Addr).add j) = some u := by
        rw [← hs6]; exact new_cells W6 ⟨ep * 1048576 + nx, kd, ky, now⟩ _
       have hown6 := World.ownsRow.alloc O6.out (.cells #[.int .i64 (ep * 1048576 + nx), .int .u8 kd, .int .i64 ky, .int .i64 now] 40)
       rw [hW6] at hnew hown6 c3
       have HNEW := hid hnew
       have HOWN := hid hown6
       clear hb6 hr6 hz6 ho6 hs6 hW6 hnew hown6 hlt6
       go_wp2_with (at_builtin; refine append_one rfl _ _ 31 rfl (w.heap.size + 2) 40 i0 _ 32 Tryz.underlying31 hi hz0 hz1 hz2 rfl (by decide) encC_len encC_one _ L rfl HOWN.out ⟨v6.heap.size, 0, none⟩ ⟨ep * 1048576 + nx, kd, ky, now⟩ rfl HNEW.out c1 c2 c3 ?_; intro lv' w1 hown hbw hgrow; obtain ⟨la, ln, lc, rfl⟩ := hown.shape; rw [← HW6.out] at hbw; have HOW := hid hown; have HBW := hid hbw; have B7 := hid (blk_below (blk_alloc B6.out _) hbw (by omega)); have R7 := hid (blk_below (blk_alloc R6.out _) hbw (by omega)); clear hown hbw hgrow; obtain ⟨y00, y01, y02, y0f, y0l⟩ := blk3 B7.out; obtain ⟨z00, z01, z02, z0f, z0l⟩ := blk3 R7.out)
       refine bodyPost_ret (res_calls_tt rfl rfl rfl rfl (blk_set (blk_set (blk_set (blk_other R7.out (by simp) _) 0 _) 1 _) 2 _)) rfl ⟨_, by rw [HN.out, HI.out, HE.out]; rfl, ?_, ?_⟩
       ·rw [HO.out]
        exact own12_row ((((Owns.other HOW.out (p := ⟨w.heap.size, 2, none⟩) (by simp) _).other (p := ⟨w.heap.size + 1, 0, none⟩) (by simp) _).other (p := ⟨w.heap.size + 1, 1, none⟩) (by simp) _).other (p := ⟨w.heap.size + 1, 2, none⟩) (by simp) _)
       ·exact (((((Z6.out.alloc Z6.out.size _).trans (HBW.out.mono (by omega))).setCell (p := ⟨w.heap.size, 2, none⟩) (by simp) _).setCell (p := ⟨w.heap.size + 1, 0, none⟩) (by simp) _).setCell (p := ⟨w.heap.size + 1, 1, none⟩) (by simp) _).setCell (p := ⟨w.heap.size + 1, 2, none⟩) (by simp) _
      ·obtain rfl : nx = 1048576 := by omega
       have tm : ((1048576 : Int) == 1048576) = true := by simp
       have HE : Hid (openErr ⟨ep, 1048576, L⟩ kd ky now = 241) := hid (by unfold openErr openOk; simp [HRB.out, HK1.out, HK2.out, HK3.out, HH.out])
       have HI : Hid (openId ⟨ep, 1048576, L⟩ kd ky now = 0) := hid (by unfold openId; rw [HE.out]; rfl)
       have HN : Hid ((openC ⟨ep, 1048576, L⟩ kd ky now).next = 1048576) := hid (by unfold openC; rw [HE.out]; rfl)
       have HO : Hid ((openC ⟨ep, 1048576, L⟩ kd ky now).opens = L) := hid (by unfold openC; rw [HE.out]; rfl)
       obtain ⟨b00, b01, b02, b0f, b0l⟩ := blk3 B0.out
       obtain ⟨r00, r01, r02, r0f, r0l⟩ := blk3 R0.out
       go_wp2_with fail
       refine (rkind_at kd true HK1.out _).mono ?_
       rintro e v3 ⟨he, rfl⟩
       subst he
       go_wp2_with fail
       refine (rnum_at ky true HK2.out _).mono ?_
       rintro e v3 ⟨he, rfl⟩
       subst he
       go_wp2_with fail
       refine (rnum_at now true HK3.out _).mono ?_
       rintro e v3 ⟨he, rfl⟩
       subst he
       go_wp2_with fail
       clear b00 b01 b02 b0f b0l
       clear r00 r01 r02 r0f r0l
       refine (rhas_at ep 1048576 kd ky _ L false _ (by omega) (own12_row OV.out) HH.out).mono ?_
       rintro e v6 ⟨he, hb⟩
       subst he
       have hz := hb.size
       replace B0 := hid (blk_below B0.out hb (blk_lt B0.out))
       replace R0 := hid (blk_below R0.out hb (blk_lt R0.out))
       have hq : Below v2.heap.size v2 v6 := hb
       replace OV := hid (Owns.below OV.out hq)
       replace Z := hid (Z.out.trans (hq.mono Z.out.size))
       clear hb hz hq
       obtain ⟨b00, b01, b02, b0f, b0l⟩ := blk3 B0.out
       obtain ⟨r00, r01, r02, r0f, r0l⟩ := blk3 R0.out
       go_wp2
       clear b00 b01 b02 b0f b0l
       clear r00 r01 r02 r0f r0l
       refine bodyPost_ret (res_calls_tt rfl rfl rfl rfl (blk_set (blk_set (blk_set R0.out 0 _) 1 _) 2 _)) rfl ⟨_, by rw [HN.out, HI.out, HE.out]; rfl, ?_, ?_⟩
       ·rw [HO.out]
        exact own12_row (((Owns.other OV.out (p := ⟨w.heap.size + 1, 0, none⟩) (by simp) _).other (p := ⟨w.heap.size + 1, 1, none⟩) (by simp) _).other (p := ⟨w.heap.size + 1, 2, none⟩) (by simp) _)
       ·exact ((Z.out.setCell (p := ⟨w.heap.size + 1, 0, none⟩) (by simp) _).setCell (p := ⟨w.heap.size + 1, 1, none⟩) (by simp) _).setCell (p := ⟨w.heap.size + 1, 2, none⟩) (by simp) _
    ·have k3f : numB now = false := by simpa using k3
     have HK3 := hid k3f
     clear k3 k3f
     have HE : Hid (openErr ⟨ep, nx, L⟩ kd ky now = 2) := hid (by unfold openErr openOk; simp [HRB.out, HK1.out, HK2.out, HK3.out])
     have HI : Hid (openId ⟨ep, nx, L⟩ kd ky now = 0) := hid (by unfold openId; rw [HE.out]; rfl)
     have HN : Hid ((openC ⟨ep, nx, L⟩ kd ky now).next = nx) := hid (by unfold openC; rw [HE.out]; rfl)
     have HO : Hid ((openC ⟨ep, nx, L⟩ kd ky now).opens = L) := hid (by unfold openC; rw [HE.out]; rfl)
     obtain ⟨b00, b01, b02, b0f, b0l⟩ := blk3 B0.out
     obtain ⟨r00, r01, r02, r0f, r0l⟩ := blk3 R0.out
     go_wp2_with fail
     refine (rkind_at kd true HK1.out _).mono ?_
     rintro e v3 ⟨he, rfl⟩
     subst he
     go_wp2_with fail
     refine (rnum_at ky true HK2.out _).mono ?_
     rintro e v3 ⟨he, rfl⟩
     subst he
     go_wp2_with fail
     refine (rnum_at now false HK3.out _).mono ?_
     rintro e v3 ⟨he, rfl⟩
     subst he
     go_wp2
     clear b00 b01 b02 b0f b0l
     clear r00 r01 r02 r0f r0l
     refine bodyPost_ret (res_calls_tt rfl rfl rfl rfl (blk_set (blk_set (blk_set R0.out 0 _) 1 _) 2 _)) rfl ⟨_, by rw [HN.out, HI.out, HE.out]; rfl, ?_, ?_⟩
     ·rw [HO.out]
      exact own12_row (((Owns.other OV.out (p := ⟨w.heap.size + 1, 0, none⟩) (by simp) _).other (p := ⟨w.heap.size + 1, 1, none⟩) (by simp) _).other (p := ⟨w.heap.size + 1, 2, none⟩) (by simp) _)
     ·exact ((Z.out.setCell (p := ⟨w.heap.size + 1, 0, none⟩) (by simp) _).setCell (p := ⟨w.heap.size + 1, 1, none⟩) (by simp) _).setCell (p := ⟨w.heap.size + 1, 2, none⟩) (by simp) _
   ·have k2f : numB ky = false := by simpa using k2
    have HK2 := hid k2f
    clear k2 k2f
    have HE : Hid (openErr ⟨ep, nx, L⟩ kd ky now = 2) := hid (by unfold openErr openOk; simp [HRB.out, HK1.out, HK2.out])
    have HI : Hid (openId ⟨ep, nx, L⟩ kd ky now = 0) := hid (by unfold openId; rw [HE.out]; rfl)
    have HN : Hid ((openC ⟨ep, nx, L⟩ kd ky now).next = nx) := hid (by unfold openC; rw [HE.out]; rfl)
    have HO : Hid ((openC ⟨ep, nx, L⟩ kd ky now).opens = L) := hid (by unfold openC; rw [HE.out]; rfl)
    obtain ⟨b00, b01, b02, b0f, b0l⟩ := blk3 B0.out
    obtain ⟨r00, r01, r02, r0f, r0l⟩ := blk3 R0.out
    go_wp2_with fail
    refine (rkind_at kd true HK1.out _).mono ?_
    rintro e v3 ⟨he, rfl⟩
    subst he
    go_wp2_with fail
    refine (rnum_at ky false HK2.out _).mono ?_
    rintro e v3 ⟨he, rfl⟩
    subst he
    go_wp2
    clear b00 b01 b02 b0f b0l
    clear r00 r01 r02 r0f r0l
    refine bodyPost_ret (res_calls_tt rfl rfl rfl rfl (blk_set (blk_set (blk_set R0.out 0 _) 1 _) 2 _)) rfl ⟨_, by rw [HN.out, HI.out, HE.out]; rfl, ?_, ?_⟩
    ·rw [HO.out]
     exact own12_row (((Owns.other OV.out (p := ⟨w.heap.size + 1, 0, none⟩) (by simp) _).other (p := ⟨w.heap.size + 1, 1, none⟩) (by simp) _).other (p := ⟨w.heap.size + 1, 2, none⟩) (by simp) _)
    ·exact ((Z.out.setCell (p := ⟨w.heap.size + 1, 0, none⟩) (by simp) _).setCell (p := ⟨w.heap.size + 1, 1, none⟩) (by simp) _).setCell (p := ⟨w.heap.size + 1, 2, none⟩) (by simp) _
  ·have k1f : kindB kd = false := by simpa using k1
   have HK1 := hid k1f
   clear k1 k1f
   have HE : Hid (openErr ⟨ep, nx, L⟩ kd ky now = 2) := hid (by unfold openErr openOk; simp [HRB.out, HK1.out])
   have HI : Hid (openId ⟨ep, nx, L⟩ kd ky now = 0) := hid (by unfold openId; rw [HE.out]; rfl)
   have HN : Hid ((openC ⟨ep, nx, L⟩ kd ky now).next = nx) := hid (by unfold openC; rw [HE.out]; rfl)
   have HO : Hid ((openC ⟨ep, nx, L⟩ kd ky now).opens = L) := hid (by unfold openC; rw [HE.out]; rfl)
   obtain ⟨b00, b01, b02, b0f, b0l⟩ := blk3 B0.out
   obtain ⟨r00, r01, r02, r0f, r0l⟩ := blk3 R0.out
   go_wp2_with fail
   refine (rkind_at kd false HK1.out _).mono ?_
   rintro e v3 ⟨he, rfl⟩
   subst he
   go_wp2
   clear b00 b01 b02 b0f b0l
   clear r00 r01 r02 r0f r0l
   refine bodyPost_ret (res_calls_tt rfl rfl rfl rfl (blk_set (blk_set (blk_set R0.out 0 _) 1 _) 2 _)) rfl ⟨_, by rw [HN.out, HI.out, HE.out]; rfl, ?_, ?_⟩
   ·rw [HO.out]
    exact own12_row (((Owns.other OV.out (p := ⟨w.heap.size + 1, 0, none⟩) (by simp) _).other (p := ⟨w.heap.size + 1, 1, none⟩) (by simp) _).other (p := ⟨w.heap.size + 1, 2, none⟩) (by simp) _)
   ·exact ((Z.out.setCell (p := ⟨w.heap.size + 1, 0, none⟩) (by simp) _).setCell (p := ⟨w.heap.size + 1, 1, none⟩) (by simp) _).setCell (p := ⟨w.heap.size + 1, 2, none⟩) (by simp) _
end Go.Proofs.YthhgpiolcnojfaaGreatDoor
