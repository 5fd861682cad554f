/- The walk of the statement CallNumbers. -/
import Derived.Test.YtmphehlpakoheaaNm1
namespace Go.Proofs.Ytmphehlpakoheaa
open Go.RowKit Go.Shelf

structure DeedV where
  what : Int
  kind : Int
  key : Int
  now : Int

def encD (x : DeedV) : List Value := [.int .u8 x.what, .int .u8 x.kind, .int .i64 x.key, .int .i64 x.now]
def DeedV.wf (x : DeedV) : Prop := in8 x.what ∧ in8 x.kind ∧ in64 x.key ∧ in64 x.now
theorem rowD {w : World} {b off : Nat} {l : List DeedV} (h : RowAt 4 encD w b off l) {i : Nat} {x : DeedV} (hi : l[i]? = some x) :
    w.cell? ⟨b, off + i * 4, none⟩ = some (.int .u8 x.what) ∧ w.cell? ⟨b, off + i * 4 + 1, none⟩ = some (.int .u8 x.kind) ∧
    w.cell? ⟨b, off + i * 4 + 2, none⟩ = some (.int .i64 x.key) ∧ w.cell? ⟨b, off + i * 4 + 3, none⟩ = some (.int .i64 x.now) :=
  ⟨h i x hi 0 _ rfl, h i x hi 1 _ rfl, h i x hi 2 _ rfl, h i x hi 3 _ rfl⟩

def encI (x : Int) : List Value := [.int .i64 x]
theorem encI_len (x : Int) : (encI x).length = 1 := rfl
theorem infoI : (Try.prog.info? 3).map (fun i => (i.zero, i.size, i.bytes)) = some (some (.int .i64 0), 1, 8) := by kernel_rfl

/-- What holds between two deeds. -/
structure NumR (epoch : Int) (B : Nat) (w1 : World) (k : Nat) (last : Int) (v tv : Value) (C : CallsV) (T : List Int) (wr : World) : Prop where
  right : rightB C = true
  ep : C.epoch = epoch
  last0 : 0 ≤ last
  last : last < C.epoch * 1048576 + C.next
  len : C.opens.length ≤ k
  tlen : T.length ≤ k
  box : wr.heap[B]? = some (.cells #[.int .i64 C.epoch, .int .i64 C.next, v] 24)
  row : Row12 wr v C.opens
  told : Owns 1 3 encI wr (B + 1) tv T
  below : Below B w1 wr

set_option maxHeartbeats 4000000 in
set_option maxRecDepth 100000 in
theorem num_good (epoch more : Int) (lv : Value) (l : List DeedV) (w : World) (h0 : 0 ≤ epoch) (h1 : epoch ≤ 262144) (h2 : 1 ≤ more) (h3 : more ≤ 262144) (hl : l.length ≤ 40) (hwf : ∀ x ∈ l, x.wf) (hrow : RowOf 4 encD w lv l) :
    Calls Try.prog 5 #[.int .i64 epoch, .int .i64 more, lv] w fun e w' => e = .returned (.bool true) ∧ Below w.heap.size w w' := by
  obtain ⟨j0, hj, hy0, hy1, hy2⟩ := info_parts infoI
  obtain ⟨sa, sc, rfl, hl1, hl2, hl3, hop⟩ := hrow.open
  have HOP := hid hop
  have HWF := hid hwf
  clear hop hrow hwf
  have d1 : decide (epoch < 0) = false := by simpa using h0
  have d2 : decide (more < 1) = false := by simp; omega
  have d3 : decide (262144 < epoch) = false := by simpa using h1
  have d4 : decide (262144 < more) = false := by simpa using h3
  have d5 : decide (40 < l.length) = false := by simpa using hl
  go_enter Try.func5, Try.ntmps5
  go_wp2_with fail
  refine (full_begin1 epoch _ h0 (by omega)).mono ?_
  rintro e w1 ⟨he, hb1⟩
  simp only [calls] at he
  subst he
  have HB1 := hid hb1
  have hsz := hb1.size
  clear hb1
  go_wp2_with fail
  go_loopw [9, 10, 11] (fun la tol i wr => ∃ (k : Nat) (last : Int) (v : Value) (C : CallsV) (T : List Int), i = .int .i64 k ∧ la = .int .i64 last ∧ k ≤ l.length ∧ NumR epoch w1.heap.size w1 k last v tol C T wr) (fun _ _ i _ => l.length - (intOf i).toNat)
  case atStart =>
    refine ⟨0, 0, .slice none 0 0, ⟨epoch, 1, []⟩, [], rfl, rfl, Nat.zero_le _, ⟨?_, rfl, by decide, by simp only; omega, by simp, by simp, heap_new _ _, RowOf.nil, Owns.nil _ _, (Below.refl _ _).alloc (Nat.le_refl _) _⟩⟩
    rw [rightB_iff]; exact ⟨⟨h0, by simp only; omega, by simp, by simp⟩, rfl⟩
  case round =>
    obtain ⟨k, last, v, C, T, rfl, rfl, hk, hR⟩ := hrel
    by_cases hlt : k < l.length
    · obtain ⟨b, off, rfl, hb, hrow⟩ := HOP.out (by omega)
      obtain ⟨x, hx⟩ := get_lt hlt
      have hxw := HWF.out x (mem_get hx)
      obtain ⟨⟨wf0, wf1⟩, ⟨wf2, wf3⟩, ⟨wf4, wf5⟩, ⟨wf6, wf7⟩⟩ := hxw
      have hbB : b < w1.heap.size := by omega
      obtain ⟨g0, g1, g2, g3⟩ := rowD ((hrow.below (HB1.out) hb).below hR.below hbB) hx
      obtain ⟨va, vc, rfl⟩ := shape_row hR.row
      have C0 := hid hR.box
      have R0 := hid hR.row
      have OT := hid hR.told
      have OT0 := hid hR.told
      have HRT := hid hR.right
      have HEP := hid hR.ep
      have HLAST := hid hR.last
      have hlast0 := hR.last0
      have hClen : C.opens.length ≤ 40 := by have := hR.len; omega
      have hTlen : T.length ≤ 40 := by have := hR.tlen; omega
      have HLEN := hid hR.len
      have HTLEN := hid hR.tlen
      have Z := hid hR.below
      have hOT0size : w1.heap.size < wr.heap.size := blk_lt hR.box
      have hbr : b < wr.heap.size := by have := hR.below.size; omega
      clear hx hrow hR
      have hwn : 0 ≤ x.what % 3 ∧ x.what % 3 < 3 := by omega
      by_cases hw0 : x.what % 3 = 0
      · have t0 : (x.what % 3 == 0) = true := by simpa using hw0
        clear hw0
        obtain ⟨hd, hhd⟩ : ∃ hd, hasB C.opens x.kind x.key = hd := ⟨_, rfl⟩
        have HHD := hid hhd
        clear hhd
        obtain ⟨c00, c01, c02, c0f, c0l⟩ := blk3 C0.out
        go_wp2_with fail
        clear c00 c01 c02 c0f c0l
        refine (nm_has C _ x.kind x.key hd _ (RowOf.below R0.out ((Below.refl _ _).alloc (Nat.le_refl _) _)) hClen HHD.out).mono ?_
        rintro e v11 ⟨he, hb⟩
        subst he
        have hz := hb.size
        simp only [World.size_alloc] at hz
        replace C0 := hid (blk_below (blk_alloc C0.out _) hb (by have := blk_lt C0.out; simp; omega))
        have X0 := hid (blk_below (heap_new wr _) hb (by simp))
        have hq : Below wr.heap.size wr v11 := ((Below.refl _ _).alloc (Nat.le_refl _) _).trans (hb.mono (by simp))
        replace R0 := hid (RowOf.below R0.out hq)
        replace OT := hid (Owns.below OT.out hq)
        replace Z := hid (Z.out.trans (hq.mono Z.out.size))
        clear hb hz hq
        have hz11H : Hid (wr.heap.size < v11.heap.size) := hid (blk_lt X0.out)
        by_cases hoe : openErr C x.kind x.key x.now = 0
        · have HOE := hid hoe
          have hz11 := hz11H.out
          clear hoe
          obtain ⟨c00, c01, c02, c0f, c0l⟩ := blk3 C0.out
          obtain ⟨x00, x01, x02, x03, x0f, x0l⟩ := blk4 X0.out
          go_wp2_with fail
          clear c00 c01 c02 c0f c0l
          clear x00 x01 x02 x03 x0f x0l
          refine (nm_open_ok C _ x.kind x.key x.now _ R0.out hClen HOE.out).mono ?_
          rintro e v12 ⟨da, dc, he, hod, hb⟩
          simp only [calls] at he
          subst he
          have hz := hb.size
          replace C0 := hid (blk_below C0.out hb (blk_lt C0.out))
          replace X0 := hid (blk_below X0.out hb (blk_lt X0.out))
          have hq : Below v11.heap.size v11 v12 := hb
          replace R0 := hid (RowOf.below R0.out hq)
          replace OT := hid (Owns.below OT.out hq)
          have OD := hid hod
          replace Z := hid (Z.out.trans (hq.mono Z.out.size))
          have HV12 : Hid (v11.heap.size ≤ v12.heap.size) := hid hz
          clear hb hz hq hod
          obtain ⟨c00, c01, c02, c0f, c0l⟩ := blk3 C0.out
          obtain ⟨x00, x01, x02, x03, x0f, x0l⟩ := blk4 X0.out
          go_wp2_with fail
          clear c00 c01 c02 c0f c0l
          clear x00 x01 x02 x03 x0f x0l
          refine (nm_find C _ x.kind x.key x.now _ HRT.out (RowOf.below (own12_row OD.out) ((Below.refl _ _).alloc (Nat.le_refl _) _)) hClen).mono ?_
          rintro e v13 ⟨he, hb⟩
          simp only [encS, newX] at he
          subst he
          have hz := hb.size
          simp only [World.size_alloc] at hz
          replace C0 := hid (blk_below (blk_alloc C0.out _) hb (by have := blk_lt C0.out; simp; omega))
          replace X0 := hid (blk_below (blk_alloc X0.out _) hb (by have := blk_lt X0.out; simp; omega))
          have D0 := hid (blk_below (heap_new v12 _) hb (by simp))
          have hq : Below v12.heap.size v12 v13 := ((Below.refl _ _).alloc (Nat.le_refl _) _).trans (hb.mono (by simp))
          replace R0 := hid (RowOf.below R0.out hq)
          replace OT := hid (Owns.below OT.out hq)
          replace OD := hid (Owns.below OD.out hq)
          replace Z := hid (Z.out.trans (hq.mono Z.out.size))
          clear hb hz hq
          have HZ12 : Hid (wr.heap.size < v12.heap.size) := hid (Nat.lt_of_lt_of_le hz11 HV12.out)
          obtain rfl : hd = false := by rw [← HHD.out]; exact (openErr_zero HOE.out).2.2.2.1
          have f1 : decide (C.epoch * 1048576 + C.next ≤ last) = false := by simp; exact HLAST.out
          have hOTb : ∀ g, u10.ownBlock = some g → w1.heap.size + 1 ≤ g ∧ g < wr.heap.size := fun g e => Owns.block OT0.out g e
          have c1 : T.length + 1 ≤ maxLen := by unfold maxLen; omega
          have c2 : (T.length + 1) * 8 ≤ 140737488355328 := by omega
          have c3 : ∀ o o', w1.heap.size + 1 ≤ ((v13.alloc o).alloc o').heap.size := fun o o' => by have := blk_lt C0.out; simp; omega
          have ne1 : some w1.heap.size ≠ u10.ownBlock := fun e => by have := (hOTb _ e.symm).1; omega
          have ne2 : some v12.heap.size ≠ u10.ownBlock := fun e => by have := (hOTb _ e.symm).2; have := HZ12.out; omega
          have HOTB := hid hOTb
          have NE1 := hid ne1
          have NE2 := hid ne2
          have HC3 := hid c3
          clear hOTb ne1 ne2 c3
          obtain ⟨c00, c01, c02, c0f, c0l⟩ := blk3 C0.out
          obtain ⟨x00, x01, x02, x03, x0f, x0l⟩ := blk4 X0.out
          obtain ⟨d00, d01, d02, d0f, d0l⟩ := blk3 D0.out
          go_wp2_with (at_builtin; refine wpList_append_own _ rfl _ _ 43 rfl (w1.heap.size + 1) 3 j0 _ 1 8 Try.underlying43 hj hy0 hy1 hy2 rfl (by decide) _ T.length _ rfl (World.ownsRow.alloc (World.ownsRow.alloc OT.out _) _) ⟨v13.heap.size + 1, 0, none⟩ 1 1 [.int .i64 (C.epoch * 1048576 + C.next)] rfl rfl (new_cell1 v13 _ _ _) (fun u hu => by (simp only [List.mem_singleton] at hu; subst hu; rfl)) c1 c2 (HC3.out _ _) ?_; intro v' v14 hown' hgrow _; obtain ⟨g', cap', rfl⟩ := ownsRow_succ hown'; have HOWN := hid hown'; have HGR := hid hgrow; clear hown' hgrow; have C1 := hid (blk_grown (blk_alloc (blk_alloc C0.out _) _) HGR.out NE1.out); have D1 := hid (blk_grown (blk_alloc (blk_alloc D0.out _) _) HGR.out NE2.out); obtain ⟨y0, y1, y2, yf, yl⟩ := blk3 C1.out; obtain ⟨z0, z1, z2, zf, zl⟩ := blk3 D1.out)
          clear c00 c01 c02 c0f c0l
          clear x00 x01 x02 x03 x0f x0l
          clear d00 d01 d02 d0f d0l
          obtain ⟨C', hC'⟩ : ∃ C' : CallsV, C' = ⟨C.epoch, C.next + 1, C.opens ++ [newX C x.kind x.key x.now]⟩ := ⟨_, rfl⟩
          have hod4 : Own12 v14 v11.heap.size (.slice da (C.opens.length + 1) dc) (C.opens ++ [newX C x.kind x.key x.now]) := by
            refine World.ownsRow.kept (World.ownsRow.alloc (World.ownsRow.alloc OD.out _) _) HGR.out ?_
            cases hob : (Value.slice da (C.opens.length + 1) dc).ownBlock with
            | none => exact .inl rfl
            | some g =>
              refine .inr fun e => ?_
              have q1 := (Owns.block OD.out g hob).1
              have q2 := (HOTB.out g e.symm).2
              omega
          have hB1v : w1.heap.size < v11.heap.size := by have := (hOT0size); omega
          have hoT : Owns 1 3 encI v14 (w1.heap.size + 1) (.slice (some ⟨g', 0, none⟩) (T.length + 1) cap') (T ++ [C.epoch * 1048576 + C.next]) := by
            unfold Owns
            have := HOWN.out
            simpa [List.flatMap_append, encI] using this
          obtain ⟨W5, hW5⟩ : ∃ W5, W5 = ((v14.setCell ⟨w1.heap.size, 0, none⟩ (.int .i64 C.epoch)).setCell ⟨w1.heap.size, 1, none⟩ (.int .i64 (C.next + 1))).setCell ⟨w1.heap.size, 2, none⟩ (.slice da (C.opens.length + 1) dc) := ⟨_, rfl⟩
          have hod5 : Own12 W5 v11.heap.size (.slice da (C.opens.length + 1) dc) C'.opens := by
            rw [hW5, hC']
            exact ((hod4.other (p := ⟨w1.heap.size, 0, none⟩) hB1v _).other (p := ⟨w1.heap.size, 1, none⟩) hB1v _).other (p := ⟨w1.heap.size, 2, none⟩) hB1v _
          have hoT5 : Owns 1 3 encI W5 (w1.heap.size + 1) (.slice (some ⟨g', 0, none⟩) (T.length + 1) cap') (T ++ [C.epoch * 1048576 + C.next]) := by
            rw [hW5]
            exact ((hoT.other (p := ⟨w1.heap.size, 0, none⟩) (by simp) _).other (p := ⟨w1.heap.size, 1, none⟩) (by simp) _).other (p := ⟨w1.heap.size, 2, none⟩) (by simp) _
          have hC5 : W5.heap[w1.heap.size]? = some (.cells #[.int .i64 C'.epoch, .int .i64 C'.next, .slice da (C.opens.length + 1) dc] 24) := by
            rw [hW5, hC']; exact blk_set (blk_set (blk_set C1.out 0 _) 1 _) 2 _
          have hZ5 : Below w1.heap.size w1 W5 := by
            rw [hW5]
            have hzz := Z.out.size
            exact ((((((Z.out.alloc hzz _).alloc (by simp; omega) _).grown HGR.out (by simp; omega) (fun r e => by have := (HOTB.out r e).1; omega)).setCell (p := ⟨w1.heap.size, 0, none⟩) (Nat.le_refl _) _).setCell (p := ⟨w1.heap.size, 1, none⟩) (Nat.le_refl _) _).setCell (p := ⟨w1.heap.size, 2, none⟩) (Nat.le_refl _) _)
          have hR5 : rightB C' = true := by rw [hC']; exact open_right HRT.out HOE.out
          have hl5 : C'.opens.length ≤ k + 1 := by rw [hC']; have := HLEN.out; simp; omega
          have hCe : C'.epoch = C.epoch := by rw [hC']
          have hCn : C'.next = C.next + 1 := by rw [hC']
          have hne : (C'.epoch != epoch) = false := by rw [hCe, HEP.out]; simp
          have hnr := nm_right C' (.slice da (C.opens.length + 1) dc) W5 hR5 (own12_row hod5) (by have := HLEN.out; omega)
          rw [hCn, hCe] at hnr
          rw [hCe] at hne
          have HNR := hid hnr
          have HR5 := hid hR5
          have HL5 := hid hl5
          have HCE := hid hCe
          have HCN := hid hCn
          have HOD5 := hid hod5
          have HOT5 := hid hoT5
          have HC5 := hid hC5
          have HZ5 := hid hZ5
          clear hC' hod4 hoT hod5 hoT5 hC5 hZ5 hR5 hl5 hCe hCn hnr
          rw [hW5] at HNR
          refine HNR.out.mono ?_
          rintro e v16 ⟨he, hb6⟩
          subst he
          rw [← hW5] at hb6
          have C6 := hid (blk_below HC5.out hb6 (blk_lt HC5.out))
          rw [HCE.out] at C6
          clear y0 y1 y2 yf yl z0 z1 z2 zf zl
          obtain ⟨y0, y1, y2, yf, yl⟩ := blk3 C6.out
          have HW5 := hid hW5
          clear hW5
          go_wp2
          go_roundw
          case rel =>
            refine ⟨k + 1, C.epoch * 1048576 + C.next, _, C', T ++ [C.epoch * 1048576 + C.next], by go_num, rfl, by omega, ⟨HR5.out, by rw [HCE.out, HEP.out], ?_, by rw [HCE.out, HCN.out]; omega, HL5.out, ?_, by rw [HCE.out]; exact C6.out, (own12_row HOD5.out).below hb6, HOT5.out.below hb6, HZ5.out.trans (hb6.mono HZ5.out.size)⟩⟩
            · have := HLAST.out; omega
            · have := HTLEN.out; simp; omega
          case measure => simp [intOf]; omega
        · have HOE := hid hoe
          have f0 : (openErr C x.kind x.key x.now != 0) = true := by simpa using hoe
          clear hoe
          obtain ⟨c00, c01, c02, c0f, c0l⟩ := blk3 C0.out
          obtain ⟨x00, x01, x02, x03, x0f, x0l⟩ := blk4 X0.out
          go_wp2_with fail
          clear c00 c01 c02 c0f c0l
          clear x00 x01 x02 x03 x0f x0l
          refine (nm_open_err C _ x.kind x.key x.now _ R0.out hClen HOE.out).mono ?_
          rintro e v12 ⟨da, dc, he, hrr, hb⟩
          simp only [calls] at he
          subst he
          have hz := hb.size
          replace C0 := hid (blk_below C0.out hb (blk_lt C0.out))
          replace X0 := hid (blk_below X0.out hb (blk_lt X0.out))
          have hq : Below v11.heap.size v11 v12 := hb
          replace R0 := hid (RowOf.below R0.out hq)
          replace OT := hid (Owns.below OT.out hq)
          have RD := hid hrr
          replace Z := hid (Z.out.trans (hq.mono Z.out.size))
          clear hb hz hq hrr
          obtain ⟨c00, c01, c02, c0f, c0l⟩ := blk3 C0.out
          obtain ⟨x00, x01, x02, x03, x0f, x0l⟩ := blk4 X0.out
          go_wp2_with fail
          clear c00 c01 c02 c0f c0l
          clear x00 x01 x02 x03 x0f x0l
          refine (nm_same C _ _ _ (RowOf.below R0.out ((Below.refl _ _).alloc (Nat.le_refl _) _)) (RowOf.below RD.out ((Below.refl _ _).alloc (Nat.le_refl _) _)) hClen).mono ?_
          rintro e v13 ⟨he, hb⟩
          subst he
          have hz := hb.size
          simp only [World.size_alloc] at hz
          replace C0 := hid (blk_below (blk_alloc C0.out _) hb (by have := blk_lt C0.out; simp; omega))
          replace X0 := hid (blk_below (blk_alloc X0.out _) hb (by have := blk_lt X0.out; simp; omega))
          have hq : Below v12.heap.size v12 v13 := ((Below.refl _ _).alloc (Nat.le_refl _) _).trans (hb.mono (by simp))
          replace R0 := hid (RowOf.below R0.out hq)
          replace RD := hid (RowOf.below RD.out hq)
          replace OT := hid (Owns.below OT.out hq)
          replace Z := hid (Z.out.trans (hq.mono Z.out.size))
          clear hb hz hq
          obtain ⟨c00, c01, c02, c0f, c0l⟩ := blk3 C0.out
          obtain ⟨x00, x01, x02, x03, x0f, x0l⟩ := blk4 X0.out
          go_wp2
          clear c00 c01 c02 c0f c0l
          clear x00 x01 x02 x03 x0f x0l
          go_roundw
          case rel => exact ⟨k + 1, last, _, C, T, by go_num, rfl, by omega, ⟨HRT.out, HEP.out, hlast0, HLAST.out, by have := HLEN.out; omega, by have := HTLEN.out; omega, C0.out, R0.out, OT.out, Z.out⟩⟩
          case measure => simp [intOf]; omega
      · have t0 : (x.what % 3 == 0) = false := by simpa using hw0
        by_cases hw1 : x.what % 3 = 1
        · have t1 : (x.what % 3 == 1) = true := by simpa using hw1
          clear hw0 hw1
          obtain ⟨ta, tc, rfl⟩ := shape_row (OT.out.row encI_len (by decide))
          by_cases hT0 : 0 < T.length
          · have f3 : decide (0 < T.length) = true := by simpa using hT0
            obtain ⟨j, hj1, hj2⟩ := pick_idx x.key T.length hT0 (by omega)
            have hj3 : (j : Int) < (T.length : Int) := by omega
            obtain ⟨id, hid1⟩ := get_lt hj1
            obtain ⟨ta', tc', het, _, _, _, hot⟩ := (OT.out.row encI_len (by decide)).open
            cases het
            obtain ⟨tb, to, rfl, htb, htr⟩ := hot hT0
            have htc : wr.cell? ⟨tb, to + j, none⟩ = some (.int .i64 id) := by simpa using htr j id hid1 0 _ rfl
            clear hot htr hid1
            obtain ⟨c00, c01, c02, c0f, c0l⟩ := blk3 C0.out
            go_wp2_with fail
            clear c00 c01 c02 c0f c0l
            refine (nm_close C _ id _ (RowOf.below R0.out ((Below.refl _ _).alloc (Nat.le_refl _) _)) hClen).mono ?_
            rintro e v11 ⟨la, ln, lc, he, hod, hb⟩
            simp only [calls] at he
            subst he
            have hz := hb.size
            simp only [World.size_alloc] at hz
            replace C0 := hid (blk_below (blk_alloc C0.out _) hb (by have := blk_lt C0.out; simp; omega))
            have hq : Below wr.heap.size wr v11 := ((Below.refl _ _).alloc (Nat.le_refl _) _).trans (hb.mono (by simp))
            replace R0 := hid (RowOf.below R0.out hq)
            replace OT := hid (Owns.below OT.out hq)
            have OD := hid hod
            replace Z := hid (Z.out.trans (hq.mono Z.out.size))
            clear hb hz hq hod
            obtain ⟨c00, c01, c02, c0f, c0l⟩ := blk3 C0.out
            go_wp2_with fail
            clear c00 c01 c02 c0f c0l
            obtain ⟨L', hL'⟩ : ∃ L', L' = keptL C (fun x => x.id != id) := ⟨_, rfl⟩
            obtain ⟨W5, hW5⟩ : ∃ W5, W5 = ((v11.setCell ⟨w1.heap.size, 0, none⟩ (.int .i64 C.epoch)).setCell ⟨w1.heap.size, 1, none⟩ (.int .i64 C.next)).setCell ⟨w1.heap.size, 2, none⟩ (.slice la ln lc) := ⟨_, rfl⟩
            have hod5 : Own12 W5 wr.heap.size (.slice la ln lc) (keptL C (fun x => x.id != id)) := by
              rw [hW5]
              exact (((Owns.mono OD.out (by simp)).other (p := ⟨w1.heap.size, 0, none⟩) hOT0size _).other (p := ⟨w1.heap.size, 1, none⟩) hOT0size _).other (p := ⟨w1.heap.size, 2, none⟩) hOT0size _
            have hot5 : Owns 1 3 encI W5 (w1.heap.size + 1) (.slice (some ⟨tb, to, none⟩) T.length tc) T := by
              rw [hW5]
              exact ((OT.out.other (p := ⟨w1.heap.size, 0, none⟩) (by simp) _).other (p := ⟨w1.heap.size, 1, none⟩) (by simp) _).other (p := ⟨w1.heap.size, 2, none⟩) (by simp) _
            have hc5 : W5.heap[w1.heap.size]? = some (.cells #[.int .i64 C.epoch, .int .i64 C.next, (.slice la ln lc)] 24) := by
              rw [hW5]; exact blk_set (blk_set (blk_set C0.out 0 _) 1 _) 2 _
            have hz5 : Below w1.heap.size w1 W5 := by
              rw [hW5]
              exact ((Z.out.setCell (p := ⟨w1.heap.size, 0, none⟩) (Nat.le_refl _) _).setCell (p := ⟨w1.heap.size, 1, none⟩) (Nat.le_refl _) _).setCell (p := ⟨w1.heap.size, 2, none⟩) (Nat.le_refl _) _
            rw [← hW5]
            clear C0 OT Z OD R0
            have C0 := hid hc5
            have OT := hid hot5
            have Z := hid hz5
            have OD1 := hid (own12_row hod5)
            have HR5 : Hid (rightB ⟨C.epoch, C.next, L'⟩ = true) := hid (by rw [hL']; exact kept_right _ HRT.out)
            have HL5 : Hid (L'.length ≤ C.opens.length) := hid (by rw [hL']; exact kept_len C _)
            have hne : (C.epoch != epoch) = false := by rw [HEP.out]; simp
            have HNE := hid hne
            have hnrx : ∀ (W : World), Row12 W (.slice la ln lc) (keptL C (fun x => x.id != id)) → Calls Try.prog 15 #[calls C.epoch C.next (.slice la ln lc)] W fun e w' => e = .returned (.bool true) ∧ Below W.heap.size W w' :=
              fun W hr => nm_right ⟨C.epoch, C.next, L'⟩ (.slice la ln lc) W HR5.out (by rw [hL']; exact hr) (by have := HL5.out; show L'.length ≤ 41; omega)
            have HNRX := hid hnrx
            have HLL := hid hL'
            clear hod5 hot5 hc5 hz5 hW5 hne hnrx hL'
            refine (nm_find0 C _ id _ HRT.out OD1.out hClen).mono ?_
            rintro e v12 ⟨he, hb⟩
            simp only [encS] at he
            subst he
            have hz := hb.size
            replace C0 := hid (blk_below C0.out hb (blk_lt C0.out))
            have hq : Below W5.heap.size W5 v12 := hb
            replace OD1 := hid (RowOf.below OD1.out hq)
            replace OT := hid (Owns.below OT.out hq)
            replace Z := hid (Z.out.trans (hq.mono Z.out.size))
            clear hb hz hq
            obtain ⟨c00, c01, c02, c0f, c0l⟩ := blk3 C0.out
            go_wp2_with fail
            clear c00 c01 c02 c0f c0l
            refine (HNRX.out _ (RowOf.below OD1.out ((Below.refl _ _).alloc (Nat.le_refl _) _))).mono ?_
            rintro e v13 ⟨he, hb⟩
            subst he
            have hz := hb.size
            simp only [World.size_alloc] at hz
            replace C0 := hid (blk_below (blk_alloc C0.out _) hb (by have := blk_lt C0.out; simp; omega))
            have hq : Below v12.heap.size v12 v13 := ((Below.refl _ _).alloc (Nat.le_refl _) _).trans (hb.mono (by simp))
            replace OD1 := hid (RowOf.below OD1.out hq)
            replace OT := hid (Owns.below OT.out hq)
            replace Z := hid (Z.out.trans (hq.mono Z.out.size))
            clear hb hz hq
            have hne := HNE.out
            obtain ⟨c00, c01, c02, c0f, c0l⟩ := blk3 C0.out
            go_wp2
            clear c00 c01 c02 c0f c0l
            go_roundw
            case rel =>
              have hz := HLEN.out
              refine ⟨k + 1, last, _, ⟨C.epoch, C.next, L'⟩, T, by go_num, rfl, by omega, ⟨HR5.out, HEP.out, hlast0, HLAST.out, ?_, by have := HTLEN.out; omega, C0.out, (by rw [HLL.out]; exact OD1.out), OT.out, Z.out⟩⟩
              have := HL5.out
              show L'.length ≤ k + 1
              omega
            case measure => simp [intOf]; omega
          · have f3 : decide (0 < T.length) = false := by simpa using hT0
            have hne : (C.epoch != epoch) = false := by rw [HEP.out]; simp
            have HNE := hid hne
            clear hne
            obtain ⟨c00, c01, c02, c0f, c0l⟩ := blk3 C0.out
            go_wp2_with fail
            clear c00 c01 c02 c0f c0l
            refine (nm_right C _ _ HRT.out (RowOf.below R0.out ((Below.refl _ _).alloc (Nat.le_refl _) _)) (by omega)).mono ?_
            rintro e v11 ⟨he, hb⟩
            subst he
            have hz := hb.size
            simp only [World.size_alloc] at hz
            replace C0 := hid (blk_below (blk_alloc C0.out _) hb (by have := blk_lt C0.out; simp; omega))
            have hq : Below wr.heap.size wr v11 := ((Below.refl _ _).alloc (Nat.le_refl _) _).trans (hb.mono (by simp))
            replace R0 := hid (RowOf.below R0.out hq)
            replace OT := hid (Owns.below OT.out hq)
            replace Z := hid (Z.out.trans (hq.mono Z.out.size))
            clear hb hz hq
            have hne := HNE.out
            obtain ⟨c00, c01, c02, c0f, c0l⟩ := blk3 C0.out
            go_wp2
            clear c00 c01 c02 c0f c0l
            go_roundw
            case rel => exact ⟨k + 1, last, _, C, T, by go_num, rfl, by omega, ⟨HRT.out, HEP.out, hlast0, HLAST.out, by have := HLEN.out; omega, by have := HTLEN.out; omega, C0.out, R0.out, OT.out, Z.out⟩⟩
            case measure => simp [intOf]; omega
        · have t1 : (x.what % 3 == 1) = false := by simpa using hw1
          have t2 : (x.what % 3 == 2) = true := by rw [beq_iff_eq]; omega
          clear hw0 hw1
          obtain ⟨c00, c01, c02, c0f, c0l⟩ := blk3 C0.out
          go_wp2_with fail
          clear c00 c01 c02 c0f c0l
          refine (nm_late C _ x.now x.key _ (RowOf.below R0.out ((Below.refl _ _).alloc (Nat.le_refl _) _)) hClen).mono ?_
          rintro e v11 ⟨la, ln, lc, he, hod, hb⟩
          simp only [calls] at he
          subst he
          have hz := hb.size
          simp only [World.size_alloc] at hz
          replace C0 := hid (blk_below (blk_alloc C0.out _) hb (by have := blk_lt C0.out; simp; omega))
          have hq : Below wr.heap.size wr v11 := ((Below.refl _ _).alloc (Nat.le_refl _) _).trans (hb.mono (by simp))
          replace R0 := hid (RowOf.below R0.out hq)
          replace OT := hid (Owns.below OT.out hq)
          have OD := hid hod
          replace Z := hid (Z.out.trans (hq.mono Z.out.size))
          clear hb hz hq hod
          obtain ⟨c00, c01, c02, c0f, c0l⟩ := blk3 C0.out
          go_wp2_with fail
          clear c00 c01 c02 c0f c0l
          obtain ⟨L', hL'⟩ : ∃ L', L' = lateL C x.now x.key := ⟨_, rfl⟩
          obtain ⟨W5, hW5⟩ : ∃ W5, W5 = ((v11.setCell ⟨w1.heap.size, 0, none⟩ (.int .i64 C.epoch)).setCell ⟨w1.heap.size, 1, none⟩ (.int .i64 C.next)).setCell ⟨w1.heap.size, 2, none⟩ (.slice la ln lc) := ⟨_, rfl⟩
          have hod5 : Own12 W5 wr.heap.size (.slice la ln lc) (lateL C x.now x.key) := by
            rw [hW5]
            exact (((Owns.mono OD.out (by simp)).other (p := ⟨w1.heap.size, 0, none⟩) hOT0size _).other (p := ⟨w1.heap.size, 1, none⟩) hOT0size _).other (p := ⟨w1.heap.size, 2, none⟩) hOT0size _
          have hot5 : Owns 1 3 encI W5 (w1.heap.size + 1) u10 T := by
            rw [hW5]
            exact ((OT.out.other (p := ⟨w1.heap.size, 0, none⟩) (by simp) _).other (p := ⟨w1.heap.size, 1, none⟩) (by simp) _).other (p := ⟨w1.heap.size, 2, none⟩) (by simp) _
          have hc5 : W5.heap[w1.heap.size]? = some (.cells #[.int .i64 C.epoch, .int .i64 C.next, (.slice la ln lc)] 24) := by
            rw [hW5]; exact blk_set (blk_set (blk_set C0.out 0 _) 1 _) 2 _
          have hz5 : Below w1.heap.size w1 W5 := by
            rw [hW5]
            exact ((Z.out.setCell (p := ⟨w1.heap.size, 0, none⟩) (Nat.le_refl _) _).setCell (p := ⟨w1.heap.size, 1, none⟩) (Nat.le_refl _) _).setCell (p := ⟨w1.heap.size, 2, none⟩) (Nat.le_refl _) _
          rw [← hW5]
          clear C0 OT Z OD R0
          have C0 := hid hc5
          have OT := hid hot5
          have Z := hid hz5
          have OD1 := hid (own12_row hod5)
          have HR5 : Hid (rightB ⟨C.epoch, C.next, L'⟩ = true) := hid (by rw [hL']; exact late_right _ _ HRT.out)
          have HL5 : Hid (L'.length ≤ C.opens.length) := hid (by rw [hL']; exact late_len C _ _)
          have hne : (C.epoch != epoch) = false := by rw [HEP.out]; simp
          have HNE := hid hne
          have hnrx : ∀ (W : World), Row12 W (.slice la ln lc) (lateL C x.now x.key) → Calls Try.prog 15 #[calls C.epoch C.next (.slice la ln lc)] W fun e w' => e = .returned (.bool true) ∧ Below W.heap.size W w' :=
            fun W hr => nm_right ⟨C.epoch, C.next, L'⟩ (.slice la ln lc) W HR5.out (by rw [hL']; exact hr) (by have := HL5.out; show L'.length ≤ 41; omega)
          have HNRX := hid hnrx
          have HLL := hid hL'
          clear hod5 hot5 hc5 hz5 hW5 hne hnrx hL'
          refine (HNRX.out _ OD1.out).mono ?_
          rintro e v12 ⟨he, hb⟩
          subst he
          have hz := hb.size
          replace C0 := hid (blk_below C0.out hb (blk_lt C0.out))
          have hq : Below W5.heap.size W5 v12 := hb
          replace OD1 := hid (RowOf.below OD1.out hq)
          replace OT := hid (Owns.below OT.out hq)
          replace Z := hid (Z.out.trans (hq.mono Z.out.size))
          clear hb hz hq
          have hne := HNE.out
          obtain ⟨c00, c01, c02, c0f, c0l⟩ := blk3 C0.out
          go_wp2
          clear c00 c01 c02 c0f c0l
          go_roundw
          case rel =>
            have hz := HLEN.out
            refine ⟨k + 1, last, _, ⟨C.epoch, C.next, L'⟩, T, by go_num, rfl, by omega, ⟨HR5.out, HEP.out, hlast0, HLAST.out, ?_, by have := HTLEN.out; omega, C0.out, (by rw [HLL.out]; exact OD1.out), OT.out, Z.out⟩⟩
            have := HL5.out
            show L'.length ≤ k + 1
            omega
          case measure => simp [intOf]; omega
    · obtain rfl : k = l.length := by omega
      have HEP := hid hR.ep
      have HLAST := hid hR.last
      have Z := hid hR.below
      have HR0 := hid hR
      clear hR
      have f1 : decide (last < (epoch + more) * 1048576 + 1) = true := by
        have := HLAST.out
        have h2 := (rightB_in HR0.out.right).2.2.2
        rw [HEP.out] at this
        simp
        omega
      go_wp2_with fail
      refine (full_begin1 (epoch + more) _ (by omega) (by omega)).mono ?_
      rintro e v31 ⟨he, hb⟩
      simp only [calls] at he
      subst he
      have hz := hb.size
      have hq : Below wr.heap.size wr v31 := hb
      replace Z := hid (Z.out.trans (hq.mono Z.out.size))
      clear hb hz hq
      go_wp2_with fail
      refine (num_last (epoch + more) _ (by omega) (by omega)).mono ?_
      rintro e v32 ⟨a, c, he, hb⟩
      simp only [calls] at he
      subst he
      have hz := hb.size
      simp only [World.size_alloc] at hz
      have hq : Below v31.heap.size v31 v32 := ((Below.refl _ _).alloc (Nat.le_refl _) _).trans (hb.mono (by simp))
      replace Z := hid (Z.out.trans (hq.mono Z.out.size))
      clear hb hz hq
      go_wp2_with fail
      refine (wakes_any _).mono ?_
      rintro e v33 ⟨he, hb⟩
      subst he
      have hz := hb.size
      simp only [World.size_alloc] at hz
      have hq : Below v32.heap.size v32 v33 := ((Below.refl _ _).alloc (Nat.le_refl _) _).trans (hb.mono (by simp))
      replace Z := hid (Z.out.trans (hq.mono Z.out.size))
      clear hb hz hq
      go_wp2
      go_ret
      exact ⟨rfl, HB1.out.trans (Z.out.mono HB1.out.size)⟩

set_option maxHeartbeats 1000000 in
set_option maxRecDepth 100000 in
theorem num_bad (epoch more : Int) (a : Option Addr) (n c : Nat) (w : World) (hn : n ≤ 9223372036854775807) (h : ¬ (0 ≤ epoch ∧ 1 ≤ more ∧ epoch ≤ 262144 ∧ more ≤ 262144 ∧ n ≤ 40)) :
    Calls Try.prog 5 #[.int .i64 epoch, .int .i64 more, .slice a n c] w fun e w' => e = .returned (.bool true) ∧ Below w.heap.size w w' := by
  have HW := hid (wakes_any w)
  by_cases h1 : 0 ≤ epoch
  · have d1 : decide (epoch < 0) = false := by simpa using h1
    by_cases h2 : 1 ≤ more
    · have d2 : decide (more < 1) = false := by simp; omega
      by_cases h3 : epoch ≤ 262144
      · have d3 : decide (262144 < epoch) = false := by simpa using h3
        by_cases h4 : more ≤ 262144
        · have d4 : decide (262144 < more) = false := by simpa using h4
          have d5 : decide ((40 : Int) < (n : Int)) = true := by simp; omega
          go_enter Try.func5, Try.ntmps5
          go_wp2_with fail
          refine HW.out.mono ?_
          rintro e w1 ⟨rfl, hb⟩
          go_wp2
          go_ret
          exact ⟨rfl, hb⟩
        · have d4 : decide (262144 < more) = true := by simp; omega
          go_enter Try.func5, Try.ntmps5
          go_wp2_with fail
          refine HW.out.mono ?_
          rintro e w1 ⟨rfl, hb⟩
          go_wp2
          go_ret
          exact ⟨rfl, hb⟩
      · have d3 : decide (262144 < epoch) = true := by simp; omega
        go_enter Try.func5, Try.ntmps5
        go_wp2_with fail
        refine HW.out.mono ?_
        rintro e w1 ⟨rfl, hb⟩
        go_wp2
        go_ret
        exact ⟨rfl, hb⟩
    · have d2 : decide (more < 1) = true := by simp; omega
      go_enter Try.func5, Try.ntmps5
      go_wp2_with fail
      refine HW.out.mono ?_
      rintro e w1 ⟨rfl, hb⟩
      go_wp2
      go_ret
      exact ⟨rfl, hb⟩
  · have d1 : decide (epoch < 0) = true := by simp; omega
    go_enter Try.func5, Try.ntmps5
    go_wp2_with fail
    refine HW.out.mono ?_
    rintro e w1 ⟨rfl, hb⟩
    go_wp2
    go_ret
    exact ⟨rfl, hb⟩
end Go.Proofs.Ytmphehlpakoheaa
