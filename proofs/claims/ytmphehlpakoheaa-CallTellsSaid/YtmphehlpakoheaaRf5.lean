/- The reference Late. -/
import Derived.Test.YtmphehlpakoheaaRf4
namespace Go.Proofs.Ytmphehlpakoheaa
open Go.RowKit Go.Shelf

set_option maxHeartbeats 4000000 in
set_option maxRecDepth 100000 in
theorem rlate_any (ep nx now tm : Int) (s : Value) (L : List CallV) (w : World) (hn : L.length ≤ 1000) (hwf : ∀ x ∈ L, x.wf) (hs : Row12 w s L) :
    Calls Try.prog 24 #[calls ep nx s, .int .i64 now, .int .i64 tm] w fun e w' => ∃ v, e = .returned (calls ep nx v) ∧ Row12 w' v (lateL ⟨ep, nx, L⟩ now tm) ∧ Below w.heap.size w w' := by
  obtain ⟨i0, hi, hz0, hz1, hz2⟩ := info_parts infoC
  obtain ⟨sa, sc, rfl⟩ := shape_row hs
  obtain ⟨rb, hrb⟩ : ∃ rb, rightB ⟨ep, nx, L⟩ = rb := ⟨_, rfl⟩
  have HRB := hid hrb
  have HWF := hid hwf
  have Z0 : Below w.heap.size w ((w.alloc (.cells #[.int .i64 ep, .int .i64 nx, .slice sa L.length sc] 24)).alloc (.cells #[.int .i64 0, .int .i64 0, .slice none 0 0] 24)) := ((Below.refl _ _).alloc (Nat.le_refl _) _).alloc (by simp) _
  have Z := hid Z0
  have HS := hid (RowOf.below hs Z0)
  have B0 := hid (blk_alloc (heap_new w (.cells #[.int .i64 ep, .int .i64 nx, .slice sa L.length sc] 24)) (.cells #[.int .i64 0, .int .i64 0, .slice none 0 0] 24))
  have R0 := hid (heap_new2 w (.cells #[.int .i64 ep, .int .i64 nx, .slice sa L.length sc] 24) (.cells #[.int .i64 0, .int .i64 0, .slice none 0 0] 24))
  clear hrb hwf hs Z0
  unfold calls
  go_enter Try.func24, Try.ntmps24
  obtain ⟨b00, b01, b02, b0f, b0l⟩ := blk3 B0.out
  obtain ⟨r00, r01, r02, r0f, r0l⟩ := blk3 R0.out
  go_wp2_with fail
  clear b00 b01 b02 b0f b0l
  clear r00 r01 r02 r0f r0l
  refine (rown_at ep nx _ L _ (by omega) HS.out).mono ?_
  rintro e v1 ⟨va, vc, he, hown, hb⟩
  simp only [calls] at he
  subst he
  have hz := hb.size
  replace B0 := hid (blk_below B0.out hb (blk_lt B0.out))
  replace R0 := hid (blk_below R0.out hb (blk_lt R0.out))
  have hq : Below ((w.alloc (.cells #[.int .i64 ep, .int .i64 nx, .slice sa L.length sc] 24)).alloc (.cells #[.int .i64 0, .int .i64 0, .slice none 0 0] 24)).heap.size ((w.alloc (.cells #[.int .i64 ep, .int .i64 nx, .slice sa L.length sc] 24)).alloc (.cells #[.int .i64 0, .int .i64 0, .slice none 0 0] 24)) v1 := hb
  have OV := hid hown
  replace Z := hid (Z.out.trans (hq.mono Z.out.size))
  clear hb hz hq hown
  obtain ⟨b00, b01, b02, b0f, b0l⟩ := blk3 B0.out
  obtain ⟨r00, r01, r02, r0f, r0l⟩ := blk3 R0.out
  go_wp2_with fail
  clear b00 b01 b02 b0f b0l
  clear r00 r01 r02 r0f r0l
  obtain ⟨W5, hW5⟩ : ∃ W5, W5 = (((v1.setCell ⟨w.heap.size, 0, none⟩ (.int .i64 ep)).setCell ⟨w.heap.size, 1, none⟩ (.int .i64 nx)).setCell ⟨w.heap.size, 2, none⟩ (.slice va L.length vc)) := ⟨_, rfl⟩
  have hb5 : W5.heap[w.heap.size]? = some (.cells #[.int .i64 ep, .int .i64 nx, .slice va L.length vc] 24) := by rw [hW5]; exact blk_set (blk_set (blk_set B0.out 0 _) 1 _) 2 _
  have hr5 : W5.heap[w.heap.size + 1]? = some (.cells #[.int .i64 0, .int .i64 0, .slice none 0 0] 24) := by rw [hW5]; exact blk_other (blk_other (blk_other R0.out (by simp) _) (by simp) _) (by simp) _
  have hz5 : Below w.heap.size w W5 := by
    rw [hW5]
    exact ((Z.out.setCell (p := ⟨w.heap.size, 0, none⟩) (Nat.le_refl _) _).setCell (p := ⟨w.heap.size, 1, none⟩) (Nat.le_refl _) _).setCell (p := ⟨w.heap.size, 2, none⟩) (Nat.le_refl _) _
  have ho5 : Own12 W5 (w.heap.size + 2) (.slice va L.length vc) L := by
    rw [hW5]
    exact (((Owns.mono OV.out (by simp)).other (p := ⟨w.heap.size, 0, none⟩) (by simp) _).other (p := ⟨w.heap.size, 1, none⟩) (by simp) _).other (p := ⟨w.heap.size, 2, none⟩) (by simp) _
  rw [← hW5]
  clear B0 R0 Z OV hW5
  have B0 := hid hb5
  have R0 := hid hr5
  have Z := hid hz5
  have OV := hid ho5
  clear hb5 hr5 hz5 ho5
  refine (rright_at ep nx _ L rb _ (by omega) HWF.out (own12_row OV.out) HRB.out).mono ?_
  rintro e v2 ⟨he, hb⟩
  subst he
  have hz := hb.size
  replace B0 := hid (blk_below B0.out hb (blk_lt B0.out))
  replace R0 := hid (blk_below R0.out hb (blk_lt R0.out))
  have hq : Below W5.heap.size W5 v2 := hb
  replace OV := hid (Owns.below OV.out hq)
  replace Z := hid (Z.out.trans (hq.mono Z.out.size))
  clear hb hz hq
  cases rb with
  | false =>
    have HK : Hid (lateL ⟨ep, nx, L⟩ now tm = L) := hid (by unfold lateL keptL; rw [HRB.out]; simp)
    obtain ⟨b00, b01, b02, b0f, b0l⟩ := blk3 B0.out
    obtain ⟨r00, r01, r02, r0f, r0l⟩ := blk3 R0.out
    go_wp2
    clear b00 b01 b02 b0f b0l
    clear r00 r01 r02 r0f r0l
    refine bodyPost_ret (res_calls rfl rfl (blk_set (blk_set (blk_set R0.out 0 _) 1 _) 2 _)) rfl ⟨_, rfl, ?_, ?_⟩
    · rw [HK.out]
      exact own12_row (((Owns.other OV.out (p := ⟨w.heap.size + 1, 0, none⟩) (by simp) _).other (p := ⟨w.heap.size + 1, 1, none⟩) (by simp) _).other (p := ⟨w.heap.size + 1, 2, none⟩) (by simp) _)
    · exact ((Z.out.setCell (p := ⟨w.heap.size + 1, 0, none⟩) (by simp) _).setCell (p := ⟨w.heap.size + 1, 1, none⟩) (by simp) _).setCell (p := ⟨w.heap.size + 1, 2, none⟩) (by simp) _
  
  | true =>
    by_cases hn1 : numB now = true
    · have HN1 := hid hn1
      clear hn1
      by_cases hn2 : numB tm = true
      · have HN2 := hid hn2
        clear hn2
        have HK : Hid (lateL ⟨ep, nx, L⟩ now tm = L.filter (fun x => decide (now < wrap64 (x.sent + tm)))) := hid (by unfold lateL keptL; rw [HRB.out, HN1.out, HN2.out]; simp)
        obtain ⟨b00, b01, b02, b0f, b0l⟩ := blk3 B0.out
        obtain ⟨r00, r01, r02, r0f, r0l⟩ := blk3 R0.out
        go_wp2_with fail
        refine (rnum_at now true HN1.out _).mono ?_
        rintro e v3 ⟨he, rfl⟩
        subst he
        go_wp2_with fail
        refine (rnum_at tm true HN2.out _).mono ?_
        rintro e v3 ⟨he, rfl⟩
        subst he
        go_wp2
        clear b00 b01 b02 b0f b0l
        clear r00 r01 r02 r0f r0l
  
        have HL0 := hid (show Hid (Below v2.heap.size v2 v2) from hid (Below.refl _ _))
        go_loopw [7, 8] (fun lv i wr => ∃ k : Nat, i = .int .i64 k ∧ k ≤ L.length ∧ Own12 wr v2.heap.size lv ((L.take k).filter (fun x => decide (now < wrap64 (x.sent + tm)))) ∧ Below v2.heap.size v2 wr) (fun _ i _ => L.length - (intOf i).toNat)
        case atStart => exact ⟨0, rfl, Nat.zero_le _, Owns.nil _ _, Below.refl _ _⟩
        case round =>
          obtain ⟨k, rfl, hk, hlv, hB⟩ := hrel
          obtain ⟨va', vc', hde, hl1, hl2, hl3, hop⟩ := (own12_row OV.out).open
          cases hde
          have HOP := hid hop
          have HLV := hid hlv
          have HB := hid hB
          clear hlv hB hop
          have B1 := hid (blk_below B0.out HB.out (blk_lt B0.out))
          have R1 := hid (blk_below R0.out HB.out (blk_lt R0.out))
          have Z1 := hid (Z.out.trans (HB.out.mono Z.out.size))
          obtain ⟨b00, b01, b02, b0f, b0l⟩ := blk3 B1.out
          obtain ⟨r00, r01, r02, r0f, r0l⟩ := blk3 R1.out
          have hk64 : (k : Int) + 1 ≤ 1001 := by omega
          by_cases hlt : k < L.length
          · obtain ⟨x, hx⟩ := get_lt hlt
            obtain ⟨b, off, rfl, hb, hrow⟩ := HOP.out (by omega)
            obtain ⟨g0, g1, g2, g3⟩ := row4 (hrow.below HB.out hb) hx
            have HX := hid hx
            have HSN := hid (take_snoc L k x hx)
            have hbz : b < wr.heap.size := by have := HB.out.size; omega
            clear hx hrow
            by_cases hp : (fun x => decide (now < wrap64 (x.sent + tm))) x = true
            · have t1 : decide (now < wrap64 (x.sent + tm)) = true := hp
              have hlen : ((L.take k).filter (fun x => decide (now < wrap64 (x.sent + tm)))).length ≤ k := by have := List.length_filter_le (fun x => decide (now < wrap64 (x.sent + tm))) (L.take k); have := List.length_take_le k L; omega
              have c1 : ((L.take k).filter (fun x => decide (now < wrap64 (x.sent + tm)))).length + 1 ≤ maxLen := by unfold maxLen; omega
              have c2 : (((L.take k).filter (fun x => decide (now < wrap64 (x.sent + tm)))).length + 1) * 32 ≤ 140737488355328 := by omega
              have c3 : v2.heap.size ≤ (wr.alloc (.cells #[.int .i64 x.id, .int .u8 x.kind, .int .i64 x.key, .int .i64 x.sent] 28)).heap.size := by have := HB.out.size; simp; omega
              have HF : Hid ((L.take (k + 1)).filter (fun x => decide (now < wrap64 (x.sent + tm))) = (L.take k).filter (fun x => decide (now < wrap64 (x.sent + tm))) ++ [x]) := hid (by rw [HSN.out, List.filter_append]; simp [hp])
              clear hp hlen
              go_wp2_with (at_builtin; refine append_one rfl _ _ 22 rfl v2.heap.size 28 i0 _ 32 Try.underlying22 hi hz0 hz1 hz2 rfl (by decide) encC_len encC_one _ _ rfl (World.ownsRow.alloc HLV.out _) ⟨wr.heap.size, 0, none⟩ x rfl (new_cells wr x _) c1 c2 c3 ?_; intro lv' w1 hown hbw hgrow; have HOW := hid hown; have HBW := hid hbw; clear hown hbw hgrow)
              go_roundw
              case rel => exact ⟨k + 1, by go_num, by omega, by rw [HF.out]; exact HOW.out, (HB.out.alloc HB.out.size _).trans HBW.out⟩
              case measure => simp [intOf]; omega
            · have t1 : decide (now < wrap64 (x.sent + tm)) = false := by simpa using hp
              have HF : Hid ((L.take (k + 1)).filter (fun x => decide (now < wrap64 (x.sent + tm))) = (L.take k).filter (fun x => decide (now < wrap64 (x.sent + tm)))) := hid (by rw [HSN.out, List.filter_append]; simp [hp])
              clear hp
              go_wp2
              go_roundw
              case rel => exact ⟨k + 1, by go_num, by omega, by rw [HF.out]; exact HLV.out, HB.out⟩
              case measure => simp [intOf]; omega
          · obtain rfl : k = L.length := by omega
            have HF : Hid ((L.take L.length).filter (fun x => decide (now < wrap64 (x.sent + tm))) = L.filter (fun x => decide (now < wrap64 (x.sent + tm)))) := hid (by rw [List.take_length])
            obtain ⟨la, ln, lc, rfl⟩ := HLV.out.shape
            go_wp2
            refine bodyPost_ret (res_calls rfl rfl (blk_set (blk_set (blk_set (blk_other R1.out (by simp) _) 0 _) 1 _) 2 _)) rfl ⟨_, rfl, ?_, ?_⟩
            · rw [HK.out, ← HF.out]
              exact own12_row ((((Owns.mono HLV.out (show w.heap.size + 2 ≤ v2.heap.size by have := blk_lt R0.out; omega)).other (p := ⟨w.heap.size, 2, none⟩) (by simp) _).other (p := ⟨w.heap.size + 1, 0, none⟩) (by simp) _).other (p := ⟨w.heap.size + 1, 1, none⟩) (by simp) _ |>.other (p := ⟨w.heap.size + 1, 2, none⟩) (by simp) _)
            · exact (((Z1.out.setCell (p := ⟨w.heap.size, 2, none⟩) (by simp) _).setCell (p := ⟨w.heap.size + 1, 0, none⟩) (by simp) _).setCell (p := ⟨w.heap.size + 1, 1, none⟩) (by simp) _).setCell (p := ⟨w.heap.size + 1, 2, none⟩) (by simp) _
  
      · have hn3 : numB tm = false := by simpa using hn2
        have HN2 := hid hn3
        clear hn2 hn3
        have HK : Hid (lateL ⟨ep, nx, L⟩ now tm = L) := hid (by unfold lateL keptL; rw [HRB.out, HN1.out, HN2.out]; simp)
        obtain ⟨b00, b01, b02, b0f, b0l⟩ := blk3 B0.out
        obtain ⟨r00, r01, r02, r0f, r0l⟩ := blk3 R0.out
        go_wp2_with fail
        refine (rnum_at now true HN1.out _).mono ?_
        rintro e v3 ⟨he, rfl⟩
        subst he
        go_wp2_with fail
        refine (rnum_at tm false HN2.out _).mono ?_
        rintro e v3 ⟨he, rfl⟩
        subst he
        go_wp2
        clear b00 b01 b02 b0f b0l
        clear r00 r01 r02 r0f r0l
        refine bodyPost_ret (res_calls rfl rfl (blk_set (blk_set (blk_set R0.out 0 _) 1 _) 2 _)) rfl ⟨_, rfl, ?_, ?_⟩
        · rw [HK.out]
          exact own12_row (((Owns.other OV.out (p := ⟨w.heap.size + 1, 0, none⟩) (by simp) _).other (p := ⟨w.heap.size + 1, 1, none⟩) (by simp) _).other (p := ⟨w.heap.size + 1, 2, none⟩) (by simp) _)
        · exact ((Z.out.setCell (p := ⟨w.heap.size + 1, 0, none⟩) (by simp) _).setCell (p := ⟨w.heap.size + 1, 1, none⟩) (by simp) _).setCell (p := ⟨w.heap.size + 1, 2, none⟩) (by simp) _
  
    · have hn3 : numB now = false := by simpa using hn1
      have HN1 := hid hn3
      clear hn1 hn3
      have HK : Hid (lateL ⟨ep, nx, L⟩ now tm = L) := hid (by unfold lateL keptL; rw [HRB.out, HN1.out]; simp)
      obtain ⟨b00, b01, b02, b0f, b0l⟩ := blk3 B0.out
      obtain ⟨r00, r01, r02, r0f, r0l⟩ := blk3 R0.out
      go_wp2_with fail
      refine (rnum_at now false HN1.out _).mono ?_
      rintro e v3 ⟨he, rfl⟩
      subst he
      go_wp2
      clear b00 b01 b02 b0f b0l
      clear r00 r01 r02 r0f r0l
      refine bodyPost_ret (res_calls rfl rfl (blk_set (blk_set (blk_set R0.out 0 _) 1 _) 2 _)) rfl ⟨_, rfl, ?_, ?_⟩
      · rw [HK.out]
        exact own12_row (((Owns.other OV.out (p := ⟨w.heap.size + 1, 0, none⟩) (by simp) _).other (p := ⟨w.heap.size + 1, 1, none⟩) (by simp) _).other (p := ⟨w.heap.size + 1, 2, none⟩) (by simp) _)
      · exact ((Z.out.setCell (p := ⟨w.heap.size + 1, 0, none⟩) (by simp) _).setCell (p := ⟨w.heap.size + 1, 1, none⟩) (by simp) _).setCell (p := ⟨w.heap.size + 1, 2, none⟩) (by simp) _
end Go.Proofs.Ytmphehlpakoheaa
