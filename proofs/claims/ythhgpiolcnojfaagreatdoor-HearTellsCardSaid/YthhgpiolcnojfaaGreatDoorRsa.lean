import Derived.Test.YthhgpiolcnojfaaGreatDoorHsm
import Derived.Test.YthhgpiolcnojfaaGreatDoorRfm
import Derived.Deep.Cut
/- herdref22.Says, Heard: what an answer says, by definition. -/
namespace Go.Proofs.YthhgpiolcnojfaaGreatDoor
open Go.RowKit Go.Shelf

/-- The result's box, stored. -/
theorem say_fin {w Y : World} {k : Int} {l : List Int} {v : Value} {T : Nat} (HZ : Y.heap[T]? = some (.cells #[.int .u8 0, .slice none 0 0] 44)) (hT : w.heap.size ≤ T) (HO : OwnI Y w.heap.size v l) (HB : Below w.heap.size w Y) :
  ((Y.setCell ⟨T, 0, none⟩ (.int .u8 k)).setCell ⟨T, 1, none⟩ v).heap[T]? = some (.cells #[.int .u8 k, v] 44) ∧ SEnd (some (k, l)) w (.returned (.tuple #[.agg #[.int .u8 k, v], .bool true])) ((Y.setCell ⟨T, 0, none⟩ (.int .u8 k)).setCell ⟨T, 1, none⟩ v) :=
 ⟨blk_set (blk_set HZ 0 _) 1 _, .inr ⟨_, _, _, rfl, rfl, owns_at (owns_at HO HZ (by decide) 0 _) (blk_set HZ 0 _) (by decide) 1 _, (HB.setCell (p := ⟨T, 0, none⟩) hT _).setCell (p := ⟨T, 1, none⟩) hT _⟩⟩
theorem say_nil {w Y : World} {T : Nat} (HZ : Y.heap[T]? = some (.cells #[.int .u8 0, .slice none 0 0] 44)) (hT : w.heap.size ≤ T) (HB : Below w.heap.size w Y) :
  ((Y.setCell ⟨T, 0, none⟩ (.int .u8 0)).setCell ⟨T, 1, none⟩ (.slice none 0 0)).heap[T]? = some (.cells #[.int .u8 0, .slice none 0 0] 44) ∧ SEnd none w (.returned (.tuple #[.agg #[.int .u8 0, .slice none 0 0], .bool false])) ((Y.setCell ⟨T, 0, none⟩ (.int .u8 0)).setCell ⟨T, 1, none⟩ (.slice none 0 0)) :=
 ⟨blk_set (blk_set HZ 0 _) 1 _, .inl ⟨rfl, rfl, (HB.setCell (p := ⟨T, 0, none⟩) hT _).setCell (p := ⟨T, 1, none⟩) hT _⟩⟩
theorem own_ints {W : World} {n : Nat} {cs : Array Value} {l : List Int} (hn : n = l.length) (hc : cs.toList = l.flatMap encI) (hs : cs.size = n) (hnm : n ≤ 100) :
  OwnI (W.alloc (.cells cs 3)) W.heap.size (.slice (some ⟨W.heap.size, 0, none⟩) n n) l := by
 refine Owns.mk (fun _ => rfl) (heap_new W _) hn (Nat.le_refl _) (by unfold maxLen; omega) (by omega) (by omega) ?_
 rw [hc, List.take_of_length_le]
 have : (l.flatMap encI).length = l.length * 1 := flat_len (k := 1) (enc := encI) (fun _ => rfl) l
 omega
theorem say_new {w Y : World} {k : Int} {l : List Int} {n : Nat} {cs : Array Value} {T : Nat} (HZ : Y.heap[T]? = some (.cells #[.int .u8 0, .slice none 0 0] 44)) (hT : w.heap.size ≤ T) (HB : Below w.heap.size w Y) (hn : n = l.length) (hc : cs.toList = l.flatMap encI) (hs : cs.size = n) (hnm : n ≤ 100) :
  (((Y.setCell ⟨T, 0, none⟩ (.int .u8 k)).setCell ⟨T, 1, none⟩ (.slice (some ⟨Y.heap.size, 0, none⟩) n n)).alloc (.cells cs 3)).heap[T]? = some (.cells #[.int .u8 k, .slice (some ⟨Y.heap.size, 0, none⟩) n n] 44) ∧
  SEnd (some (k, l)) w (.returned (.tuple #[.agg #[.int .u8 k, .slice (some ⟨Y.heap.size, 0, none⟩) n n], .bool true])) (((Y.setCell ⟨T, 0, none⟩ (.int .u8 k)).setCell ⟨T, 1, none⟩ (.slice (some ⟨Y.heap.size, 0, none⟩) n n)).alloc (.cells cs 3)) := by
 obtain ⟨X, hX⟩ : ∃ X, (Y.setCell ⟨T, 0, none⟩ (.int .u8 k)).setCell ⟨T, 1, none⟩ (.slice (some ⟨Y.heap.size, 0, none⟩) n n) = X := ⟨_, rfl⟩
 have hz : X.heap.size = Y.heap.size := by rw [← hX]; simp
 have hx : X.heap[T]? = some (.cells #[.int .u8 k, .slice (some ⟨Y.heap.size, 0, none⟩) n n] 44) := by rw [← hX]; exact blk_set (blk_set HZ 0 _) 1 _
 have hb : Below w.heap.size w X := by rw [← hX]; exact (HB.setCell (p := ⟨T, 0, none⟩) hT _).setCell (p := ⟨T, 1, none⟩) hT _
 rw [hX]
 have ho := own_ints (W := X) hn hc hs hnm
 rw [hz] at ho
 exact ⟨blk_alloc hx _, .inr ⟨_, _, _, rfl, rfl, ho.mono HB.size, hb.alloc (by rw [hz]; exact HB.size) _⟩⟩
theorem send {w : World} {k : Int} {l : List Int} {n : Nat} {cs : Array Value} {o : Obj} (hn : n = l.length) (hc : cs.toList = l.flatMap encI) (hs : cs.size = n) (hnm : n ≤ 100) :
  SEnd (some (k, l)) w (.returned (.tuple #[.agg #[.int .u8 k, .slice (some ⟨w.heap.size + 1, 0, none⟩) n n], .bool true])) ((w.alloc o).alloc (.cells cs 3)) := by
 obtain ⟨v, he, h1, h2⟩ := wend (k := k) (o := o) (w := w) hn hc hs hnm
 cases he
 exact .inr ⟨_, _, _, rfl, rfl, h1, h2⟩
set_option maxHeartbeats 400000 in
theorem hgone22_any (id : Int) (w : World) : Calls Tryz.prog 36 #[.int .i64 id] w (SEnd (some (7, [id])) w) := by
 have hb := bs_intA id
 go_enter Tryz.func36, Tryz.ntmps36
 go_wp2
 exact bodyPost_ret (res_rec_tmp (b := w.heap.size) rfl rfl rfl (blk_alloc (heap_new w _) _)) rfl (send rfl rfl rfl (by decide))
set_option maxHeartbeats 400000 in
theorem hphase22_any (id to now : Int) (w : World) (h8 : in8 to) : Calls Tryz.prog 37 #[.int .i64 id, .int .u8 to, .int .i64 now] w (SEnd (some (6, [id, to, now])) w) := by
 have hb := bs_int3 id to now
 have h0 : 0 ≤ to := h8.1
 have h1 : to ≤ 255 := h8.2
 go_enter Tryz.func37, Tryz.ntmps37
 go_wp2
 exact bodyPost_ret (res_rec_tmp (b := w.heap.size) rfl rfl rfl (blk_alloc (heap_new w _) _)) rfl (send rfl rfl rfl (by decide))
theorem SEnd.ret {k : Int} {l : List Int} {w w' : World} {e : Ending} (h : SEnd (some (k, l)) w e w') : ∃ va vn vc, e = .returned (.tuple #[.agg #[.int .u8 k, .slice va vn vc], .bool true]) ∧ OwnI w' w.heap.size (.slice va vn vc) l ∧ Below w.heap.size w w' := by
 rcases h with ⟨h, _⟩ | ⟨k', l', v, h, rfl, ho, hb⟩
 ·cases h
 ·cases h
  obtain ⟨va, vn, vc, rfl⟩ := ho.shape
  exact ⟨va, vn, vc, rfl, ho, hb⟩
/-- Says' and done's worlds behind their boxes. -/
structure SayW (w W1 : World) (x : CallV) (c k d i : Int) (sa : Option Addr) (sn sc : Nat) (m : Bool) : Prop where
 b : Below w.heap.size w W1
 n0 : W1.heap[w.heap.size]? = some (.cells #[.int .i64 x.id, .int .u8 x.kind, .int .i64 x.key, .int .i64 x.sent] 40)
 n1 : W1.heap[w.heap.size + 1]? = some (.cells #[.int .i64 c, .int .u8 k, .int .u8 d, .int .i64 i, .slice sa sn sc, .bool m] 36)
 n2 : W1.heap[w.heap.size + 1 + 1]? = some (.cells #[.int .u8 0, .slice none 0 0] 44)
theorem sayW (w : World) (x : CallV) (c k d i : Int) (sa : Option Addr) (sn sc : Nat) (m : Bool) :
  SayW w (((w.alloc (.cells #[.int .i64 x.id, .int .u8 x.kind, .int .i64 x.key, .int .i64 x.sent] 40)).alloc (.cells #[.int .i64 c, .int .u8 k, .int .u8 d, .int .i64 i, .slice sa sn sc, .bool m] 36)).alloc (.cells #[.int .u8 0, .slice none 0 0] 44)) x c k d i sa sn sc m :=
 ⟨(((Below.refl _ _).alloc (Nat.le_refl _) _).alloc (by simp) _).alloc (by simp; omega) _, blk_alloc (blk_alloc (heap_new _ _) _) _, blk_alloc (heap_new2 _ _ _) _, by simpa using heap_new2 (w.alloc _) _ _⟩
theorem hdone_none {k : Int} (h1 : ¬ k = 1) (h2 : ¬ k = 2) (h4 : ¬ k = 4) (h5 : ¬ k = 5) (h6 : ¬ k = 6) (key id now : Int) : saysL k 1 key id now = none := by
 unfold saysL
 simp [h1, h2, h4, h5, h6]
set_option maxRecDepth 100000 in
set_option maxHeartbeats 2000000 in
theorem hdone22_any (x : CallV) (c k d i now : Int) (sa : Option Addr) (sn sc : Nat) (m : Bool) (w : World) :
  Calls Tryz.prog 35 #[encS x, tellT c k d i (.slice sa sn sc) m, .int .i64 now] w (SEnd (saysL x.kind 1 x.key i now) w) := by
 obtain ⟨W1, hW1⟩ : ∃ W1, W1 = ((w.alloc (.cells #[.int .i64 x.id, .int .u8 x.kind, .int .i64 x.key, .int .i64 x.sent] 40)).alloc (.cells #[.int .i64 c, .int .u8 k, .int .u8 d, .int .i64 i, .slice sa sn sc, .bool m] 36)).alloc (.cells #[.int .u8 0, .slice none 0 0] 44) := ⟨_, rfl⟩
 have HS := hid (show SayW w W1 x c k d i sa sn sc m by rw [hW1]; exact sayW ..)
 unfold encS tellT
 obtain ⟨id, kd, key, sent⟩ := x
 dsimp only at *
 go_enter Tryz.func35, Tryz.ntmps35
 go_upto_region 1 with (fail)
 rw [← hW1]
 clear hW1
 have k1 : W1.cell? ⟨w.heap.size, 1, none⟩ = some (.int .u8 kd) := blk_cell HS.out.n0 1
 have k2 : W1.cell? ⟨w.heap.size, 2, none⟩ = some (.int .i64 key) := blk_cell HS.out.n0 2
 have t3 : W1.cell? ⟨w.heap.size + 1, 3, none⟩ = some (.int .i64 i) := blk_cell HS.out.n1 3
 have l0 := blk_lt HS.out.n0
 have l1 := blk_lt HS.out.n1
 obtain ⟨z0, z1, zf, zl⟩ := blk2 HS.out.n2
 by_cases h1 : kd = 1
 ·subst h1
  have hb3 := bs_int3 key i now W1
  go_wp2
  obtain ⟨q1, q2⟩ := say_new (w := w) (k := 4) (l := [key, i, now]) (n := 3) (cs := #[.int .i64 key, .int .i64 i, .int .i64 now]) (T := w.heap.size + 1 + 1) HS.out.n2 (by omega) HS.out.b rfl rfl rfl (by decide)
  exact bodyPost_ret (res_rec_tmp rfl rfl rfl q1) rfl q2
 by_cases h2 : kd = 2
 ·subst h2
  go_wp2_with fail
  refine (hphase22_any key 1 now W1 ⟨by decide, by decide⟩).mono ?_
  rintro e Y h
  obtain ⟨va, vn, vc, rfl, ho, hb⟩ := h.ret
  have HZ := hid (blk_below HS.out.n2 hb (blk_lt HS.out.n2))
  obtain ⟨z0, z1, zf, zl⟩ := blk2 HZ.out
  obtain ⟨q1, q2⟩ := say_fin (w := w) (k := 6) (l := [key, 1, now]) (T := w.heap.size + 1 + 1) HZ.out (by omega) (ho.mono HS.out.b.size) (HS.out.b.trans (hb.mono HS.out.b.size))
  clear ho hb h
  go_wp2
  exact bodyPost_ret (res_rec_tmp rfl rfl rfl q1) rfl q2
 by_cases h4 : kd = 4
 ·subst h4
  go_wp2_with fail
  refine (hphase22_any key 4 now W1 ⟨by decide, by decide⟩).mono ?_
  rintro e Y h
  obtain ⟨va, vn, vc, rfl, ho, hb⟩ := h.ret
  have HZ := hid (blk_below HS.out.n2 hb (blk_lt HS.out.n2))
  obtain ⟨z0, z1, zf, zl⟩ := blk2 HZ.out
  obtain ⟨q1, q2⟩ := say_fin (w := w) (k := 6) (l := [key, 4, now]) (T := w.heap.size + 1 + 1) HZ.out (by omega) (ho.mono HS.out.b.size) (HS.out.b.trans (hb.mono HS.out.b.size))
  clear ho hb h
  go_wp2
  exact bodyPost_ret (res_rec_tmp rfl rfl rfl q1) rfl q2
 by_cases h5 : kd = 5
 ·subst h5
  go_wp2_with fail
  refine (hphase22_any key 6 now W1 ⟨by decide, by decide⟩).mono ?_
  rintro e Y h
  obtain ⟨va, vn, vc, rfl, ho, hb⟩ := h.ret
  have HZ := hid (blk_below HS.out.n2 hb (blk_lt HS.out.n2))
  obtain ⟨z0, z1, zf, zl⟩ := blk2 HZ.out
  obtain ⟨q1, q2⟩ := say_fin (w := w) (k := 6) (l := [key, 6, now]) (T := w.heap.size + 1 + 1) HZ.out (by omega) (ho.mono HS.out.b.size) (HS.out.b.trans (hb.mono HS.out.b.size))
  clear ho hb h
  go_wp2
  exact bodyPost_ret (res_rec_tmp rfl rfl rfl q1) rfl q2
 by_cases h6 : kd = 6
 ·subst h6
  go_wp2_with fail
  refine (hgone22_any key W1).mono ?_
  rintro e Y h
  obtain ⟨va, vn, vc, rfl, ho, hb⟩ := h.ret
  have HZ := hid (blk_below HS.out.n2 hb (blk_lt HS.out.n2))
  obtain ⟨z0, z1, zf, zl⟩ := blk2 HZ.out
  obtain ⟨q1, q2⟩ := say_fin (w := w) (k := 7) (l := [key]) (T := w.heap.size + 1 + 1) HZ.out (by omega) (ho.mono HS.out.b.size) (HS.out.b.trans (hb.mono HS.out.b.size))
  clear ho hb h
  go_wp2
  exact bodyPost_ret (res_rec_tmp rfl rfl rfl q1) rfl q2
 have HN := hid (hdone_none h1 h2 h4 h5 h6 key i now)
 have e1 : (kd == 1) = false := by simpa using h1
 have e2 : (kd == 2) = false := by simpa using h2
 have e4 : (kd == 4) = false := by simpa using h4
 have e5 : (kd == 5) = false := by simpa using h5
 have e6 : (kd == 6) = false := by simpa using h6
 clear h1 h2 h4 h5 h6
 go_wp2
 obtain ⟨q1, q2⟩ := say_nil (w := w) (T := w.heap.size + 1 + 1) HS.out.n2 (by omega) HS.out.b
 exact bodyPost_ret (res_rec_tmp rfl rfl rfl q1) rfl (by rw [HN.out]; exact q2)
theorem says_far2 {d : Int} (h1 : ¬ d = 1) (h2 : ¬ d = 2) (h3 : ¬ d = 3) (h4 : ¬ d = 4) (kd key id now : Int) : saysL kd d key id now = none := by
 unfold saysL
 rw [if_neg h1, if_neg h2, if_neg h3, if_neg h4]
set_option maxRecDepth 100000 in
set_option maxHeartbeats 4000000 in
theorem rsays_any (x : CallV) (c k d i now : Int) (sa : Option Addr) (sn sc : Nat) (m : Bool) (w : World) :
  Calls Tryz.prog 12 #[encS x, tellT c k d i (.slice sa sn sc) m, .int .i64 now] w (SEnd (saysL x.kind d x.key i now) w) := by
 obtain ⟨W1, hW1⟩ : ∃ W1, W1 = ((w.alloc (.cells #[.int .i64 x.id, .int .u8 x.kind, .int .i64 x.key, .int .i64 x.sent] 40)).alloc (.cells #[.int .i64 c, .int .u8 k, .int .u8 d, .int .i64 i, .slice sa sn sc, .bool m] 36)).alloc (.cells #[.int .u8 0, .slice none 0 0] 44) := ⟨_, rfl⟩
 have HS := hid (show SayW w W1 x c k d i sa sn sc m by rw [hW1]; exact sayW ..)
 have HD := hid (hdone22_any x c k d i now sa sn sc m W1)
 unfold encS tellT at *
 obtain ⟨id, kd, key, sent⟩ := x
 dsimp only at *
 go_enter Tryz.func12, Tryz.ntmps12
 go_upto_region 1 with (fail)
 rw [← hW1]
 clear hW1
 have k0 : W1.cell? ⟨w.heap.size, 0, none⟩ = some (.int .i64 id) := blk_cell HS.out.n0 0
 have k1 : W1.cell? ⟨w.heap.size, 1, none⟩ = some (.int .u8 kd) := blk_cell HS.out.n0 1
 have k2 : W1.cell? ⟨w.heap.size, 2, none⟩ = some (.int .i64 key) := blk_cell HS.out.n0 2
 have k3 : W1.cell? ⟨w.heap.size, 3, none⟩ = some (.int .i64 sent) := blk_cell HS.out.n0 3
 have t0 : W1.cell? ⟨w.heap.size + 1, 0, none⟩ = some (.int .i64 c) := blk_cell HS.out.n1 0
 have t1 : W1.cell? ⟨w.heap.size + 1, 1, none⟩ = some (.int .u8 k) := blk_cell HS.out.n1 1
 have t2 : W1.cell? ⟨w.heap.size + 1, 2, none⟩ = some (.int .u8 d) := blk_cell HS.out.n1 2
 have t3 : W1.cell? ⟨w.heap.size + 1, 3, none⟩ = some (.int .i64 i) := blk_cell HS.out.n1 3
 have t4 : W1.cell? ⟨w.heap.size + 1, 4, none⟩ = some (.slice sa sn sc) := blk_cell HS.out.n1 4
 have t5 : W1.cell? ⟨w.heap.size + 1, 5, none⟩ = some (.bool m) := blk_cell HS.out.n1 5
 have l0 := blk_lt HS.out.n0
 have l1 := blk_lt HS.out.n1
 obtain ⟨z0, z1, zf, zl⟩ := blk2 HS.out.n2
 by_cases h1 : d = 1
 ·subst h1
  go_wp2_with fail
  refine (HD.out).mono ?_
  rintro e Y h
  rcases h with ⟨hn, rfl, hb⟩ | ⟨rk, rl, v, hr, rfl, ho, hb⟩
  ·have HZ := hid (blk_below HS.out.n2 hb (blk_lt HS.out.n2))
   obtain ⟨z0, z1, zf, zl⟩ := blk2 HZ.out
   obtain ⟨q1, q2⟩ := say_nil (w := w) (T := w.heap.size + 1 + 1) HZ.out (by omega) (HS.out.b.trans (hb.mono HS.out.b.size))
   have HN := hid hn
   clear hb hn
   go_wp2
   exact bodyPost_ret (res_rec_tmp rfl rfl rfl q1) rfl (by rw [HN.out]; exact q2)
  ·obtain ⟨va, vn, vc, rfl⟩ := ho.shape
   have HZ := hid (blk_below HS.out.n2 hb (blk_lt HS.out.n2))
   obtain ⟨z0, z1, zf, zl⟩ := blk2 HZ.out
   obtain ⟨q1, q2⟩ := say_fin (w := w) (k := rk) (l := rl) (T := w.heap.size + 1 + 1) HZ.out (by omega) (ho.mono HS.out.b.size) (HS.out.b.trans (hb.mono HS.out.b.size))
   have HR := hid hr
   clear ho hb hr
   go_wp2
   exact bodyPost_ret (res_rec_tmp rfl rfl rfl q1) rfl (by rw [HR.out]; exact q2)
 by_cases h2 : d = 2
 ·subst h2
  by_cases g2 : kd = 2
  ·subst g2
   go_wp2_with fail
   refine (hgone22_any key W1).mono ?_
   rintro e Y h
   obtain ⟨va, vn, vc, rfl, ho, hb⟩ := h.ret
   have HZ := hid (blk_below HS.out.n2 hb (blk_lt HS.out.n2))
   obtain ⟨z0, z1, zf, zl⟩ := blk2 HZ.out
   obtain ⟨q1, q2⟩ := say_fin (w := w) (k := 7) (l := [key]) (T := w.heap.size + 1 + 1) HZ.out (by omega) (ho.mono HS.out.b.size) (HS.out.b.trans (hb.mono HS.out.b.size))
   clear ho hb h
   go_wp2
   exact bodyPost_ret (res_rec_tmp rfl rfl rfl q1) rfl q2
  by_cases g4 : kd = 4
  ·subst g4
   go_wp2_with fail
   refine (hgone22_any key W1).mono ?_
   rintro e Y h
   obtain ⟨va, vn, vc, rfl, ho, hb⟩ := h.ret
   have HZ := hid (blk_below HS.out.n2 hb (blk_lt HS.out.n2))
   obtain ⟨z0, z1, zf, zl⟩ := blk2 HZ.out
   obtain ⟨q1, q2⟩ := say_fin (w := w) (k := 7) (l := [key]) (T := w.heap.size + 1 + 1) HZ.out (by omega) (ho.mono HS.out.b.size) (HS.out.b.trans (hb.mono HS.out.b.size))
   clear ho hb h
   go_wp2
   exact bodyPost_ret (res_rec_tmp rfl rfl rfl q1) rfl q2
  by_cases g5 : kd = 5
  ·subst g5
   go_wp2_with fail
   refine (hgone22_any key W1).mono ?_
   rintro e Y h
   obtain ⟨va, vn, vc, rfl, ho, hb⟩ := h.ret
   have HZ := hid (blk_below HS.out.n2 hb (blk_lt HS.out.n2))
   obtain ⟨z0, z1, zf, zl⟩ := blk2 HZ.out
   obtain ⟨q1, q2⟩ := say_fin (w := w) (k := 7) (l := [key]) (T := w.heap.size + 1 + 1) HZ.out (by omega) (ho.mono HS.out.b.size) (HS.out.b.trans (hb.mono HS.out.b.size))
   clear ho hb h
   go_wp2
   exact bodyPost_ret (res_rec_tmp rfl rfl rfl q1) rfl q2
  by_cases g6 : kd = 6
  ·subst g6
   go_wp2_with fail
   refine (hgone22_any key W1).mono ?_
   rintro e Y h
   obtain ⟨va, vn, vc, rfl, ho, hb⟩ := h.ret
   have HZ := hid (blk_below HS.out.n2 hb (blk_lt HS.out.n2))
   obtain ⟨z0, z1, zf, zl⟩ := blk2 HZ.out
   obtain ⟨q1, q2⟩ := say_fin (w := w) (k := 7) (l := [key]) (T := w.heap.size + 1 + 1) HZ.out (by omega) (ho.mono HS.out.b.size) (HS.out.b.trans (hb.mono HS.out.b.size))
   clear ho hb h
   go_wp2
   exact bodyPost_ret (res_rec_tmp rfl rfl rfl q1) rfl q2
  have HN := hid (show saysL kd 2 key i now = none by unfold saysL; simp [g2, g4, g5, g6])
  have e2 : (kd == 2) = false := by simpa using g2
  have e4 : (kd == 4) = false := by simpa using g4
  have e5 : (kd == 5) = false := by simpa using g5
  have e6 : (kd == 6) = false := by simpa using g6
  clear g2 g4 g5 g6
  go_wp2
  obtain ⟨q1, q2⟩ := say_nil (w := w) (T := w.heap.size + 1 + 1) HS.out.n2 (by omega) HS.out.b
  exact bodyPost_ret (res_rec_tmp rfl rfl rfl q1) rfl (by rw [HN.out]; exact q2)
 by_cases h3 : d = 3
 ·subst h3
  by_cases g5 : kd = 5
  ·subst g5
   go_wp2_with fail
   refine (hphase22_any key 4 now W1 ⟨by decide, by decide⟩).mono ?_
   rintro e Y h
   obtain ⟨va, vn, vc, rfl, ho, hb⟩ := h.ret
   have HZ := hid (blk_below HS.out.n2 hb (blk_lt HS.out.n2))
   obtain ⟨z0, z1, zf, zl⟩ := blk2 HZ.out
   obtain ⟨q1, q2⟩ := say_fin (w := w) (k := 6) (l := [key, 4, now]) (T := w.heap.size + 1 + 1) HZ.out (by omega) (ho.mono HS.out.b.size) (HS.out.b.trans (hb.mono HS.out.b.size))
   clear ho hb h
   go_wp2
   exact bodyPost_ret (res_rec_tmp rfl rfl rfl q1) rfl q2
  have HN := hid (show saysL kd 3 key i now = none by unfold saysL; simp [g5])
  have e5 : (kd == 5) = false := by simpa using g5
  clear g5
  go_wp2
  obtain ⟨q1, q2⟩ := say_nil (w := w) (T := w.heap.size + 1 + 1) HS.out.n2 (by omega) HS.out.b
  exact bodyPost_ret (res_rec_tmp rfl rfl rfl q1) rfl (by rw [HN.out]; exact q2)
 by_cases h4 : d = 4
 ·subst h4
  by_cases g1 : kd = 1
  ·subst g1
   have hb3 := bs_intA now W1
   go_wp2
   obtain ⟨q1, q2⟩ := say_new (w := w) (k := 5) (l := [now]) (n := 1) (cs := #[.int .i64 now]) (T := w.heap.size + 1 + 1) HS.out.n2 (by omega) HS.out.b rfl rfl rfl (by decide)
   exact bodyPost_ret (res_rec_tmp rfl rfl rfl q1) rfl q2
  have HN := hid (show saysL kd 4 key i now = none by unfold saysL; simp [g1])
  have e1 : (kd == 1) = false := by simpa using g1
  clear g1
  go_wp2
  obtain ⟨q1, q2⟩ := say_nil (w := w) (T := w.heap.size + 1 + 1) HS.out.n2 (by omega) HS.out.b
  exact bodyPost_ret (res_rec_tmp rfl rfl rfl q1) rfl (by rw [HN.out]; exact q2)
 have HN := hid (says_far2 h1 h2 h3 h4 kd key i now)
 have e1 : (d == 1) = false := by simpa using h1
 have e2 : (d == 2) = false := by simpa using h2
 have e3 : (d == 3) = false := by simpa using h3
 have e4 : (d == 4) = false := by simpa using h4
 clear h1 h2 h3 h4
 go_wp2
 obtain ⟨q1, q2⟩ := say_nil (w := w) (T := w.heap.size + 1 + 1) HS.out.n2 (by omega) HS.out.b
 exact bodyPost_ret (res_rec_tmp rfl rfl rfl q1) rfl (by rw [HN.out]; exact q2)
set_option maxRecDepth 100000 in
set_option maxHeartbeats 2000000 in
theorem rheard_any (ep nx c k d i : Int) (s : Value) (L : List CallV) (sa : Option Addr) (sn sc : Nat) (m : Bool) (w : World) (hn : L.length ≤ 1000000) (hs : Row12 w s L) :
  Calls Tryz.prog 10 #[calls ep nx s, tellT c k d i (.slice sa sn sc) m] w fun e w' => e = .returned (.tuple #[encS (heardL L c k).1, .bool (heardL L c k).2]) ∧ Below w.heap.size w w' := by
 obtain ⟨W1, hW1⟩ : ∃ W1, W1 = ((w.alloc (.cells #[.int .i64 ep, .int .i64 nx, s] 33)).alloc (.cells #[.int .i64 c, .int .u8 k, .int .u8 d, .int .i64 i, .slice sa sn sc, .bool m] 36)).alloc (.cells #[.int .i64 0, .int .u8 0, .int .i64 0, .int .i64 0] 40) := ⟨_, rfl⟩
 have hb1 : Below w.heap.size w W1 := by rw [hW1]; exact (((Below.refl _ _).alloc (Nat.le_refl _) _).alloc (by simp) _).alloc (by simp; omega) _
 have n1 : W1.heap[w.heap.size + 1]? = some (.cells #[.int .i64 c, .int .u8 k, .int .u8 d, .int .i64 i, .slice sa sn sc, .bool m] 36) := by rw [hW1]; exact blk_alloc (heap_new2 _ _ _) _
 have n2 : W1.heap[w.heap.size + 1 + 1]? = some (.cells #[.int .i64 0, .int .u8 0, .int .i64 0, .int .i64 0] 40) := by rw [hW1]; simpa using heap_new2 (w.alloc _) _ _
 obtain ⟨va, vc, rfl, _⟩ := hs.open
 obtain ⟨⟨y, b⟩, hy⟩ : ∃ r, findC L c = r := ⟨_, rfl⟩
 have hf := rfind_any ep nx c _ L W1 hn (hs.below hb1)
 rw [hy] at hf
 obtain ⟨HL, hHL⟩ : ∃ r, heardL L c k = r := ⟨_, rfl⟩
 rw [hHL]
 unfold heardL at hHL
 rw [hy] at hHL
 have HF := hid hf
 have HW1 := hid hW1
 have HB1 := hid hb1
 have N1 := hid n1
 have N2 := hid n2
 have HH := hid hHL
 clear hf hb1 n1 n2 hW1 hs hHL hy
 unfold calls tellT
 go_enter Tryz.func10, Tryz.ntmps10
 go_wp2_with fail
 rw [← HW1.out]
 refine HF.out.mono ?_
 rintro e V ⟨rfl, hb⟩
 have r1 := blk_below N1.out hb (blk_lt N1.out)
 have r2 := blk_below N2.out hb (blk_lt N2.out)
 have t1 : V.cell? ⟨w.heap.size + 1, 1, none⟩ = some (.int .u8 k) := blk_cell r1 1
 have l1 := blk_lt r1
 obtain ⟨z0, z1, z2, z3, zf, zl⟩ := blk4 r2
 have R2 := hid r2
 have HB := hid (HB1.out.trans (hb.mono HB1.out.size))
 clear hb r1 r2
 have hle : w.heap.size ≤ w.heap.size + 1 + 1 := by omega
 unfold encS
 cases b with
 | false =>
  have HE := hid (show HL = (⟨0, 0, 0, 0⟩, false) by rw [← HH.out]; rfl)
  go_wp2
  exact bodyPost_ret (res_call_tmp rfl rfl rfl (blk_alloc (set4 R2.out _ _ _ _) _)) rfl ⟨by rw [HE.out]; rfl, (below_set4 HB.out hle _ _ _ _).alloc (by simp; exact HB.out.size) _⟩
 | true =>
  by_cases hk : y.kind = k
  ·have HE := hid (show HL = (y, true) by rw [← HH.out]; simp [hk])
   have hk2 : (y.kind != k) = false := by simp [hk]
   clear hk
   go_wp2
   exact bodyPost_ret (res_call_tmp rfl rfl rfl (blk_alloc (set4 R2.out _ _ _ _) _)) rfl ⟨by rw [HE.out]; rfl, (below_set4 HB.out hle _ _ _ _).alloc (by simp; exact HB.out.size) _⟩
  ·have HE := hid (show HL = (⟨0, 0, 0, 0⟩, false) by rw [← HH.out]; simp [hk])
   have hk2 : (y.kind != k) = true := by simpa using hk
   clear hk
   go_wp2
   exact bodyPost_ret (res_call_tmp rfl rfl rfl (blk_alloc (set4 R2.out _ _ _ _) _)) rfl ⟨by rw [HE.out]; rfl, (below_set4 HB.out hle _ _ _ _).alloc (by simp; exact HB.out.size) _⟩
end Go.Proofs.YthhgpiolcnojfaaGreatDoor
