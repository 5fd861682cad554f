import Derived.Test.YtgcajfglidflnaaGreatDoorRpd
import Derived.Test.YtgcajfglidflnaaGreatDoorFir
import Derived.Test.YtgcajfglidflnaaGreatDoorRcm
import Derived.Deep.Cut
/- reap.rec, reap.kept: what is said of a Kept. -/
namespace Go.Proofs.YtgcajfglidflnaaGreatDoor
open Go.RowKit Go.Shelf
attribute [-go_sem] Instr.buildSlice

theorem res_rec1 {fn : Func} {tmps : Array Value} {r : Tmp} {t : TypeId} {b : Nat} {c0 c1 : Value} {W : World} (hres : fn.results = #[.cell r 70]) (h : tmps.getD r undef = .pointer (some ⟨b, 0, none⟩)) (hb : W.heap[b]? = some (.cells #[c0, c1] t)) :
  (results fn tmps).run Tryz.prog W = .ok (.agg #[c0, c1]) W := by
 obtain ⟨k0, k1, _⟩ := blk2 hb
 rw [Array.getD_eq_getD_getElem?] at h
 simp [results, hres, go_sem, h, k0, k1]
theorem res_rec2 {fn : Func} {tmps : Array Value} {r q : Tmp} {t : TypeId} {b : Nat} {c0 c1 u : Value} {W : World} (hres : fn.results = #[.cell r 70, .tmp q]) (h : tmps.getD r undef = .pointer (some ⟨b, 0, none⟩)) (hq : tmps.getD q undef = u) (hb : W.heap[b]? = some (.cells #[c0, c1] t)) :
  (results fn tmps).run Tryz.prog W = .ok (.tuple #[.agg #[c0, c1], u]) W := by
 obtain ⟨k0, k1, _⟩ := blk2 hb
 rw [Array.getD_eq_getD_getElem?] at h hq
 simp [results, hres, go_sem, h, hq, k0, k1]
theorem bsI1 (x : Int) (w : World) : (Instr.buildSlice 25 1 #[(0, .int .i64 x)]).run Tryz.prog w = .ok (.slice (some ⟨w.heap.size, 0, none⟩) 1 1) (w.alloc (.cells #[.int .i64 x] 3)) := by kernel_rfl
theorem bsI3 (x y z : Int) (w : World) : (Instr.buildSlice 25 3 #[(0, .int .i64 x), (1, .int .i64 y), (2, .int .i64 z)]).run Tryz.prog w = .ok (.slice (some ⟨w.heap.size, 0, none⟩) 3 3) (w.alloc (.cells #[.int .i64 x, .int .i64 y, .int .i64 z] 3)) := by kernel_rfl
theorem bsI5 (x y z u v : Int) (w : World) : (Instr.buildSlice 25 5 #[(0, .int .i64 x), (1, .int .i64 y), (2, .int .i64 z), (3, .int .i64 u), (4, .int .i64 v)]).run Tryz.prog w = .ok (.slice (some ⟨w.heap.size, 0, none⟩) 5 5) (w.alloc (.cells #[.int .i64 x, .int .i64 y, .int .i64 z, .int .i64 u, .int .i64 v] 3)) := by kernel_rfl
theorem own_ints {W : World} {L : List Int} {cs : Array Value} {n base : Nat} (hb : base ≤ W.heap.size) (hn : n = L.length) (hc : cs.toList = L.flatMap encI) (hs : cs.size = n) (hm : n ≤ 100) : OwnI (W.alloc (.cells cs 3)) base (.slice (some ⟨W.heap.size, 0, none⟩) n n) L := by
 refine Owns.mk (fun _ => rfl) (heap_new W _) hn (Nat.le_refl _) (by unfold maxLen; omega) hb (by omega) ?_
 rw [hc, List.take_of_length_le]
 have : (L.flatMap encI).length = L.length * 1 := flat_len (k := 1) (enc := encI) (fun _ => rfl) L
 omega
theorem rec_any (k : Int) (a : Option Addr) (n c : Nat) (w : World) :
  Calls Tryz.prog 41 #[.int .u8 k, .slice a n c] w fun e w' => e = .returned (.agg #[.int .u8 k, .slice a n c]) ∧ Below w.heap.size w w' := by
 go_enter Tryz.func41, Tryz.ntmps41
 go_wp2
 exact bodyPost_ret (res_rec1 (b := w.heap.size) rfl rfl (heap_new w _)) rfl ⟨rfl, (Below.refl _ _).alloc (Nat.le_refl _) _⟩
/-- What kept ends with. -/
def KEnd (r : Option RecP) (w : World) (e : Ending) (w' : World) : Prop :=
 (r = none ∧ e = .returned (.tuple #[.agg #[.int .u8 0, .slice none 0 0], .bool false]) ∧ Below w.heap.size w w') ∨
 ∃ k l v, r = some (k, l) ∧ e = .returned (.tuple #[.agg #[.int .u8 k, v], .bool true]) ∧ OwnI w' w.heap.size v l ∧ Below w.heap.size w w'
set_option maxRecDepth 100000 in
set_option maxHeartbeats 2000000 in
theorem kept_any (k : KeptV) (x : SeenV) (ok : Bool) (now : Int) (w : World) :
  Calls Tryz.prog 40 #[encKv k, encSv x, .bool ok, .int .i64 now] w (KEnd (keptR (if ok = true then some x else none) k now) w) := by
 obtain ⟨W1, hW1⟩ : ∃ W1, W1 = ((w.alloc (.cells #[.int .i64 k.id, .int .i64 k.token, .int .i64 k.version, .int .i64 k.zone, .int .u8 k.phase, .int .i64 k.since, .bool k.guarded, .bool k.complete] 51)).alloc (.cells #[.int .i64 x.id, .int .i64 x.token, .int .i64 x.version, .int .i64 x.zone, .bool x.on, .bool x.well, .bool x.inn] 49)).alloc (.cells #[.int .u8 0, .slice none 0 0] 70) := ⟨_, rfl⟩
 have hb1 : Below w.heap.size w W1 := by rw [hW1]; exact (((Below.refl _ _).alloc (Nat.le_refl _) _).alloc (by simp) _).alloc (by simp; omega) _
 have n0 : W1.heap[w.heap.size]? = some (.cells #[.int .i64 k.id, .int .i64 k.token, .int .i64 k.version, .int .i64 k.zone, .int .u8 k.phase, .int .i64 k.since, .bool k.guarded, .bool k.complete] 51) := by rw [hW1]; exact blk_alloc (blk_alloc (heap_new _ _) _) _
 have n1 : W1.heap[w.heap.size + 1]? = some (.cells #[.int .i64 x.id, .int .i64 x.token, .int .i64 x.version, .int .i64 x.zone, .bool x.on, .bool x.well, .bool x.inn] 49) := by rw [hW1]; exact blk_alloc (heap_new2 _ _ _) _
 have n2 : W1.heap[w.heap.size + 1 + 1]? = some (.cells #[.int .u8 0, .slice none 0 0] 70) := by rw [hW1]; simpa using heap_new2 (w.alloc _) _ _
 have c0 : W1.cell? ⟨w.heap.size, 0, none⟩ = some (.int .i64 k.id) := blk_cell n0 0
 have c4 : W1.cell? ⟨w.heap.size, 4, none⟩ = some (.int .u8 k.phase) := blk_cell n0 4
 have s5 : W1.cell? ⟨w.heap.size + 1, 5, none⟩ = some (.bool x.well) := blk_cell n1 5
 have s6 : W1.cell? ⟨w.heap.size + 1, 6, none⟩ = some (.bool x.inn) := blk_cell n1 6
 have l0 := blk_lt n0
 have l1 := blk_lt n1
 obtain ⟨z0, z1, zf, zl⟩ := blk2 n2
 have HB1 := hid hb1
 have N2 := hid n2
 have HW1 := hid hW1
 have hk1 := bsI1
 have hk3 := bsI3
 clear hb1 n0 n1 n2 hW1
 obtain ⟨r, hr⟩ : ∃ r, keptR (if ok = true then some x else none) k now = r := ⟨_, rfl⟩
 rw [hr]
 have HR := hid hr
 clear hr
 unfold encKv encSv
 go_enter Tryz.func40, Tryz.ntmps40
 go_upto_region 1 with (fail)
 rw [← HW1.out]
 clear HW1
 have hend : ∀ (kk : Int) (L : List Int) (cs : Array Value) (n : Nat), r = some (kk, L) → n = L.length → cs.toList = L.flatMap encI → cs.size = n → n ≤ 100 → ∀ V, Below (W1.heap.size + 1) (W1.alloc (.cells cs 3)) V →
   KEnd r w (.returned (.tuple #[.agg #[.int .u8 kk, .slice (some ⟨W1.heap.size, 0, none⟩) n n], .bool true])) ((V.setCell ⟨w.heap.size + 1 + 1, 0, none⟩ (.int .u8 kk)).setCell ⟨w.heap.size + 1 + 1, 1, none⟩ (.slice (some ⟨W1.heap.size, 0, none⟩) n n)) ∧
   ((V.setCell ⟨w.heap.size + 1 + 1, 0, none⟩ (.int .u8 kk)).setCell ⟨w.heap.size + 1 + 1, 1, none⟩ (.slice (some ⟨W1.heap.size, 0, none⟩) n n)).heap[w.heap.size + 1 + 1]? = some (.cells #[.int .u8 kk, .slice (some ⟨W1.heap.size, 0, none⟩) n n] 70) := by
  intro kk L cs n e1 e2 e3 e4 e5 V hV
  have hV' : Below (W1.alloc (.cells cs 3)).heap.size (W1.alloc (.cells cs 3)) V := by simpa using hV
  have hz := blk_below (blk_alloc N2.out (.cells cs 3)) hV' (blk_lt (blk_alloc N2.out _))
  have hbV : Below w.heap.size w V := (HB1.out.alloc HB1.out.size _).trans (hV'.mono (by have := HB1.out.size; simp; omega))
  have hown : OwnI V w.heap.size (.slice (some ⟨W1.heap.size, 0, none⟩) n n) L := (own_ints HB1.out.size e2 e3 e4 e5).below hV'
  have q := blk_set (blk_set hz 0 (.int .u8 kk)) 1 (.slice (some ⟨W1.heap.size, 0, none⟩) n n)
  refine ⟨.inr ⟨kk, L, _, e1, rfl, ?_, (hbV.setCell (p := ⟨w.heap.size + 1 + 1, 0, none⟩) (by simp; omega) _).setCell (p := ⟨w.heap.size + 1 + 1, 1, none⟩) (by simp; omega) _⟩, by simpa using q⟩
  exact owns_at (owns_at hown hz (by decide) 0 _) (blk_set hz 0 _) (by decide) 1 _
 have HEND := hid hend
 clear hend
 cases ok with
 | false =>
  have HE := hid (show r = some (7, [k.id]) from HR.out.symm)
  go_wp2_with fail
  refine (rec_any 7 _ 1 1 _).mono ?_
  rintro e V ⟨rfl, hb⟩
  obtain ⟨q1, q2⟩ := HEND.out 7 [k.id] #[.int .i64 k.id] 1 HE.out rfl rfl rfl (by decide) V (by simpa using hb)
  have hz := blk_below (blk_alloc N2.out (.cells #[.int .i64 k.id] 3)) hb (blk_lt (blk_alloc N2.out _))
  obtain ⟨y0, y1, yf, yl⟩ := blk2 hz
  have Q1 := hid q1
  have Q2 := hid q2
  clear q1 q2 hz hb HEND hk1 hk3 z0 z1 zf
  go_wp2
  exact bodyPost_ret (res_rec2 rfl rfl rfl Q2.out) rfl Q1.out
 | true =>
  by_cases hp : k.phase = 4
  ·have HP := hid hp
   cases hw : x.well with
   | false =>
    have HE := hid (show r = some (6, [k.id, 5, now]) by rw [← HR.out]; unfold keptR; rw [if_pos rfl]; dsimp only; rw [if_neg (by rw [HP.out, hw]; simp), if_neg (by rw [hw]; simp)])
    rw [hw] at s5
    clear hw
    go_wp2_with fail
    refine (rec_any 6 _ 3 3 _).mono ?_
    rintro e V ⟨rfl, hb⟩
    obtain ⟨q1, q2⟩ := HEND.out 6 [k.id, 5, now] #[.int .i64 k.id, .int .i64 5, .int .i64 now] 3 HE.out rfl rfl rfl (by decide) V (by simpa using hb)
    have hz := blk_below (blk_alloc N2.out (.cells #[.int .i64 k.id, .int .i64 5, .int .i64 now] 3)) hb (blk_lt (blk_alloc N2.out _))
    obtain ⟨y0, y1, yf, yl⟩ := blk2 hz
    have Q1 := hid q1
    have Q2 := hid q2
    clear q1 q2 hz hb HEND hk1 hk3 z0 z1 zf
    go_wp2
    exact bodyPost_ret (res_rec2 rfl rfl rfl Q2.out) rfl Q1.out
   | true =>
    rw [hw] at s5
    cases hi : x.inn with
    | false =>
     have HE := hid (show r = some (6, [k.id, 3, now]) by rw [← HR.out]; unfold keptR; rw [if_pos rfl]; dsimp only; rw [if_neg (by rw [HP.out, hi]; simp), if_pos hw])
     rw [hi] at s6
     clear hw hi
     go_wp2_with fail
     refine (rec_any 6 _ 3 3 _).mono ?_
     rintro e V ⟨rfl, hb⟩
     obtain ⟨q1, q2⟩ := HEND.out 6 [k.id, 3, now] #[.int .i64 k.id, .int .i64 3, .int .i64 now] 3 HE.out rfl rfl rfl (by decide) V (by simpa using hb)
     have hz := blk_below (blk_alloc N2.out (.cells #[.int .i64 k.id, .int .i64 3, .int .i64 now] 3)) hb (blk_lt (blk_alloc N2.out _))
     obtain ⟨y0, y1, yf, yl⟩ := blk2 hz
     have Q1 := hid q1
     have Q2 := hid q2
     clear q1 q2 hz hb HEND hk1 hk3 z0 z1 zf
     go_wp2
     exact bodyPost_ret (res_rec2 rfl rfl rfl Q2.out) rfl Q1.out
    | true =>
     have HE := hid (show r = none by rw [← HR.out]; unfold keptR; rw [if_pos rfl]; dsimp only; rw [if_pos (.inr ⟨hw, hi⟩)])
     rw [hi] at s6
     clear hw hi HEND hk1 hk3
     go_wp2
     exact bodyPost_ret (res_rec2 rfl rfl rfl (blk_set (blk_set N2.out 0 _) 1 _)) rfl (.inl ⟨HE.out, rfl, (HB1.out.setCell (p := ⟨w.heap.size + 1 + 1, 0, none⟩) (by simp; omega) _).setCell (p := ⟨w.heap.size + 1 + 1, 1, none⟩) (by simp; omega) _⟩)
  ·have HE := hid (show r = none by rw [← HR.out]; unfold keptR; rw [if_pos rfl]; dsimp only; rw [if_pos (.inl hp)])
   clear HEND hk1 hk3
   go_wp2
   exact bodyPost_ret (res_rec2 rfl rfl rfl (blk_set (blk_set N2.out 0 _) 1 _)) rfl (.inl ⟨HE.out, rfl, (HB1.out.setCell (p := ⟨w.heap.size + 1 + 1, 0, none⟩) (by simp; omega) _).setCell (p := ⟨w.heap.size + 1 + 1, 1, none⟩) (by simp; omega) _⟩)
end Go.Proofs.YtgcajfglidflnaaGreatDoor
