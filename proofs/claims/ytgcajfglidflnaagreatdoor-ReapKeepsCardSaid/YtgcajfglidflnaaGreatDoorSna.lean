import Derived.Test.YtgcajfglidflnaaGreatDoorClm
/- What is seen, in memory; slices.Clone of it; page.Next; reap.Begin, Ask, Due. -/
namespace Go.Proofs.YtgcajfglidflnaaGreatDoor
open Go.RowKit Go.Shelf

/-- What a page tells of a box. -/
structure SeenV where
 id : Int
 token : Int
 version : Int
 zone : Int
 on : Bool
 well : Bool
 inn : Bool
def encSn (x : SeenV) : List Value := [.int .i64 x.id, .int .i64 x.token, .int .i64 x.version, .int .i64 x.zone, .bool x.on, .bool x.well, .bool x.inn]
theorem encSn_len (x : SeenV) : (encSn x).length = 7 := rfl
theorem encSn_one (x : SeenV) : ∀ u ∈ encSn x, u.oneCell' = true := by
 intro u hu
 simp only [encSn, List.mem_cons, List.mem_nil_iff, or_false] at hu
 rcases hu with rfl | rfl | rfl | rfl | rfl | rfl | rfl <;> rfl
theorem rowS {w : World} {b off : Nat} {l : List SeenV} (h : RowAt 7 encSn w b off l) {i : Nat} {x : SeenV} (hi : l[i]? = some x) :
  w.cell? ⟨b, off + i * 7, none⟩ = some (.int .i64 x.id) ∧ w.cell? ⟨b, off + i * 7 + 1, none⟩ = some (.int .i64 x.token) ∧ w.cell? ⟨b, off + i * 7 + 2, none⟩ = some (.int .i64 x.version) ∧ w.cell? ⟨b, off + i * 7 + 3, none⟩ = some (.int .i64 x.zone) ∧
  w.cell? ⟨b, off + i * 7 + 4, none⟩ = some (.bool x.on) ∧ w.cell? ⟨b, off + i * 7 + 5, none⟩ = some (.bool x.well) ∧ w.cell? ⟨b, off + i * 7 + 6, none⟩ = some (.bool x.inn) :=
 ⟨h i x hi 0 _ rfl, h i x hi 1 _ rfl, h i x hi 2 _ rfl, h i x hi 3 _ rfl, h i x hi 4 _ rfl, h i x hi 5 _ rfl, h i x hi 6 _ rfl⟩
theorem infoSn : (Tryz.prog.info? 49).map (fun i => (i.zero, i.size, i.bytes)) = some (some (.agg #[.int .i64 0, .int .i64 0, .int .i64 0, .int .i64 0, .bool false, .bool false, .bool false]), 7, 40) := by kernel_rfl
abbrev OwnS (w : World) (base : Nat) (v : Value) (l : List SeenV) : Prop := Owns 7 49 encSn w base v l
abbrev RowS (w : World) (v : Value) (l : List SeenV) : Prop := RowOf 7 encSn w v l
set_option maxHeartbeats 400000 in
theorem cloneS_any (s : Value) (L : List SeenV) (w : World) (hn : L.length ≤ 1000000) (hs : RowS w s L) :
  Calls Tryz.prog 32 #[s] w fun e w' => ∃ v, e = .returned v ∧ OwnS w' w.heap.size v L ∧ Below w.heap.size w w' := by
 obtain ⟨i0, hi, hz0, hz1, hz2⟩ := info_parts infoSn
 rcases hs.open with ⟨a, c, rfl, hl1, hl2, hl3, hop⟩
 have HS := hid hs
 have he0 : ∀ w, (binOp .eql 37 (.slice none 0 0) (.slice none 0 0)).run Tryz.prog w = .ok (.bool true) w := fun w => by kernel_rfl
 have he1 : ∀ ad n c w, (binOp .eql 37 (.slice (some ad) n c) (.slice none 0 0)).run Tryz.prog w = .ok (.bool false) w := fun ad n c w => by kernel_rfl
 cases a with
 | none =>
  rcases hs with ⟨a', c', he, rfl, hac, _⟩ | ⟨_, b, off, c', he, _⟩
  ·cases he
   obtain rfl := hac rfl
   go_enter Tryz.func32, Tryz.ntmps32
   go_wp2
   go_ret
   exact ⟨_, rfl, Owns.nil _ _, Below.refl _ _⟩
  ·cases he
 | some ad =>
  clear hs hop
  have c1 : ([] : List SeenV).length + L.length ≤ maxLen := by unfold maxLen; simp; omega
  have c2 : (([] : List SeenV).length + L.length) * 40 ≤ 140737488355328 := by simp; omega
  go_enter Tryz.func32, Tryz.ntmps32
  go_wp2_with (at_builtin; go_loud (refine append_rows rfl _ _ 37 rfl w.heap.size 49 i0 _ 40 Tryz.underlying37 hi hz0 hz1 hz2 rfl (by decide) encSn_len encSn_one _ [] rfl (World.ownsRow_made w #[] 0 (Nat.le_refl _) (by decide) rfl) _ L rfl (HS.out.below ((Below.refl _ _).alloc (Nat.le_refl _) _)) c1 c2 (by simp) ?_); intro v' w1 hown hgrow)
  go_ret
  exact ⟨v', rfl, by simpa using hown, ((Below.refl _ _).alloc (Nat.le_refl _) _).grown hgrow (by simp) (fun k e => by
   have e' : some k = some w.heap.size := e.symm.trans rfl
   cases e'; exact Nat.le_refl _)⟩

/-- Behind which id to go on. -/
def nextL (l : List SeenV) (b : Int) : Int := l.foldl (fun b x => max b x.id) b
theorem nextL_snoc {l : List SeenV} {k : Nat} {x : SeenV} (b : Int) (h : l[k]? = some x) : nextL (l.take (k + 1)) b = max (nextL (l.take k) b) x.id := by
 unfold nextL
 rw [take_snoc l k x h, List.foldl_append]
 rfl
set_option maxRecDepth 100000 in
set_option maxHeartbeats 1000000 in
theorem next_any (s : Value) (L : List SeenV) (b : Int) (w : World) (hs : RowS w s L) :
  Calls Tryz.prog 33 #[s, .int .i64 b] w fun e w' => e = .returned (.int .i64 (nextL L b)) ∧ Below w.heap.size w w' := by
 obtain ⟨sa, sc, rfl, p1, p2, p3, hop⟩ := hs.open
 have HOP := hid hop
 clear hs hop
 go_enter Tryz.func33, Tryz.ntmps33
 go_wp2
 go_loopw [9, 1] (fun i m wr => ∃ k : Nat, k ≤ L.length ∧ i = .int .i64 k ∧ m = .int .i64 (nextL (L.take k) b) ∧ Below w.heap.size w wr) (fun i _ _ => L.length - (intOf i).toNat)
 case atStart => exact ⟨0, Nat.zero_le _, rfl, rfl, Below.refl _ _⟩
 case round =>
  obtain ⟨k, hk, rfl, rfl, hB⟩ := hrel
  have HB := hid hB
  clear hB
  by_cases hlt : k < L.length
  ·obtain ⟨b1, o1, rfl, hb1, hr1⟩ := HOP.out (by omega)
   obtain ⟨x, hx⟩ := get_lt hlt
   obtain ⟨g0, g1, g2, g3, g4, g5, g6⟩ := rowS (hr1.below HB.out hb1) hx
   have hkL : (k : Int) < (L.length : Int) := by omega
   have hb1w : b1 < wr.heap.size := Nat.lt_of_lt_of_le hb1 HB.out.size
   have HN := hid (nextL_snoc b hx)
   obtain ⟨m, hm⟩ : ∃ m, nextL (L.take k) b = m := ⟨_, rfl⟩
   rw [hm] at HN ⊢
   have hal : ∀ o, Below w.heap.size w (wr.alloc o) := fun o => HB.out.alloc HB.out.size o
   have HAL := hid hal
   clear hr1 hx hm hal
   rcases Int.lt_trichotomy m x.id with h | h | h
   ·have HE := hid (show nextL (L.take (k + 1)) b = x.id by rw [HN.out]; omega)
    have hng : ¬ x.id < m := by omega
    go_wp2
    go_roundw
    case rel => exact ⟨k + 1, by omega, by go_num, by rw [HE.out], HAL.out _⟩
    case measure => simp [intOf]; omega
   ·have HE := hid (show nextL (L.take (k + 1)) b = m by rw [HN.out]; omega)
    subst h
    go_wp2
    go_roundw
    case rel => exact ⟨k + 1, by omega, by go_num, by rw [HE.out], HAL.out _⟩
    case measure => simp [intOf]; omega
   ·have HE := hid (show nextL (L.take (k + 1)) b = m by rw [HN.out]; omega)
    have hng : ¬ m < x.id := by omega
    go_wp2
    go_roundw
    case rel => exact ⟨k + 1, by omega, by go_num, by rw [HE.out], HAL.out _⟩
    case measure => simp [intOf]; omega
  ·obtain rfl : k = L.length := by omega
   rw [List.take_length]
   go_wp2
   go_ret
   exact ⟨rfl, HB.out⟩
end Go.Proofs.YtgcajfglidflnaaGreatDoor
