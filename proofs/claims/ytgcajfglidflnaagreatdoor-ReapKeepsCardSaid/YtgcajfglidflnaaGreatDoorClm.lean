import Derived.Test.YtgcajfglidflnaaGreatDoorBrA
import Derived.Test.YtgcajfglidflnaaGreatDoorCfm
import Derived.Laws.Tables
import Derived.Laws.CopyRow
import Derived.Laws.CopyOwn
/- slices.Clone of numbers, of Intents, of Kept. Printed by gn_cl3.py. -/
namespace Go.Proofs.YtgcajfglidflnaaGreatDoor
open Go.RowKit Go.Shelf

theorem encI_len (x : Int) : (encI x).length = 1 := rfl
theorem encI_one (x : Int) : ∀ u ∈ encI x, u.oneCell' = true := by
 intro u hu
 simp only [encI, List.mem_cons, List.mem_nil_iff, or_false] at hu
 rcases hu with rfl; rfl
theorem encIn_one (x : IntentV) : ∀ u ∈ encIn x, u.oneCell' = true := by
 intro u hu
 simp only [encIn, List.mem_cons, List.mem_nil_iff, or_false] at hu
 rcases hu with rfl | rfl | rfl | rfl <;> rfl
theorem encKp_one (x : KeptV) : ∀ u ∈ encKp x, u.oneCell' = true := by
 intro u hu
 simp only [encKp, List.mem_cons, List.mem_nil_iff, or_false] at hu
 rcases hu with rfl | rfl | rfl | rfl | rfl | rfl | rfl | rfl <;> rfl
theorem infoI : (Tryz.prog.info? 3).map (fun i => (i.zero, i.size, i.bytes)) = some (some (.int .i64 0), 1, 8) := by kernel_rfl
theorem infoIn : (Tryz.prog.info? 54).map (fun i => (i.zero, i.size, i.bytes)) = some (some (.agg #[.int .i64 0, .int .i64 0, .int .i64 0, .bool false]), 4, 32) := by kernel_rfl
theorem infoKp : (Tryz.prog.info? 51).map (fun i => (i.zero, i.size, i.bytes)) = some (some (.agg #[.int .i64 0, .int .i64 0, .int .i64 0, .int .i64 0, .int .u8 0, .int .i64 0, .bool false, .bool false]), 8, 56) := by kernel_rfl
abbrev OwnI (w : World) (base : Nat) (v : Value) (l : List Int) : Prop := Owns 1 3 encI w base v l
abbrev OwnN (w : World) (base : Nat) (v : Value) (l : List IntentV) : Prop := Owns 4 54 encIn w base v l
abbrev OwnK (w : World) (base : Nat) (v : Value) (l : List KeptV) : Prop := Owns 8 51 encKp w base v l

set_option maxHeartbeats 400000 in
theorem cloneI_any (s : Value) (L : List Int) (w : World) (hn : L.length ≤ 17592186043904) (hs : RowOf 1 encI w s L) :
  Calls Tryz.prog 35 #[s] w fun e w' => ∃ v, e = .returned v ∧ OwnI w' w.heap.size v L ∧ Below w.heap.size w w' := by
 obtain ⟨i0, hi, hz0, hz1, hz2⟩ := info_parts infoI
 rcases hs.open with ⟨a, c, rfl, hl1, hl2, hl3, hop⟩
 have HS := hid hs
 have he0 : ∀ w, (binOp .eql 25 (.slice none 0 0) (.slice none 0 0)).run Tryz.prog w = .ok (.bool true) w := fun w => by kernel_rfl
 have he1 : ∀ ad n c w, (binOp .eql 25 (.slice (some ad) n c) (.slice none 0 0)).run Tryz.prog w = .ok (.bool false) w := fun ad n c w => by kernel_rfl
 cases a with
 | none =>
  rcases hs with ⟨a', c', he, rfl, hac, _⟩ | ⟨_, b, off, c', he, _⟩
  ·cases he
   obtain rfl := hac rfl
   go_enter Tryz.func35, Tryz.ntmps35
   go_wp2
   go_ret
   exact ⟨_, rfl, Owns.nil _ _, Below.refl _ _⟩
  ·cases he
 | some ad =>
  clear hs hop
  have c1 : ([] : List Int).length + L.length ≤ maxLen := by unfold maxLen; simp; omega
  have c2 : (([] : List Int).length + L.length) * 8 ≤ 140737488355328 := by simp; omega
  go_enter Tryz.func35, Tryz.ntmps35
  go_wp2_with (at_builtin; go_loud (refine append_rows rfl _ _ 25 rfl w.heap.size 3 i0 _ 8 Tryz.underlying25 hi hz0 hz1 hz2 rfl (by decide) encI_len encI_one _ [] rfl (World.ownsRow_made w #[] 0 (Nat.le_refl _) (by decide) rfl) _ L rfl (HS.out.below ((Below.refl _ _).alloc (Nat.le_refl _) _)) c1 c2 (by simp) ?_); intro v' w1 hown hgrow)
  go_ret
  exact ⟨v', rfl, by simpa using hown, ((Below.refl _ _).alloc (Nat.le_refl _) _).grown hgrow (by simp) (fun k e => by
   have e' : some k = some w.heap.size := e.symm.trans rfl
   cases e'; exact Nat.le_refl _)⟩

set_option maxHeartbeats 400000 in
theorem cloneN_any (s : Value) (L : List IntentV) (w : World) (hn : L.length ≤ 1000000) (hs : RowOf 4 encIn w s L) :
  Calls Tryz.prog 36 #[s] w fun e w' => ∃ v, e = .returned v ∧ OwnN w' w.heap.size v L ∧ Below w.heap.size w w' := by
 obtain ⟨i0, hi, hz0, hz1, hz2⟩ := info_parts infoIn
 rcases hs.open with ⟨a, c, rfl, hl1, hl2, hl3, hop⟩
 have HS := hid hs
 have he0 : ∀ w, (binOp .eql 28 (.slice none 0 0) (.slice none 0 0)).run Tryz.prog w = .ok (.bool true) w := fun w => by kernel_rfl
 have he1 : ∀ ad n c w, (binOp .eql 28 (.slice (some ad) n c) (.slice none 0 0)).run Tryz.prog w = .ok (.bool false) w := fun ad n c w => by kernel_rfl
 cases a with
 | none =>
  rcases hs with ⟨a', c', he, rfl, hac, _⟩ | ⟨_, b, off, c', he, _⟩
  ·cases he
   obtain rfl := hac rfl
   go_enter Tryz.func36, Tryz.ntmps36
   go_wp2
   go_ret
   exact ⟨_, rfl, Owns.nil _ _, Below.refl _ _⟩
  ·cases he
 | some ad =>
  clear hs hop
  have c1 : ([] : List IntentV).length + L.length ≤ maxLen := by unfold maxLen; simp; omega
  have c2 : (([] : List IntentV).length + L.length) * 32 ≤ 140737488355328 := by simp; omega
  go_enter Tryz.func36, Tryz.ntmps36
  go_wp2_with (at_builtin; go_loud (refine append_rows rfl _ _ 28 rfl w.heap.size 54 i0 _ 32 Tryz.underlying28 hi hz0 hz1 hz2 rfl (by decide) encIn_len encIn_one _ [] rfl (World.ownsRow_made w #[] 0 (Nat.le_refl _) (by decide) rfl) _ L rfl (HS.out.below ((Below.refl _ _).alloc (Nat.le_refl _) _)) c1 c2 (by simp) ?_); intro v' w1 hown hgrow)
  go_ret
  exact ⟨v', rfl, by simpa using hown, ((Below.refl _ _).alloc (Nat.le_refl _) _).grown hgrow (by simp) (fun k e => by
   have e' : some k = some w.heap.size := e.symm.trans rfl
   cases e'; exact Nat.le_refl _)⟩

set_option maxHeartbeats 400000 in
theorem cloneK_any (s : Value) (L : List KeptV) (w : World) (hn : L.length ≤ 1000000) (hs : RowOf 8 encKp w s L) :
  Calls Tryz.prog 37 #[s] w fun e w' => ∃ v, e = .returned v ∧ OwnK w' w.heap.size v L ∧ Below w.heap.size w w' := by
 obtain ⟨i0, hi, hz0, hz1, hz2⟩ := info_parts infoKp
 rcases hs.open with ⟨a, c, rfl, hl1, hl2, hl3, hop⟩
 have HS := hid hs
 have he0 : ∀ w, (binOp .eql 29 (.slice none 0 0) (.slice none 0 0)).run Tryz.prog w = .ok (.bool true) w := fun w => by kernel_rfl
 have he1 : ∀ ad n c w, (binOp .eql 29 (.slice (some ad) n c) (.slice none 0 0)).run Tryz.prog w = .ok (.bool false) w := fun ad n c w => by kernel_rfl
 cases a with
 | none =>
  rcases hs with ⟨a', c', he, rfl, hac, _⟩ | ⟨_, b, off, c', he, _⟩
  ·cases he
   obtain rfl := hac rfl
   go_enter Tryz.func37, Tryz.ntmps37
   go_wp2
   go_ret
   exact ⟨_, rfl, Owns.nil _ _, Below.refl _ _⟩
  ·cases he
 | some ad =>
  clear hs hop
  have c1 : ([] : List KeptV).length + L.length ≤ maxLen := by unfold maxLen; simp; omega
  have c2 : (([] : List KeptV).length + L.length) * 56 ≤ 140737488355328 := by simp; omega
  go_enter Tryz.func37, Tryz.ntmps37
  go_wp2_with (at_builtin; go_loud (refine append_rows rfl _ _ 29 rfl w.heap.size 51 i0 _ 56 Tryz.underlying29 hi hz0 hz1 hz2 rfl (by decide) encKp_len encKp_one _ [] rfl (World.ownsRow_made w #[] 0 (Nat.le_refl _) (by decide) rfl) _ L rfl (HS.out.below ((Below.refl _ _).alloc (Nat.le_refl _) _)) c1 c2 (by simp) ?_); intro v' w1 hown hgrow)
  go_ret
  exact ⟨v', rfl, by simpa using hown, ((Below.refl _ _).alloc (Nat.le_refl _) _).grown hgrow (by simp) (fun k e => by
   have e' : some k = some w.heap.size := e.symm.trans rfl
   cases e'; exact Nat.le_refl _)⟩
end Go.Proofs.YtgcajfglidflnaaGreatDoor

/- conf.Of: a row's group. -/
namespace Go.Proofs.YtgcajfglidflnaaGreatDoor
open Go.RowKit Go.Shelf

def ofF (L : List Int) : Nat → Int := fun i => L.getD i 0
def ofG (L : List Int) : Bool := L.getD 13 0 == 1
def ofB (L : List Int) : Bool := decide (13 < L.length) && (withB (L.getD 13 0) 0 1 && checkB (ofF L) (L.drop 14))
/-- The cells of a group in the making: the numbers that were taken. -/
def part (L : List Int) (pre : List (Fin 13)) : Nat → Int := fun i => if i ∈ pre.map Fin.val then L.getD i 0 else 0
def zf : Nat → Int := fun _ => 0
/-- What a store is of any type but a group's: laid open; of a group it stays. -/
theorem store_other2 (t : TypeId) (a : Addr) (v : Value) (_h : t ≠ 27) (h0 : ∀ w, (sizeOf t).run Tryz.prog w = .ok v.cells.size w) (w : World) : (storeVar t a v).run Tryz.prog w = (storeCells a v.cells.toList).run Tryz.prog w := by
 unfold storeVar
 simp [h0]
attribute [-go_sem] loadVar storeVar
attribute [local go_sem] load_other2 store_other2
attribute [local go_sem] Oper.semAt_some
theorem res_conf_tmp {fn : Func} {tmps : Array Value} {r q : Tmp} {b : Nat} {f : Nat → Int} {g : Bool} {m u : Value} {W : World} (hres : fn.results = #[.cell r 27, .tmp q]) (h : tmps.getD r undef = .pointer (some ⟨b, 0, none⟩)) (hq : tmps.getD q undef = u) (hb : W.heap[b]? = some (.cells (confA f g m) 27)) :
  (results fn tmps).run Tryz.prog W = .ok (.tuple #[.agg (confA f g m), u]) W := by
 have hl := load_conf hb
 rw [Array.getD_eq_getD_getElem?] at h hq
 simp [results, hres, go_sem, h, hq, hl]
theorem Limits.below' {w w' : World} (h : Limits w) (hb : Below w.heap.size w w') : Limits w' := h.below hb
def upd {α : Type} (f : Nat → α) (j : Nat) (v : α) : Nat → α := fun i => if i = j then v else f i
theorem confA_set (f : Nat → Int) (g : Bool) (m : Value) (x : Nat) (hx : x < 13) (v : Int) : (confA f g m).setIfInBounds x (.int .i64 v) = confA (upd f x v) g m := by
 have h13 : x = 0 ∨ x = 1 ∨ x = 2 ∨ x = 3 ∨ x = 4 ∨ x = 5 ∨ x = 6 ∨ x = 7 ∨ x = 8 ∨ x = 9 ∨ x = 10 ∨ x = 11 ∨ x = 12 := by omega
 rcases h13 with rfl | rfl | rfl | rfl | rfl | rfl | rfl | rfl | rfl | rfl | rfl | rfl | rfl <;> rfl
theorem confA_congr {f f' : Nat → Int} (h : ∀ i, i < 13 → f i = f' i) (g : Bool) (m : Value) : confA f g m = confA f' g m := by
 unfold confA
 rw [h 0 (by omega), h 1 (by omega), h 2 (by omega), h 3 (by omega), h 4 (by omega), h 5 (by omega), h 6 (by omega), h 7 (by omega), h 8 (by omega), h 9 (by omega), h 10 (by omega), h 11 (by omega), h 12 (by omega)]
theorem part_snoc (L : List Int) (pre : List (Fin 13)) (x : Fin 13) : part L (pre ++ [x]) = upd (part L pre) x.val (L.getD x.val 0) := by
 funext i
 unfold part upd
 by_cases h : i = x.val
 ·subst h; simp
 ·rw [if_neg h]
  have : (i ∈ (pre ++ [x]).map Fin.val) ↔ (i ∈ pre.map Fin.val) := by
   rw [List.map_append, List.mem_append]
   simp [h]
  simp only [this]
theorem part_all (L : List Int) : ∀ i, i < 13 → part L (List.finRange 13) i = ofF L i := by
 intro i hi
 unfold part ofF
 rw [if_pos]
 exact List.mem_map.2 ⟨⟨i, hi⟩, List.mem_finRange _, rfl⟩
/-- What is behind some numbers: what 's[k:]' is. -/
theorem rowI_drop {V : World} {b o c k : Nat} {L : List Int} (h : RowAt 1 encI V b o L) (hb : b < V.heap.size) (hc : L.length ≤ c) (hc2 : c ≤ 9223372036854775807) (hk : k ≤ L.length) :
  RowOf 1 encI V (.slice (if c = k then some ⟨b, o, none⟩ else some ⟨b, o + k, none⟩) (L.length - k) (c - k)) (L.drop k) := by
 by_cases h0 : L.length = k
 ·refine .inl ⟨_, c - k, by rw [h0, Nat.sub_self], by simp [h0], fun hn => ?_, by unfold maxLen; omega⟩
  split at hn <;> cases hn
 ·have hck : ¬ c = k := by omega
  rw [if_neg hck]
  refine .inr ⟨by simp; omega, b, o + k, c - k, by simp, by simp; omega, by unfold maxLen; omega, hb, ?_⟩
  intro i x hi j v hj
  rw [List.getElem?_drop] at hi
  have := h (k + i) x hi j v hj
  rw [← this]
  congr 2
  omega

/-- What Of ends with. -/
def OfEnd (L : List Int) (w : World) (e : Ending) (w' : World) : Prop :=
 Below w.heap.size w w' ∧ ((ofB L = true ∧ ∃ mv, e = .returned (.tuple #[.agg (confA (ofF L) (ofG L) mv), .int .i64 0]) ∧ OwnI w' w.heap.size mv (L.drop 14)) ∨ (ofB L = false ∧ ∃ f g a n c, e = .returned (.tuple #[.agg (confA f g (.slice a n c)), .int .i64 70])))

/-- Between two rounds of Of's loop. -/
def OfI (L : List Int) (s : Value) (w : World) (pre : List (Fin 13)) (W : World) : Prop :=
 W.heap[w.heap.size + 1]? = some (.cells (confA (part L pre) false (.slice none 0 0)) 27) ∧ W.heap[w.heap.size]? = some (.cells #[s] 25) ∧ Below w.heap.size w W ∧ w.heap.size + 2 ≤ W.heap.size
theorem OfI.own {L : List Int} {s : Value} {w : World} {B : Nat} (hB : w.heap.size ≤ B) : OwnFrom B (OfI L s w) := by
 rintro pre W W' row ⟨h1, h2, h3, h4⟩ hg hr
 exact ⟨own_blk h1 hg (fun r e => (hr r e).2), own_blk h2 hg (fun r e => (hr r e).2), h3.grown hg h3.size (fun k e => Nat.le_trans hB (hr k e).1), Nat.le_trans h4 hg.size⟩
def OfA (s : Value) (w : World) (x : Fin 13) (a' : Act) (_ : World) : Prop :=
 ∃ (u7 u8 u9 u10 u11 u12 u13 u14 u15 u16 u17 u18 u19 u20 u21 u22 u23 u24 u25 u26 u27 u28 u29 u30 u31 u32 u33 u34 u35 u36 u37 u38 u39 u40 u41 u42 u43 u44 u45 u46 u47 u48 : Value), a' = { tmps := #[s, .pointer (some ⟨w.heap.size, 0, none⟩), .pointer (some ⟨w.heap.size + 1, 0, none⟩), .int .i64 0, .int .i64 13, .int .i64 (x.val : Nat), .pointer (some ⟨w.heap.size + 1, x.val, none⟩), u7, u8, u9, u10, u11, u12, u13, u14, u15, u16, u17, u18, u19, u20, u21, u22, u23, u24, u25, u26, u27, u28, u29, u30, u31, u32, u33, u34, u35, u36, u37, u38, u39, u40, u41, u42, u43, u44, u45, u46, u47, u48], defers := [] }
theorem OfA.own {s : Value} {w : World} {B : Nat} (x : Fin 13) (a' : Act) : OwnFrom B (fun (_ : Unit) W => OfA s w x a' W) := by
 rintro _ W W' row h _ _
 exact h

theorem confA_set13 (f : Nat → Int) (g b : Bool) (m : Value) : (confA f g m).setIfInBounds 13 (.bool b) = confA f b m := rfl
theorem confA_set14 (f : Nat → Int) (g : Bool) (m m' : Value) : (confA f g m).setIfInBounds 14 m' = confA f g m' := rfl
/-- What holds behind the group's last two fields. -/
def OfR (L : List Int) (s : Value) (w : World) (D : Nat) (b : Bool) : Exit → Act → World → Prop
 | .normal, a', V => ∃ (mv : Value) (u5 u6 u7 u8 u9 u10 u11 u12 u13 u14 u15 u16 u17 u18 u19 u20 u21 u22 u23 u24 u25 u26 u27 u28 u29 u30 u31 u32 u33 u34 u35 u36 u37 u38 u39 u40 u41 u42 u43 u44 u45 u46 u47 u48 : Value), a' = { tmps := #[s, .pointer (some ⟨w.heap.size, 0, none⟩), .pointer (some ⟨w.heap.size + 1, 0, none⟩), .int .i64 0, .int .i64 13, u5, u6, u7, u8, u9, u10, u11, u12, u13, u14, u15, u16, u17, u18, u19, u20, u21, u22, u23, u24, u25, u26, u27, u28, u29, u30, u31, u32, u33, u34, u35, u36, u37, u38, u39, u40, u41, u42, u43, u44, u45, u46, u47, u48], defers := [{ target := .collected D, args := #[] }] } ∧
   V.heap[w.heap.size + 1]? = some (.cells (confA (ofF L) b mv) 27) ∧ OwnI V w.heap.size mv (L.drop 14) ∧ Below w.heap.size w V ∧ V.heap[D]? = some (.deferred (some []))
 | _, _, _ => False

theorem owns_at {α : Type} {k : Nat} {e t : TypeId} {enc : α → List Value} {W : World} {base T : Nat} {v : Value} {l : List α} {c : Array Value} (h : Owns k e enc W base v l) (hT : W.heap[T]? = some (.cells c t)) (hne : e ≠ t) (j : Nat) (u : Value) : Owns k e enc (W.setCell ⟨T, j, none⟩ u) base v l := by
 refine ownsRow_setCell_other h (fun e' => ?_) u
 obtain ⟨_, ⟨rfl, _⟩ | ⟨g, cap, cur, rfl, _, hgc, _⟩⟩ := h
 ·cases e'
 ·have e'' : g = T := by cases e'; rfl
  subst e''
  rw [hgc] at hT; cases hT; exact hne rfl
theorem of_facts {L : List Int} {w W x1 : World} {D : Nat} {b : Bool} {mv : Value} (i1 : W.heap[w.heap.size + 1]? = some (.cells (confA (ofF L) false (.slice none 0 0)) 27)) (i3 : Below w.heap.size w W) (hx : Below W.heap.size W x1)
  (ho : OwnI x1 w.heap.size mv (L.drop 14)) (hk : W.heap[D]? = some (.deferred (some []))) (l1 : w.heap.size + 1 < W.heap.size) (hD : w.heap.size + 1 ≠ D) :
  ((x1.setCell ⟨w.heap.size + 1, 13, none⟩ (.bool b)).setCell ⟨w.heap.size + 1, 14, none⟩ mv).heap[w.heap.size + 1]? = some (.cells (confA (ofF L) b mv) 27) ∧
  OwnI ((x1.setCell ⟨w.heap.size + 1, 13, none⟩ (.bool b)).setCell ⟨w.heap.size + 1, 14, none⟩ mv) w.heap.size mv (L.drop 14) ∧
  Below w.heap.size w ((x1.setCell ⟨w.heap.size + 1, 13, none⟩ (.bool b)).setCell ⟨w.heap.size + 1, 14, none⟩ mv) ∧
  ((x1.setCell ⟨w.heap.size + 1, 13, none⟩ (.bool b)).setCell ⟨w.heap.size + 1, 14, none⟩ mv).heap[D]? = some (.deferred (some [])) := by
 have j1 := (hx.block _ l1).trans i1
 have j2 := blk_set j1 13 (.bool b)
 rw [confA_set13] at j2
 have j3 := blk_set j2 14 mv
 rw [confA_set14] at j3
 refine ⟨j3, owns_at (owns_at ho j1 (by decide) 13 _) j2 (by decide) 14 _, ?_, ?_⟩
 ·exact ((i3.trans (hx.mono i3.size)).setCell (p := ⟨w.heap.size + 1, 13, none⟩) (by simp) _).setCell (p := ⟨w.heap.size + 1, 14, none⟩) (by simp) _
 ·exact blk_other (blk_other ((hx.block _ (blk_lt hk)).trans hk) (p := ⟨w.heap.size + 1, 13, none⟩) (by dsimp only; omega) _) (p := ⟨w.heap.size + 1, 14, none⟩) (by dsimp only; omega) _

set_option maxRecDepth 100000 in
set_option maxHeartbeats 4000000 in
theorem cof_any (s : Value) (L : List Int) (w : World) (hs : RowOf 1 encI w s L) (hlen : L.length ≤ 100000) (hL : Limits w) :
  Calls Tryz.prog 93 #[s] w fun e w' => OfEnd L w e w' := by
 have hmf := mkfunc
 obtain ⟨sa, sc, rfl, hs1, hs2, hs3, hop⟩ := hs.open
 obtain ⟨W2, hW2⟩ : ∃ W2, W2 = (w.alloc (.cells #[.slice sa L.length sc] 25)).alloc (.cells (confA zf false (.slice none 0 0)) 27) := ⟨_, rfl⟩
 have hz2 : W2.heap.size = w.heap.size + 2 := by rw [hW2]; simp
 have hB2 : Below w.heap.size w W2 := by rw [hW2]; exact ((Below.refl _ _).alloc (Nat.le_refl _) _).alloc (by simp) _
 have b0 : W2.heap[w.heap.size]? = some (.cells #[.slice sa L.length sc] 25) := by rw [hW2]; exact blk_alloc (heap_new _ _) _
 have b1 : W2.heap[w.heap.size + 1]? = some (.cells (confA zf false (.slice none 0 0)) 27) := by rw [hW2]; exact heap_new2 _ _ _
 have HW2 := hid (show W2 = (w.alloc (.cells #[.slice sa L.length sc] 25)).alloc (.cells #[.int .i64 0, .int .i64 0, .int .i64 0, .int .i64 0, .int .i64 0, .int .i64 0, .int .i64 0, .int .i64 0, .int .i64 0, .int .i64 0, .int .i64 0, .int .i64 0, .int .i64 0, .bool false, .slice none 0 0] 27) from hW2)
 have HB2 := hid hB2
 have HB0 := hid b0
 have HB1 := hid b1
 have HOP := hid hop
 have HLL := hid hL
 clear hW2 hB2 hop hL
 refine (callsIn_wide (n := 4)).1 ?_
 refine callsIn_of_wp_marks Tryz.func93 rfl trivial ?_ rfl
 simp only [Tryz.ntmps93, List.size_toArray, List.length_cons, List.length_nil, Nat.reduceAdd, Nat.reduceSub, Array.replicate_succ, Array.replicate_zero, List.push_toArray, List.append_toArray, List.nil_append, List.cons_append]
 refine wpIn_wide.2 ?_
 obtain ⟨x0, xf, xl⟩ := blk1 b0
 by_cases h13 : L.length ≤ 13
 ·have h13I : (L.length : Int) ≤ 13 := by omega
  have hst : (storeVar 27 ⟨w.heap.size + 1, 0, none⟩ (.agg (confA zf false (.slice none 0 0)))).run Tryz.prog W2 = .ok () W2 := by
   rw [run_storeVar_row W2 (w.heap.size + 1) 27 27 _ (confA zf false (.slice none 0 0)) b1 (conf_size _ _ _) rfl (by simp [confA, Value.oneCell']), setRow_self _ _ _ _ _ b1]
  have hld := load_conf b1
  have hno : ofB L = false := by unfold ofB; simp; omega
  rw [HW2.out] at x0 xf xl hst hld
  unfold confA zf at hst hld
  clear b0 b1
  go_wp2
  rw [← HW2.out]
  exact ⟨_, res_conf_tmp rfl rfl rfl HB1.out, HB2.out, .inr ⟨hno, _, _, _, _, _, rfl⟩⟩
 ·have h13I : ¬ (L.length : Int) ≤ 13 := by omega
  obtain ⟨q, hq⟩ := get_lt (l := L) (k := 13) (by omega)
  have hqd : L.getD 13 0 = q := by rw [List.getD_eq_getElem?_getD, hq]; rfl
  obtain ⟨bs, os, rfl, hbs, hrs⟩ := HOP.out (by omega)
  have g13 : W2.cell? ⟨bs, os + 13, none⟩ = some (.int .i64 q) := rowN1 (hrs.below HB2.out hbs) hq
  have hlt13 : (13 : Int) < (L.length : Int) := by omega
  have hbs2 : bs < W2.heap.size := by omega
  obtain ⟨bb, hbb⟩ : ∃ bb, withB q 0 1 = bb := ⟨_, rfl⟩
  have HC := hid (cwithin_any q 0 1 bb hbb W2)
  have HBW := hid hbb
  have HQD := hid hqd
  have HRS := hid hrs
  rw [HW2.out] at x0 xf xl g13 hbs2
  clear b0 b1 hbb hqd hrs hq
  go_wp2_with fail
  rw [← HW2.out]
  refine HC.out.mono ?_
  rintro e w3 ⟨rfl, hb3⟩
  have hz3 := hb3.size
  have B0 := hid (blk_below HB0.out hb3 (by omega))
  have B1 := hid (blk_below HB1.out hb3 (by omega))
  have HB3 := hid (HB2.out.trans (hb3.mono (by omega)))
  clear hb3 g13 hbs2 x0 xf xl
  cases bb with
  | false =>
   have hst : (storeVar 27 ⟨w.heap.size + 1, 0, none⟩ (.agg (confA zf false (.slice none 0 0)))).run Tryz.prog w3 = .ok () w3 := by
    rw [run_storeVar_row w3 (w.heap.size + 1) 27 27 _ (confA zf false (.slice none 0 0)) B1.out (conf_size _ _ _) rfl (by simp [confA, Value.oneCell']), setRow_self _ _ _ _ _ B1.out]
   have hld := load_conf B1.out
   have hno : ofB L = false := by unfold ofB; rw [HQD.out, HBW.out]; simp
   unfold confA zf at hst hld
   go_wp2
   exact ⟨_, res_conf_tmp rfl rfl rfl B1.out, HB3.out, .inr ⟨hno, _, _, _, _, _, rfl⟩⟩
  | true =>
   have HF := hid (fields_any (w.heap.size + 1) w3)
   go_wp2_with fail
   refine HF.out.mono ?_
   rintro e w4 ⟨rfl, hw4⟩
   have hz4 : w4.heap.size = w3.heap.size + 1 := by rw [hw4]; simp
   have hb4 : Below w3.heap.size w3 w4 := by rw [hw4]; exact (Below.refl _ _).alloc (Nat.le_refl _) _
   have C0 := hid (blk_below B0.out hb4 (by omega))
   have C1 := hid (blk_below B1.out hb4 (by omega))
   have HB4 := hid (HB3.out.trans (hb4.mono (by omega)))
   have q4 : w4.heap[w3.heap.size]? = some (.cells #[.pointer (some ⟨w.heap.size + 1, 0, none⟩)] 120) := by rw [hw4]; exact heap_new _ _
   have HSQ := hid (fields_stops 3 (by omega) w3.heap.size (w.heap.size + 1) (fun k => k < w4.heap.size ∧ k ≠ w.heap.size + 1) w4 (fun _ h => h.1) ⟨by omega, by omega⟩ (blk1 q4).1)
   clear hw4 hb4 q4
   go_wp2
   refine (wpIn_wide (n := 4)).1 ?_
   refine wpIn_rangeFunc_ownH rfl (by omega) (gf := 72) (lb := #[.pointer (some ⟨w3.heap.size, 0, none⟩)]) rfl trivial (enters_of Tryz.func72 (by kernel_rfl) rfl)
    HSQ.out (fun h k => h.trans k) (fun W l o o' hl _ _ _ => (On.refl _ _).putObj (by omega) _) (Below.refl _ _) (fun _ => rfl)
    (OfI L (.slice (some ⟨bs, os, none⟩) L.length sc) w) (fun _ _ _ => False) (OfI.own (by omega)) (fun _ _ _ _ _ h _ _ => h.elim) ⟨C1.out, C0.out, HB4.out, by omega⟩
    (OfA (.slice (some ⟨bs, os, none⟩) L.length sc) w)
    (fun x a' => OfA.own x a') ?assign ?body ?done ?stop
   case assign =>
    rintro l pre x W K hI hK
    have HK := hid hK
    clear hK
    simp only [itemF]
    gi_wp2
    exact HK.out _ _ ((KeepsOthers.refl _).from _) (On.refl _ _) hI ⟨_, _, _, _, _, _, _, _, _, _, _, _, _, _, _, _, _, _, _, _, _, _, _, _, _, _, _, _, _, _, _, _, _, _, _, _, _, _, _, _, _, _, rfl⟩
   case body =>
    rintro l pre ⟨x, hx13⟩ a' W hl ⟨r', hr'⟩ ⟨i1, i2, i3, i4⟩ ⟨u7, u8, u9, u10, u11, u12, u13, u14, u15, u16, u17, u18, u19, u20, u21, u22, u23, u24, u25, u26, u27, u28, u29, u30, u31, u32, u33, u34, u35, u36, u37, u38, u39, u40, u41, u42, u43, u44, u45, u46, u47, u48, rfl⟩ hlt
    dsimp only
    obtain ⟨y, hy⟩ := get_lt (l := L) (k := x) (by omega)
    have hyd : L.getD x 0 = y := by rw [List.getD_eq_getElem?_getD, hy]; rfl
    have gx : W.cell? ⟨bs, os + x, none⟩ = some (.int .i64 y) := rowN1 (HRS.out.below i3 hbs) hy
    have hxL : (x : Int) < (L.length : Int) := by omega
    obtain ⟨x0, xf, xl⟩ := blk1 i2
    have c1 : ∃ v, W.cell? ⟨w.heap.size + 1, x, none⟩ = some v := by
     rw [blk_cell i1]
     exact ⟨_, Array.getElem?_eq_getElem (show x < (confA (part L pre) false (.slice none 0 0)).size by show x < 15; omega)⟩
    obtain ⟨v1, c1⟩ := c1
    have f1 := blk_free i1 x
    have l1 := blk_lt i1
    have hbsW : bs < W.heap.size := by have := i3.size; omega
    have I1 := hid i1
    have I2 := hid i2
    have I3 := hid i3
    have HYD := hid hyd
    clear i1 i2 i3 hy hyd hr'
    gi_wp2
    refine ⟨(KeepsOthers.setCell _ _ _).from _, (On.refl _ _).setCell (fun h => h.2 rfl) _, ?_, blk_other I2.out (p := ⟨w.heap.size + 1, x, none⟩) (by simp) _, I3.out.setCell (p := ⟨w.heap.size + 1, x, none⟩) (by simp) _, by simpa [World.setCell] using i4⟩
    rw [part_snoc, ← confA_set _ _ _ x hx13, HYD.out]
    exact blk_set I1.out x _
   case done =>
    rintro D xs W hD hxs ⟨i1, i2, i3, i4⟩ hK
    rw [hxs, confA_congr (part_all L)] at i1
    have I1 := hid i1
    have I2 := hid i2
    have I3 := hid i3
    have HK := hid hK
    have hDD : w.heap.size ≤ D := by omega
    obtain ⟨x0, xf, xl⟩ := blk1 i2
    have c13 : W.cell? ⟨w.heap.size + 1, 13, none⟩ = some (.bool false) := blk_cell i1 13
    have c14 : W.cell? ⟨w.heap.size + 1, 14, none⟩ = some (.slice none 0 0) := blk_cell i1 14
    have f13 := blk_free i1 13
    have f14 := blk_free i1 14
    have l1 := blk_lt i1
    have gq : W.cell? ⟨bs, os + 13, none⟩ = some (.int .i64 q) := by
     obtain ⟨q', hq'⟩ := get_lt (l := L) (k := 13) (by omega)
     have e1 : L.getD 13 0 = q' := by rw [List.getD_eq_getElem?_getD, hq']; rfl
     rw [HQD.out] at e1
     subst e1
     exact rowN1 (HRS.out.below i3 hbs) hq'
    have hbsW : bs < W.heap.size := by have := i3.size; omega
    have h14 : 14 ≤ L.length := by omega
    have h14I : (14 : Int) ≤ (L.length : Int) := by omega
    clear i1 i2 i3 hK hxs
    have HDL : (L.drop 14).length ≤ 17592186043904 := by simp; omega
    have HTL := hid (show ∀ V, Below w.heap.size w V → RowOf 1 encI V (.slice (if sc = 14 then some ⟨bs, os, none⟩ else some ⟨bs, os + 14, none⟩) (L.length - 14) (sc - 14)) (L.drop 14) from fun V hb => rowI_drop (HRS.out.below hb hbs) (Nat.lt_of_lt_of_le hbs hb.size) hs3 hs2 h14)
    obtain ⟨A, hA⟩ : ∃ A : Option Addr, (if sc = 14 then some (⟨bs, os, none⟩ : Addr) else some ⟨bs, os + 14, none⟩) = A := ⟨_, rfl⟩
    rw [hA] at HTL
    have hw14 : IntKind.i64.wrap 14 = 14 := by decide
    go_wp2_with fail
    refine wp_mono (Q := OfR L (.slice (some ⟨bs, os, none⟩) L.length sc) w D (q == 1)) ?region ?rest
    case region =>
     go_region_with (refine (cloneI_any _ (L.drop 14) _ HDL (HTL.out _ (below_drewN I3.out 1))).mono ?_; rintro e x1 ⟨v, rfl, hown, hbt⟩; have hbx := (below_drewN (Below.refl W.heap.size W) 1).trans hbt; have HBX := hid hbx; have HOX := hid (hown.mono (show w.heap.size ≤ W.drew.heap.size from by have := I3.out.size; exact this)); obtain ⟨va, vn, vc, rfl⟩ := hown.shape; have d13 := (hbx.cell (p := ⟨w.heap.size + 1, 13, none⟩) l1).trans c13; have d14 := (hbx.cell (p := ⟨w.heap.size + 1, 14, none⟩) l1).trans c14; have e13 := (hbx.frozen (p := ⟨w.heap.size + 1, 13, none⟩) l1).trans f13; have e14 := (hbx.frozen (p := ⟨w.heap.size + 1, 14, none⟩) l1).trans f14; have gqx := (hbx.cell (p := ⟨bs, os + 13, none⟩) hbsW).trans gq; have x0x := (hbx.cell (p := ⟨w.heap.size, 0, none⟩) xl).trans x0; have lx1 : w.heap.size + 1 < x1.heap.size := Nat.lt_of_lt_of_le l1 hbx.size; have lxb : bs < x1.heap.size := Nat.lt_of_lt_of_le hbsW hbx.size; clear hbt hbx hown)
     all_goals exact ⟨_, _, _, _, _, _, _, _, _, _, _, _, _, _, _, _, _, _, _, _, _, _, _, _, _, _, _, _, _, _, _, _, _, _, _, _, _, _, _, _, _, _, _, _, _, rfl, of_facts I1.out I3.out HBX.out HOX.out HK.out l1 (by omega)⟩
    case rest =>
     clear x0 xf xl c13 c14 f13 f14 l1 gq hbsW hw14 hA
     intro e a' V hR
     match e, hR with
     | .normal, hR =>
     obtain ⟨mv, u5, u6, u7, u8, u9, u10, u11, u12, u13, u14, u15, u16, u17, u18, u19, u20, u21, u22, u23, u24, u25, u26, u27, u28, u29, u30, u31, u32, u33, u34, u35, u36, u37, u38, u39, u40, u41, u42, u43, u44, u45, u46, u47, u48, rfl, v1, hov, hbv, hkv⟩ := hR
     dsimp only
     have V1 := hid v1
     have HOV := hid hov
     have HBV := hid hbv
     have HKV := hid hkv
     clear v1 hov hbv hkv
     obtain ⟨va, vn, vc, hmv⟩ := HOV.out.shape
     have hld := load_conf V1.out
     obtain ⟨cb, hcb'⟩ : ∃ cb, checkB (ofF L) (L.drop 14) = cb := ⟨_, rfl⟩
     have hch := ccheck_any (ofF L) (q == 1) mv (L.drop 14) V (HOV.out.row encI_len (by decide)) (HLL.out.below' HBV.out)
     rw [hcb'] at hch
     have HCH := hid hch
     have HCB := hid hcb'
     have HMV := hid hmv
     clear hch hcb' hmv
     go_wp2_with fail
     refine HCH.out.mono ?_
     rintro e x2 ⟨rfl, hb2⟩
     have V2 := hid (blk_below V1.out hb2 (blk_lt V1.out))
     have HOV2 := hid (HOV.out.below hb2)
     have HBV2 := hid (HBV.out.trans (hb2.mono HBV.out.size))
     have HKV2 := hid ((hb2.block _ (blk_lt HKV.out)).trans HKV.out)
     clear hb2 hld
     cases cb with
     | true =>
      have hok : ofB L = true := by unfold ofB; rw [HQD.out, HBW.out, HCB.out]; simp; omega
      have HOKB := hid hok
      have hst : (storeVar 27 ⟨w.heap.size + 1, 0, none⟩ (.agg (confA (ofF L) (q == 1) mv))).run Tryz.prog x2 = .ok () x2 := by
       rw [run_storeVar_row x2 (w.heap.size + 1) 27 27 _ (confA (ofF L) (q == 1) mv) V2.out (conf_size _ _ _) rfl (by rw [HMV.out]; simp [confA, Value.oneCell']), setRow_self _ _ _ _ _ V2.out]
      have hld := load_conf V2.out
      have hz0 : ((0 : Int) == 0) = true := rfl
      simp only [okN, if_true]
      clear hok
      go_wp2
      refine ⟨by simp, .inl ⟨_, _, rfl, run_takeDeferred HKV2.out, ?_⟩⟩
      refine ⟨_, res_conf_tmp rfl rfl rfl (blk_put V2.out HKV2.out rfl _), below_put HBV2.out hDD _, .inl ⟨HOKB.out, mv, ?_, ?_⟩⟩
      ·unfold ofG; rw [HQD.out]; rfl
      ·exact Owns.own HOV2.out (grownBy_putObj' x2 D (.deferred none)) (fun r e => by cases e; exact ⟨_, HKV2.out, rfl⟩)
     | false =>
      have hno : ofB L = false := by unfold ofB; rw [HCB.out]; simp
      have HNO := hid hno
      have hst : (storeVar 27 ⟨w.heap.size + 1, 0, none⟩ (.agg (confA zf false (.slice none 0 0)))).run Tryz.prog x2 = .ok () (x2.setRow (w.heap.size + 1) (confA zf false (.slice none 0 0))) := by
       rw [run_storeVar_row x2 (w.heap.size + 1) 27 27 _ (confA zf false (.slice none 0 0)) V2.out (conf_size _ _ _) rfl (by simp [confA, Value.oneCell'])]
      unfold confA zf at hst
      simp only [okN]
      clear hno
      go_wp2
      have r1 := setRow_heap x2 (w.heap.size + 1) _ (confA zf false (.slice none 0 0)) _ _ V2.out
      have r2 := (setRow_other x2 (w.heap.size + 1) D (confA zf false (.slice none 0 0)) (by omega)).trans HKV2.out
      refine ⟨by simp, .inl ⟨_, _, rfl, run_takeDeferred r2, ?_⟩⟩
      exact ⟨_, res_conf_tmp rfl rfl rfl (blk_put r1 r2 rfl _), below_put (below_setRow HBV2.out (by omega) _) hDD _, .inr ⟨HNO.out, _, _, _, _, _, rfl⟩⟩
   case stop =>
    rintro D c pre W hD hpre h _
    exact h.elim
end Go.Proofs.YtgcajfglidflnaaGreatDoor

/- A brain of the call's own, as a deed finds it and leaves it. -/
namespace Go.Proofs.YtgcajfglidflnaaGreatDoor
open Go.RowKit Go.Shelf

structure BrainV where
 f : Nat → Int
 g : Nat → Bool
 M : List Int
 I : List IntentV
 K : List KeptV
/-- A block of the call's own holds a brain, whose rows are the call's own too. -/
structure BO (base : World) (b : Nat) (B : BrainV) (mv iv kv : Value) (W : World) : Prop where
 box : BB W b (brT B.f B.g mv iv kv)
 hb : base.heap.size ≤ b
 rm : TRow 3 1 encI W mv B.M
 ri : OwnN W base.heap.size iv B.I
 rk : OwnK W base.heap.size kv B.K
 bel : Below base.heap.size base W
/-- What a deed leaves alone. -/
structure KeepsX (b : Nat) (W W' : World) : Prop where
 size : W.heap.size ≤ W'.heap.size
 block : ∀ (k : Nat) (c : Array Value) (t : TypeId), W.heap[k]? = some (.cells c t) → k ≠ b → t ≠ 54 → t ≠ 51 → W'.heap[k]? = some (.cells c t)
 others : KeepsOthers W W'
theorem KeepsX.refl (b : Nat) (W : World) : KeepsX b W W := ⟨Nat.le_refl _, fun _ _ _ h _ _ _ => h, KeepsOthers.refl _⟩
theorem KeepsX.trans {b : Nat} {W V U : World} (h : KeepsX b W V) (k : KeepsX b V U) : KeepsX b W U :=
 ⟨Nat.le_trans h.size k.size, fun i c t hi h1 h2 h3 => k.block i c t (h.block i c t hi h1 h2 h3) h1 h2 h3, h.others.trans k.others⟩
theorem KeepsX.below {b : Nat} {W V : World} (h : Below W.heap.size W V) : KeepsX b W V := ⟨h.size, fun _ _ _ hi _ _ _ => blk_below hi h (blk_lt hi), keeps_below h⟩
theorem KeepsX.set {b : Nat} {W V : World} (h : KeepsX b W V) (j : Nat) (u : Value) : KeepsX b W (V.setCell ⟨b, j, none⟩ u) :=
 ⟨by simpa [World.setCell] using h.size, fun k c t hk h1 h2 h3 => blk_other (h.block k c t hk h1 h2 h3) (p := ⟨b, j, none⟩) h1 u, keeps_set h.others _ _⟩
theorem KeepsX.drew {b : Nat} {W V : World} (h : KeepsX b W V) (n : Nat) : KeepsX b W (V.drewN n) := h.trans (KeepsX.below (below_drewN (Below.refl _ _) n))
theorem KeepsX.drew1 {b : Nat} {W V : World} (h : KeepsX b W V) : KeepsX b W V.drew := h.drew 1
section
variable {base : World} {b : Nat} {B : BrainV} {mv iv kv : Value} {W W' : World}
theorem BO.below (h : BO base b B mv iv kv W) (hb : Below W.heap.size W W') : BO base b B mv iv kv W' :=
 ⟨h.box.below hb (blk_lt h.box), h.hb, h.rm.kept (KeptT.below hb), h.ri.below hb, h.rk.below hb, h.bel.trans (hb.mono h.bel.size)⟩
theorem BO.drew (h : BO base b B mv iv kv W) (n : Nat) : BO base b B mv iv kv (W.drewN n) := h.below (below_drewN (Below.refl _ _) n)
theorem BO.drew1 (h : BO base b B mv iv kv W) : BO base b B mv iv kv W.drew := h.drew 1
theorem BO.cell (h : BO base b B mv iv kv W) (j : Nat) (v : Value) (hv : (brT B.f B.g mv iv kv)[j]? = some v) : W.cell? ⟨b, j, none⟩ = some v := (blk_cell h.box j).trans hv
theorem BO.free (h : BO base b B mv iv kv W) (j : Nat) : W.frozen? ⟨b, j, none⟩ = false := blk_free h.box j
theorem BO.lt (h : BO base b B mv iv kv W) : b < W.heap.size := blk_lt h.box
theorem BO.set (h : BO base b B mv iv kv W) (j : Nat) (u : Value) {f' : Nat → Int} {g' : Nat → Bool} (hc : (brT B.f B.g mv iv kv).setIfInBounds j u = brT f' g' mv iv kv) :
  BO base b ⟨f', g', B.M, B.I, B.K⟩ mv iv kv (W.setCell ⟨b, j, none⟩ u) := by
 refine ⟨?_, h.hb, ?_, owns_at h.ri h.box (by decide) j u, owns_at h.rk h.box (by decide) j u, h.bel.setCell (p := ⟨b, j, none⟩) h.hb _⟩
 ·have := blk_set h.box j u
  rw [hc] at this
  exact this
 ·exact h.rm.kept (KeptT.set (p := ⟨b, j, none⟩) h.box (by decide) u)
end
/-- What a deed ends with. -/
def DeedEnd (base : World) (b : Nat) (W : World) (B : BrainV) (e : Ending) (W' : World) : Prop :=
 e = .returned (.tuple #[]) ∧ (∃ mv iv kv, BO base b B mv iv kv W') ∧ KeepsX b W W'

/-- A boot. -/
def bootB (B : BrainV) : BrainV := if B.f 0 < 1099511627776 then { B with f := upd B.f 0 (wrap64 (B.f 0 + 1)) } else B
/-- A refresh that begins. -/
def startB (B : BrainV) (t s : Int) : BrainV :=
 if B.g 2 = true ∧ B.f 20 ≠ 1 ∧ 1 ≤ t then { B with f := upd (upd (upd (upd (upd (upd B.f 20 1) 21 (B.f 15)) 22 t) 23 0) 25 s) 26 0, g := upd B.g 24 false } else B
def cancelB (B : BrainV) : BrainV := { B with f := upd B.f 20 3, g := upd B.g 24 false }
def rollB (B : BrainV) : BrainV := { B with f := upd B.f 22 (B.f 21) }
def pauseB (B : BrainV) (s : Int) : BrainV := if B.g 24 = true then B else { B with f := upd B.f 25 s, g := upd B.g 24 true }
def goB (B : BrainV) : BrainV := if B.g 24 = true then { B with f := upd B.f 23 (wrap64 (B.f 23 + 1)), g := upd B.g 24 false } else B
def doneB (B : BrainV) : BrainV := { B with f := upd (upd B.f 20 2) 15 (B.f 22), g := upd B.g 24 false }
def failB (B : BrainV) : BrainV :=
 if B.f 13 ≤ wrap64 (B.f 26 + 1) then { B with f := upd (upd (upd B.f 26 (wrap64 (B.f 26 + 1))) 22 (B.f 21)) 26 0 } else { B with f := upd B.f 26 (wrap64 (B.f 26 + 1)) }

end Go.Proofs.YtgcajfglidflnaaGreatDoor
