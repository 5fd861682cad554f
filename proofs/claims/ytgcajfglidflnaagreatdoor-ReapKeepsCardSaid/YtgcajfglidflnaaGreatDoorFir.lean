import Derived.Test.YtgcajfglidflnaaGreatDoorSna
import Derived.Test.YtgcajfglidflnaaGreatDoorRng
import Derived.Test.YtgcajfglidflnaaGreatDoorClm
/- slices.Backward goes over what is seen, from the end; reap.firsts: the first that was seen of each id. -/
namespace Go.Proofs.YtgcajfglidflnaaGreatDoor
open Go.RowKit Go.Shelf

/-- Cells lie as they lay. -/
def KpC (W W' : World) : Prop := W.heap.size ≤ W'.heap.size ∧ ∀ (b : Nat) (o : Obj), W.heap[b]? = some o → o.isCells = true → W'.heap[b]? = some o
theorem KpC.refl (W : World) : KpC W W := ⟨Nat.le_refl _, fun _ _ h _ => h⟩
theorem KpC.trans {A B C : World} (h : KpC A B) (k : KpC B C) : KpC A C := ⟨Nat.le_trans h.1 k.1, fun b o hb ho => k.2 b o (h.2 b o hb ho) ho⟩
theorem KpC.below {A B : World} (h : Below A.heap.size A B) : KpC A B := ⟨h.size, fun _ _ hb _ => blk_below hb h (blk_lt hb)⟩
theorem KpC.put (W : World) (l : Nat) (o o' : Obj) (h : W.heap[l]? = some o) (ho : o.isCells = false) : KpC W (W.putObj l o') := by
 refine ⟨by simp [World.putObj], fun b q hb hq => ?_⟩
 have hne : ¬ l = b := by rintro rfl; rw [h] at hb; cases hb; rw [ho] at hq; cases hq
 simp only [World.putObj, Array.getElem?_setIfInBounds]; rw [if_neg hne]; exact hb
theorem KpC.cell {W W' : World} {p : Addr} {v : Value} (h : W.cell? p = some v) (hk : KpC W W') : W'.cell? p = some v := by
 unfold World.cell? at h ⊢
 split at h
 ·rename_i c e f heq
  rw [hk.2 p.block _ heq rfl]
  exact h
 ·cases h
theorem RowAt.kpc {α : Type} {k : Nat} {enc : α → List Value} {w w' : World} {b off : Nat} {l : List α} (h : RowAt k enc w b off l) (hk : KpC w w') : RowAt k enc w' b off l := fun i x hi j v hj => KpC.cell (h i x hi j v hj) hk
def encSv (x : SeenV) : Value := .agg #[.int .i64 x.id, .int .i64 x.token, .int .i64 x.version, .int .i64 x.zone, .bool x.on, .bool x.well, .bool x.inn]
def itemB (x : Nat × SeenV) : Array Value := #[.int .i64 (x.1 : Int), encSv x.2]
theorem back_any (a : Option Addr) (n c : Nat) (w : World) :
  Calls Tryz.prog 54 #[.slice a n c] w fun e w' => e = .returned (.func (.func 66) #[] #[.pointer (some ⟨w.heap.size, 0, none⟩)]) ∧ w' = w.alloc (.cells #[.slice a n c] 37) := by
 have hmf := mkfunc
 go_enter Tryz.func54, Tryz.ntmps54
 go_wp2
 go_ret
 exact ⟨rfl, rfl⟩
theorem drop_rev {L : List SeenV} {q : Nat} {x : SeenV} (hx : L[q]? = some x) : (L.drop q).reverse = (L.drop (q + 1)).reverse ++ [x] := by
 have hlt := lt_get hx
 rw [List.getElem?_eq_getElem hlt] at hx
 cases hx
 rw [List.drop_eq_getElem_cons hlt, List.reverse_cons]
set_option maxRecDepth 100000 in
set_option maxHeartbeats 2000000 in
theorem back_all (n : Nat) (hn : 1 ≤ n) (B : Nat) (s : Value) (L : List SeenV) (w : World) (hB : w.heap[B]? = some (.cells #[s] 37)) (hs : RowS w s L) :
  SeqAll Fence.wide n Tryz.prog 66 #[.pointer (some ⟨B, 0, none⟩)] itemB KpC (fun _ _ => True) (fun xs => xs.map Prod.snd = L.reverse) L.length w := by
 intro l J W hW hJ hY h0
 have hs1 := hs.below hW
 have hB1 := blk_below hB hW (blk_lt hB)
 obtain ⟨sa, sc, rfl, p1, p2, p3, hop⟩ := hs1.open
 have HOP := hid hop
 have HY := hid hY
 have HJ := hid hJ
 have HB := hid hB1
 clear hop hY hW hJ hs hs1 hB hB1
 refine callsIn_of_wp Tryz.func66 rfl trivial ?_ rfl
 simp only [Tryz.ntmps66, List.size_toArray, List.length_cons, List.length_nil, Nat.reduceAdd, Nat.reduceSub, Array.replicate_succ, Array.replicate_zero, List.push_toArray, List.append_toArray, List.nil_append, List.cons_append]
 obtain ⟨b0, b0f, b0l⟩ := blk1 HB.out
 gi_wp2
 gi_loopw [3] (fun i wr => ∃ (j : Nat) (pre : List (Nat × SeenV)), j ≤ L.length ∧ i = .int .i64 ((j : Int) - 1) ∧ pre.map Prod.snd = (L.drop j).reverse ∧ J pre wr ∧ KpC W wr) (fun i _ => (intOf i + 1).toNat)
 case atStart => exact ⟨L.length, [], Nat.le_refl _, by go_num, by simp, h0, KpC.refl W⟩
 case round =>
  obtain ⟨j, pre, hj, rfl, hp, hJs, hK⟩ := hrel
  have HK := hid hK
  have c0 := KpC.cell b0 hK
  have l0 : B < wr.heap.size := Nat.lt_of_lt_of_le b0l hK.1
  cases j with
  | zero =>
   have HP := hid (show pre.map Prod.snd = L.reverse from hp)
   have HJS := hid hJs
   clear hp hJs hK
   rw [show (((0 : Nat) : Int) - 1) = -1 by omega]
   gi_wp2
   go_end0
   exact ⟨⟨_, rfl⟩, pre, HP.out, HJS.out⟩
  | succ q =>
   rw [show (((q + 1 : Nat) : Int) - 1) = (q : Int) by omega]
   have hlt : q < L.length := hj
   obtain ⟨b1, o1, rfl, hb1, hr1⟩ := HOP.out (by omega)
   obtain ⟨x, hx⟩ := get_lt hlt
   obtain ⟨g0, g1, g2, g3, g4, g5, g6⟩ := rowS (hr1.kpc hK) hx
   have hb1w : b1 < wr.heap.size := Nat.lt_of_lt_of_le hb1 hK.1
   have hlen : pre.length < L.length := by
    have := congrArg List.length hp
    simp at this
    omega
   have HP := hid (show (pre ++ [((q, x) : Nat × SeenV)]).map Prod.snd = (L.drop q).reverse by rw [List.map_append, hp, drop_rev hx]; rfl)
   obtain ⟨fn, tmps, assign, body, hy, hR⟩ := HY.out pre (q, x) wr hJs trivial hlen
   dsimp only [itemB, encSv] at hy
   have HR := hid hR
   have hqn : ¬ ((q : Int) < 0) := by omega
   have hqL : (q : Int) < (L.length : Int) := by omega
   clear hR hr1 hx hp hJs hK hlen
   gi_wp2
   refine HR.out.mono ?_
   rintro e W3 ⟨rfl, hJ3, hk3⟩
   gi_wp2
   go_roundw
   case rel => exact ⟨q, _, by omega, by go_num, HP.out, hJ3, HK.out.trans hk3⟩
   case measure => simp [intOf]

/-- A block is a map from numbers to what is seen. -/
def SMap (w : World) (m : Nat) (F : Int → Option Value) : Prop :=
 ∃ (es : Array MapEntry) (clock : Nat) (ds : List (Int × Value)), w.heap[m]? = some (.map es clock) ∧ es.toList.map (fun e => (e.key, e.val)) = ds.map (fun d : Int × Value => (Value.int .i64 d.1, d.2)) ∧ ∀ k, ds.lookup k = F k
theorem SMap.lt {w : World} {m : Nat} {F : Int → Option Value} (h : SMap w m F) : m < w.heap.size := by
 obtain ⟨es, cl, ds, hb, _⟩ := h
 exact (Array.getElem?_eq_some_iff.1 hb).1
theorem SMap.to {w w' : World} {m : Nat} {F : Int → Option Value} (h : SMap w m F) (hb : ∀ o, w.heap[m]? = some o → w'.heap[m]? = some o) : SMap w' m F := by
 obtain ⟨es, cl, ds, hq, h1, h2⟩ := h
 exact ⟨es, cl, ds, hb _ hq, h1, h2⟩
theorem SMap.below {w w' : World} {m : Nat} {F : Int → Option Value} (h : SMap w m F) (hb : Below w.heap.size w w') : SMap w' m F := h.to fun _ q => blk_below q hb (blk_lt q)
theorem SMap.as {w : World} {m : Nat} {F F' : Int → Option Value} (h : SMap w m F) (he : ∀ k, F k = F' k) : SMap w m F' := by
 obtain ⟨es, cl, ds, hq, h1, h2⟩ := h
 exact ⟨es, cl, ds, hq, h1, fun k => (h2 k).trans (he k)⟩
theorem findS_run (k : Int) : ∀ (es : List MapEntry) (ds : List (Int × Value)) (i : Nat), es.map (fun e => (e.key, e.val)) = ds.map (fun d => (Value.int .i64 d.1, d.2)) →
  (∃ j v, Instr.findNow (.int .i64) (.int .i64 k) es i = some (some (i + j, v)) ∧ ds[j]? = some (k, v) ∧ ds.lookup k = some v ∧ ∀ v' q, (ds.set j (k, v')).lookup q = if q = k then some v' else ds.lookup q) ∨
  (Instr.findNow (.int .i64) (.int .i64 k) es i = some none ∧ ds.lookup k = none ∧ ∀ v' q, (ds ++ [(k, v')]).lookup q = if q = k then some v' else ds.lookup q)
 | [], ds, i, h => by
  have : ds = [] := by cases ds <;> simp_all
  subst this
  refine .inr ⟨rfl, rfl, fun v' q => ?_⟩
  by_cases hq : q = k
  ·subst hq; simp
  ·have hb : (q == k) = false := by simpa using hq
   simp [List.lookup, hb, hq]
 | e :: es, [], i, h => by simp at h
 | e :: es, d :: ds, i, h => by
  simp only [List.map_cons, List.cons.injEq, Prod.mk.injEq] at h
  obtain ⟨⟨h1, h2⟩, h3⟩ := h
  obtain ⟨d1, d2⟩ := d
  dsimp only at h1 h2
  by_cases hk : k = d1
  ·subst hk
   refine .inl ⟨0, d2, by simp [Instr.findNow, Instr.sameNow, h1, h2], rfl, by simp [List.lookup], fun v' q => ?_⟩
   by_cases hq : q = k
   ·subst hq; simp
   ·have hb : (q == k) = false := by simpa using hq
    simp [List.lookup, hb, hq]
  ·have hb : (k == d1) = false := by simpa using hk
   rcases findS_run k es ds (i + 1) h3 with ⟨j, v, q1, q2, q3, q4⟩ | ⟨q1, q2, q3⟩
   ·refine .inl ⟨j + 1, v, ?_, by simpa using q2, by simpa only [List.lookup, hb] using q3, fun v' q => ?_⟩
    ·simp only [Instr.findNow, Instr.sameNow, h1, hb, q1]
     simp
     omega
    ·have := q4 v' q
     simp only [List.set_cons_succ, List.lookup]
     by_cases hq : q = k
     ·subst hq
      simpa [hb] using this
     ·rw [if_neg hq] at this ⊢
      rw [this]
   ·refine .inr ⟨?_, by simpa only [List.lookup, hb] using q2, fun v' q => ?_⟩
    ·simp only [Instr.findNow, Instr.sameNow, h1, hb, q1]
     simp
    ·have := q3 v' q
     simp only [List.cons_append, List.lookup]
     by_cases hq : q = k
     ·subst hq
      simpa [hb] using this
     ·rw [if_neg hq] at this ⊢
      rw [this]
theorem keyOk64 (em : Bool) (k : Int) (w : World) : (Instr.checkKey em 10000 3 (.int .i64 k)).run Tryz.prog w = .ok () w := by
 have hu : Tryz.prog.underlying 3 = some (.int .i64) := by kernel_rfl
 rw [show (10000 : Nat) = 9999 + 1 from rfl, Instr.checkKey]
 simp only [Sem.run_bind, run_underlying hu, Result.andThen_ok]
 simp
theorem seen_map : Tryz.prog.underlying 92 = some (.map 3 49) := by kernel_rfl
theorem insertS_run (k : Int) (v : Value) (w : World) (m : Nat) (F : Int → Option Value) (h : SMap w m F) :
  ∃ w', (Instr.mapUpdate 92 (.map (some m)) (.int .i64 k) v).run Tryz.prog w = .ok () w' ∧ SMap w' m (fun q => if q = k then some v else F q) ∧ w.grownBy w' (some m) := by
 have hu : Tryz.prog.underlying 3 = some (.int .i64) := by kernel_rfl
 have hlt := h.lt
 obtain ⟨es, clock, ds, hb, hk, hF⟩ := h
 have hg : (getObj m).run Tryz.prog w = .ok (.map es clock) w := by simp [getObj, Sem.run, hb]
 rcases findS_run k es.toList ds 0 hk with ⟨j, v0, q1, q2, q3, q4⟩ | ⟨q1, q2, q3⟩
 ·have hj : j < es.toList.length := by
   have := lt_get q2
   have e := congrArg List.length hk
   rw [List.length_map, List.length_map] at e
   omega
  have hej : es.toList[j]? = some es.toList[j] := List.getElem?_eq_getElem hj
  have hkey : (es.toList[j]).key = .int .i64 k := by
   have := congrArg (fun l => l[j]?) hk
   simp only [List.getElem?_map, hej, q2, Option.map_some, Option.some.injEq, Prod.mk.injEq] at this
   exact this.1
  have hek : ((es[j]?).map (·.key)).getD (.int .i64 k) = .int .i64 k := by
   rw [← Array.getElem?_toList, hej]
   simpa using hkey
  refine ⟨{ w with heap := w.heap.setIfInBounds m (.map (es.modify j fun e => { e with key := .int .i64 k, val := v }) clock) }, ?_, ?_, ?_⟩
  ·rw [Nat.zero_add] at q1
   simp only [Instr.mapUpdate, Sem.run_bind, run_underlying seen_map, Result.andThen_ok, hg, keyOk64, Instr.findKey, run_underlying hu, q1, Sem.run_pure, hek]
   simp [Instr.keyThatStays, Instr.sameBits, setObj, Sem.run, hb]
  ·refine ⟨es.modify j fun e => { e with key := .int .i64 k, val := v }, clock, ds.set j (k, v), by simp [hlt], ?_, fun q => by rw [q4 v q, hF q]⟩
   apply List.ext_getElem?
   intro i
   have hi := congrArg (fun l => l[i]?) hk
   simp only [List.getElem?_map] at hi ⊢
   rw [Array.getElem?_toList] at hi ⊢
   rw [Array.getElem?_modify, List.getElem?_set]
   by_cases hij : j = i
   ·subst hij
    have hjd : j < ds.length := lt_get q2
    rw [← Array.getElem?_toList, hej]
    simp [hjd]
   ·simp [hij, hi]
  ·exact ⟨rfl, rfl, rfl, by simp, fun i hi hne => by simp only [Array.getElem?_setIfInBounds]; rw [if_neg (fun e => hne (by rw [e]))]⟩
 ·refine ⟨{ w with heap := w.heap.setIfInBounds m (.map (es.push { key := .int .i64 k, val := v, born := clock }) (clock + 1)) }, ?_, ?_, ?_⟩
  ·simp only [Instr.mapUpdate, Sem.run_bind, run_underlying seen_map, Result.andThen_ok, hg, keyOk64, Instr.findKey, run_underlying hu, q1]
   simp [setObj, Sem.run, hb]
  ·exact ⟨es.push { key := .int .i64 k, val := v, born := clock }, clock + 1, ds ++ [(k, v)], by simp [hlt], by simp [hk], fun q => by rw [q3 v q, hF q]⟩
  ·exact ⟨rfl, rfl, rfl, by simp, fun i hi hne => by simp only [Array.getElem?_setIfInBounds]; rw [if_neg (fun e => hne (by rw [e]))]⟩
def zeroSn : Value := .agg #[.int .i64 0, .int .i64 0, .int .i64 0, .int .i64 0, .bool false, .bool false, .bool false]
theorem lookS_run (k : Int) (w : World) (m : Nat) (F : Int → Option Value) (h : SMap w m F) :
  (Instr.lookup 92 (.map (some m)) (.int .i64 k) true).run Tryz.prog w = .ok (.tuple #[(F k).getD zeroSn, .bool (F k).isSome]) w := by
 have hu : Tryz.prog.underlying 3 = some (.int .i64) := by kernel_rfl
 have hz : ∀ w, (zeroValue 49).run Tryz.prog w = .ok zeroSn w := fun w => by kernel_rfl
 obtain ⟨es, clock, ds, hb, hk, hF⟩ := h
 have hg : (getObj m).run Tryz.prog w = .ok (.map es clock) w := by simp [getObj, Sem.run, hb]
 simp only [Instr.lookup, Sem.run_bind, run_underlying seen_map, Result.andThen_ok, hg]
 simp only [Sem.run_pure, Result.andThen_ok, keyOk64, Instr.findKey, Sem.run_bind, run_underlying hu]
 rcases findS_run k es.toList ds 0 hk with ⟨j, v0, q1, q2, q3, q4⟩ | ⟨q1, q2, q3⟩
 ·rw [q1, ← hF k, q3]
  simp
 ·rw [q1, ← hF k, q2]
  simp [hz]
theorem SMap.made (W : World) : SMap (W.alloc (.map #[] 0)) W.heap.size (fun _ => none) :=
 ⟨#[], 0, [], by show (W.heap.push _)[W.heap.size]? = _; simp, rfl, fun _ => rfl⟩

/-- The first of each id, as the map holds it. -/
def firstF (l : List SeenV) (q : Int) : Option Value := (l.find? (fun x => x.id == q)).map encSv
def FiI (w : World) (T m : Nat) (pre : List (Nat × SeenV)) (W : World) : Prop :=
 W.heap[T]? = some (.cells #[.map (some m)] 92) ∧ SMap W m (firstF (pre.map Prod.snd).reverse) ∧ Below w.heap.size w W
theorem FiI.own {w : World} {T m B : Nat} (hw : w.heap.size ≤ B) (hm : m < B) : OwnFrom B (FiI w T m) := by
 rintro pre W W' row ⟨h1, h2, h3⟩ hg hr
 refine ⟨own_blk h1 hg (fun r e => (hr r e).2), h2.to (fun o ho => ?_), h3.grown hg h3.size (fun k e => Nat.le_trans hw (hr k e).1)⟩
 exact blk_grown ho hg (fun e => by have := (hr m e.symm).1; omega)
def FiA (T : Nat) (x : Nat × SeenV) (a' : Act) (W : World) : Prop :=
 ∃ (Bx : Nat) (u0 u1 u2 u4 u6 u7 u8 u9 u10 u11 u12 u13 u14 u15 : Value), W.heap[Bx]? = some (.cells #[.int .i64 x.2.id, .int .i64 x.2.token, .int .i64 x.2.version, .int .i64 x.2.zone, .bool x.2.on, .bool x.2.well, .bool x.2.inn] 49) ∧ a' = { tmps := #[u0, u1, u2, .pointer (some ⟨T, 0, none⟩), u4, .pointer (some ⟨Bx, 0, none⟩), u6, u7, u8, u9, u10, u11, u12, u13, u14, u15], defers := [] }
theorem FiA.own {T B : Nat} (x : Nat × SeenV) (a' : Act) : OwnFrom B (fun (_ : Unit) W => FiA T x a' W) := by
 rintro _ W W' row ⟨Bx, u0, u1, u2, u4, u6, u7, u8, u9, u10, u11, u12, u13, u14, u15, h1, h2⟩ hg hr
 exact ⟨Bx, u0, u1, u2, u4, u6, u7, u8, u9, u10, u11, u12, u13, u14, u15, own_blk h1 hg (fun r e => (hr r e).2), h2⟩
section
attribute [local go_sem] Oper.semAt_some
set_option maxRecDepth 100000 in
set_option maxHeartbeats 2000000 in
theorem firsts_any (s : Value) (L : List SeenV) (w : World) (hs : RowS w s L) :
  Calls Tryz.prog 39 #[s] w fun e w' => ∃ m, e = .returned (.map (some m)) ∧ w.heap.size ≤ m ∧ SMap w' m (firstF L) ∧ Below w.heap.size w w' := by
 obtain ⟨sa, sc, rfl, p1, p2, p3, _⟩ := hs.open
 have hmm := @run_makeMap Tryz.prog
 obtain ⟨W2, hW2⟩ : ∃ W2, W2 = (w.alloc (.map #[] 0)).alloc (.cells #[.map (some w.heap.size)] 92) := ⟨_, rfl⟩
 have hb2 : Below w.heap.size w W2 := by rw [hW2]; exact ((Below.refl _ _).alloc (Nat.le_refl _) _).alloc (by simp) _
 have hm2 : SMap W2 w.heap.size (fun _ => none) := by rw [hW2]; exact (SMap.made w).below ((Below.refl _ _).alloc (Nat.le_refl _) _)
 have ht2 : W2.heap[w.heap.size + 1]? = some (.cells #[.map (some w.heap.size)] 92) := by rw [hW2]; exact heap_new2 _ _ _
 have HB2 := hid hb2
 have HM2 := hid hm2
 have HT2 := hid ht2
 have HW2 := hid hW2
 have HS := hid (hs.below hb2)
 clear hs hb2 hm2 ht2 hW2
 refine (callsIn_wide (n := 4)).1 ?_
 refine callsIn_of_wp_marks Tryz.func39 rfl trivial ?_ rfl
 simp only [Tryz.ntmps39, List.size_toArray, List.length_cons, List.length_nil, Nat.reduceAdd, Nat.reduceSub, Array.replicate_succ, Array.replicate_zero, List.push_toArray, List.append_toArray, List.nil_append, List.cons_append]
 refine wpIn_wide.2 ?_
 go_wp2_with fail
 rw [← HW2.out]
 refine (back_any sa L.length sc W2).mono ?_
 rintro e w2 ⟨rfl, hw2⟩
 have hbe : Below W2.heap.size W2 w2 := by rw [hw2]; exact (Below.refl _ _).alloc (Nat.le_refl _) _
 have hq : w2.heap[W2.heap.size]? = some (.cells #[.slice sa L.length sc] 37) := by rw [hw2]; exact heap_new _ _
 have HSEQ := hid (back_all 3 (by omega) W2.heap.size (.slice sa L.length sc) L w2 hq (HS.out.below hbe))
 have hlt := HM2.out.lt
 have hsz : W2.heap.size ≤ w2.heap.size := hbe.size
 have HI := hid (show FiI w (w.heap.size + 1) w.heap.size [] w2 from ⟨blk_below HT2.out hbe (blk_lt HT2.out), HM2.out.below hbe, HB2.out.trans (hbe.mono HB2.out.size)⟩)
 have hww : w.heap.size ≤ w2.heap.size := Nat.le_trans HB2.out.size hsz
 clear hw2 hbe hq
 go_wp2_with fail
 refine (wpIn_wide (n := 4)).1 ?_
 refine range_all rfl (by omega) (gf := 66) (lb := #[.pointer (some ⟨W2.heap.size, 0, none⟩)]) rfl trivial (enters_of Tryz.func66 (by kernel_rfl) rfl)
  HSEQ.out (fun h k => h.trans k) (fun W l o o' _ h1 h2 _ => KpC.put W l o o' h1 h2) (Below.refl _ _) (fun _ => rfl)
  (FiI w (w.heap.size + 1) w.heap.size) (FiI.own hww (by omega)) HI.out
  (FiA (w.heap.size + 1)) (fun x a' => FiA.own x a') ?assign ?body ?done
 case assign =>
  rintro l pre x W K hI _ hlt hK
  have HK := hid hK
  have HI' := hid hI
  clear hK hI HSEQ
  unfold itemB encSv
  gi_wp2
  refine HK.out _ _ ((KeepsOthers.alloc _ _).from _) (KpC.below ((Below.refl _ _).alloc (Nat.le_refl _) _)) ?_ ⟨W.heap.size, _, _, _, _, _, _, _, _, _, _, _, _, _, _, heap_new W _, rfl⟩
  exact ⟨blk_alloc HI'.out.1 _, HI'.out.2.1.below ((Below.refl _ _).alloc (Nat.le_refl _) _), HI'.out.2.2.alloc HI'.out.2.2.size _⟩
 case body =>
  rintro l pre ⟨xi, x⟩ a' W hl ⟨h1, h2, h3⟩ ⟨Bx, u0, u1, u2, u4, u6, u7, u8, u9, u10, u11, u12, u13, u14, u15, hx, rfl⟩ hlt
  dsimp only at hx
  obtain ⟨k0, kf, hb2⟩ := blk1 h1
  have g0 : W.cell? ⟨Bx, 0, none⟩ = some (.int .i64 x.id) := blk_cell hx 0
  have g1 : W.cell? ⟨Bx, 1, none⟩ = some (.int .i64 x.token) := blk_cell hx 1
  have g2 : W.cell? ⟨Bx, 2, none⟩ = some (.int .i64 x.version) := blk_cell hx 2
  have g3 : W.cell? ⟨Bx, 3, none⟩ = some (.int .i64 x.zone) := blk_cell hx 3
  have g4 : W.cell? ⟨Bx, 4, none⟩ = some (.bool x.on) := blk_cell hx 4
  have g5 : W.cell? ⟨Bx, 5, none⟩ = some (.bool x.well) := blk_cell hx 5
  have g6 : W.cell? ⟨Bx, 6, none⟩ = some (.bool x.inn) := blk_cell hx 6
  have gl := blk_lt hx
  obtain ⟨w', hrun, hm', hg⟩ := insertS_run x.id (encSv x) W w.heap.size _ h2
  have H1 := hid (blk_grown h1 hg (by simp))
  have HM' := hid (hm'.as (F' := firstF ((pre ++ [((xi, x) : Nat × SeenV)]).map Prod.snd).reverse) (fun k => by
   unfold firstF
   rw [List.map_append, List.reverse_append]
   simp only [List.map_cons, List.map_nil, List.reverse_cons, List.reverse_nil, List.nil_append, List.cons_append, List.find?_cons]
   by_cases hk : k = x.id
   ·subst hk; simp
   ·rw [if_neg hk]
    have : (x.id == k) = false := by simpa using fun e => hk e.symm
    rw [this]))
  have HB' := hid (h3.grown hg h3.size (fun k e => by cases e; exact Nat.le_refl _))
  have HKC := hid (show KpC W w' from ⟨hg.size, fun b o hb ho => blk_grown hb hg (fun e => by
   cases e
   obtain ⟨es, cl, ds, hq, _⟩ := h2
   rw [hq] at hb
   cases hb
   cases ho)⟩)
  have HKF := hid (show KeepsFrom w2.heap.size W w' from KeepsFrom.of_grownBy hg (fun j e => by cases e; omega))
  unfold encSv at hrun
  clear h1 h2 h3 hx hm' hg hlt HSEQ
  gi_wp2
  exact ⟨rfl, HKF.out, HKC.out, H1.out, HM'.out, HB'.out⟩
 case done =>
  rintro D xs W hD hS ⟨h1, h2, h3⟩ hK
  obtain ⟨k0, kf, hb2⟩ := blk1 h1
  have HM := hid (h2.as (F' := firstF L) (fun k => by rw [hS, List.reverse_reverse]))
  have HB := hid h3
  have HK := hid hK
  clear h1 h2 h3 hK hS HSEQ
  dsimp only
  go_wp2
  refine ⟨by simp, .inl ⟨_, _, rfl, run_takeDeferred HK.out, ?_⟩⟩
  refine ⟨_, results_tmp rfl _ _ _, _, rfl, Nat.le_refl _, HM.out.to (fun o ho => ?_), below_put HB.out (Nat.le_trans hww hD) _⟩
  rw [World.putObj_heap_other (by have := HM2.out.lt; omega)]
  exact ho
end
end Go.Proofs.YtgcajfglidflnaaGreatDoor
