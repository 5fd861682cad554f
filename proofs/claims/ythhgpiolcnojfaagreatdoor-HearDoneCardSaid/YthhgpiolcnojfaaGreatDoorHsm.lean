import Derived.Test.YthhgpiolcnojfaaGreatDoorDfm
import Derived.Test.YthhgpiolcnojfaaGreatDoorItf
import Derived.Deep.RegionHeld3
import Derived.Deep.WholeRow
/- The words: what answers say, by kind and code. -/
namespace Go.Proofs.YthhgpiolcnojfaaGreatDoor
open Go.RowKit Go.Shelf
attribute [-go_sem] Instr.buildSlice

theorem res_recC {fn : Func} {tmps : Array Value} {r : Tmp} {t : TypeId} {b : Nat} {c0 c1 : Value} {W : World} (hres : fn.results = #[.cell r 44]) (h : tmps.getD r undef = .pointer (some ⟨b, 0, none⟩)) (hb : W.heap[b]? = some (.cells #[c0, c1] t)) :
  (results fn tmps).run Tryz.prog W = .ok (.agg #[c0, c1]) W := by
 obtain ⟨k0, k1, _⟩ := blk2 hb
 rw [Array.getD_eq_getD_getElem?] at h
 simp [results, hres, go_sem, h, k0, k1]
theorem bs_int3 (x y z : Int) (w : World) : (Instr.buildSlice 22 3 #[(0, .int .i64 x), (1, .int .i64 y), (2, .int .i64 z)]).run Tryz.prog w = .ok (.slice (some ⟨w.heap.size, 0, none⟩) 3 3) (w.alloc (.cells #[.int .i64 x, .int .i64 y, .int .i64 z] 3)) := by kernel_rfl
theorem bs_intA (x : Int) (w : World) : (Instr.buildSlice 22 1 #[(0, .int .i64 x)]).run Tryz.prog w = .ok (.slice (some ⟨w.heap.size, 0, none⟩) 1 1) (w.alloc (.cells #[.int .i64 x] 3)) := by kernel_rfl
/-- What a word ends with: a record. -/
def WEnd (k : Int) (l : List Int) (w : World) (e : Ending) (w' : World) : Prop := ∃ v, e = .returned (.agg #[.int .u8 k, v]) ∧ OwnI w' w.heap.size v l ∧ Below w.heap.size w w'
theorem wend {w : World} {k : Int} {l : List Int} {n : Nat} {cs : Array Value} {o : Obj} (hn : n = l.length) (hc : cs.toList = l.flatMap encI) (hs : cs.size = n) (hnm : n ≤ 100) :
  WEnd k l w (.returned (.agg #[.int .u8 k, .slice (some ⟨w.heap.size + 1, 0, none⟩) n n])) ((w.alloc o).alloc (.cells cs 3)) := by
 refine ⟨_, rfl, Owns.mk (fun _ => rfl) (heap_new2 w _ _) hn (Nat.le_refl _) (by unfold maxLen; omega) (by omega) (by omega) ?_, ((Below.refl _ _).alloc (Nat.le_refl _) _).alloc (by simp) _⟩
 rw [hc, List.take_of_length_le]
 have : (l.flatMap encI).length = l.length * 1 := flat_len (k := 1) (enc := encI) (fun _ => rfl) l
 omega
set_option maxHeartbeats 400000 in
theorem wmade_any (key id now : Int) (w : World) : Calls Tryz.prog 64 #[.int .i64 key, .int .i64 id, .int .i64 now] w (WEnd 4 [key, id, now] w) := by
 have hb := bs_int3 key id now
 go_enter Tryz.func64, Tryz.ntmps64
 go_wp2
 exact bodyPost_ret (res_recC (b := w.heap.size) rfl rfl (blk_alloc (heap_new w _) _)) rfl (wend rfl rfl rfl (by decide))
theorem wfail_any (key id now : Int) (w : World) : Calls Tryz.prog 65 #[.int .i64 key, .int .i64 id, .int .i64 now] w (WEnd 5 [now] w) := by
 have hb := bs_intA now
 go_enter Tryz.func65, Tryz.ntmps65
 go_wp2
 exact bodyPost_ret (res_recC (b := w.heap.size) rfl rfl (blk_alloc (heap_new w _) _)) rfl (wend rfl rfl rfl (by decide))
theorem wgone_any (key id now : Int) (w : World) : Calls Tryz.prog 67 #[.int .i64 key, .int .i64 id, .int .i64 now] w (WEnd 7 [key] w) := by
 have hb := bs_intA key
 go_enter Tryz.func67, Tryz.ntmps67
 go_wp2
 exact bodyPost_ret (res_recC (b := w.heap.size) rfl rfl (blk_alloc (heap_new w _) _)) rfl (wend rfl rfl rfl (by decide))
theorem wto_any (key id now ph : Int) (p : Nat) (w : World) (hp : w.cell? ⟨p, 0, none⟩ = some (.int .u8 ph)) (h8 : in8 ph) : Calls Tryz.prog 84 #[.int .i64 key, .int .i64 id, .int .i64 now, .pointer (some ⟨p, 0, none⟩)] w (WEnd 6 [key, ph, now] w) := by
 have hb := bs_int3 key ph now
 have hpl := lt_of_cell hp
 dsimp only at hpl
 have h0 : 0 ≤ ph := h8.1
 have h1 : ph ≤ 255 := h8.2
 go_enter Tryz.func84, Tryz.ntmps84
 go_wp2
 exact bodyPost_ret (res_recC (b := w.heap.size) rfl rfl (blk_alloc (heap_new w _) _)) rfl (wend rfl rfl rfl (by decide))
/-- A word of a phase. -/
theorem wordTo_any (ph : Int) (w : World) : Calls Tryz.prog 66 #[.int .u8 ph] w fun e w' => e = .returned (.func (.func 84) #[] #[.pointer (some ⟨w.heap.size, 0, none⟩)]) ∧ w'.cell? ⟨w.heap.size, 0, none⟩ = some (.int .u8 ph) ∧ Below w.heap.size w w' := by
 have hmf := mkfunc
 go_enter Tryz.func66, Tryz.ntmps66
 go_wp2
 go_ret
 exact ⟨rfl, blk_cell (heap_new w _) 0, (Below.refl _ _).alloc (Nat.le_refl _) _⟩

theorem words_map : Tryz.prog.underlying 88 = some (.map 5 86) := by kernel_rfl
def zeroWords : Value := .agg #[.nilFunc, .nilFunc, .nilFunc, .nilFunc, .nilFunc, .nilFunc]
theorem insertW_run (k : Int) (v : Value) (w : World) (m : Nat) (ds : List (Int × Value)) (h : DMap w m ds) (hq : ds.lookup k = none) :
  ∃ w', (Instr.mapUpdate 88 (.map (some m)) (.int .u8 k) v).run Tryz.prog w = .ok () w' ∧ DMap w' m (ds ++ [(k, v)]) ∧ w.grownBy w' (some m) := by
 have hu : Tryz.prog.underlying 5 = some (.int .u8) := by kernel_rfl
 have hlt := h.lt
 obtain ⟨es, clock, hb, hk⟩ := h
 have hg : (getObj m).run Tryz.prog w = .ok (.map es clock) w := by simp [getObj, Sem.run, hb]
 obtain ⟨r, hr, hs⟩ := findNow_run k es.toList ds 0 hk
 rcases hs with ⟨j, v', _, h⟩ | ⟨rfl, _⟩
 ·rw [hq] at h; cases h
 refine ⟨{ w with heap := w.heap.setIfInBounds m (.map (es.push { key := .int .u8 k, val := v, born := clock }) (clock + 1)) }, ?_, ?_, ?_⟩
 ·simp only [Instr.mapUpdate, Sem.run_bind, run_underlying words_map, Result.andThen_ok, hg, keyOk8, Instr.findKey, run_underlying hu, hr]
  simp [setObj, Sem.run, hb]
 ·exact ⟨es.push { key := .int .u8 k, val := v, born := clock }, clock + 1, by simp [hlt], by simp [hk]⟩
 ·exact ⟨rfl, rfl, rfl, by simp, fun i hi hne => by simp only [Array.getElem?_setIfInBounds]; rw [if_neg (fun e => hne (by rw [e]))]⟩
theorem lookW_run (k : Int) (w : World) (m : Nat) (ds : List (Int × Value)) (h : DMap w m ds) :
  (Instr.lookup 88 (.map (some m)) (.int .u8 k) true).run Tryz.prog w = .ok (.tuple #[(ds.lookup k).getD zeroWords, .bool (ds.lookup k).isSome]) w := by
 have hu : Tryz.prog.underlying 5 = some (.int .u8) := by kernel_rfl
 have hz : ∀ w, (zeroValue 86).run Tryz.prog w = .ok zeroWords w := fun w => by kernel_rfl
 obtain ⟨es, clock, hb, hk⟩ := h
 have hg : (getObj m).run Tryz.prog w = .ok (.map es clock) w := by simp [getObj, Sem.run, hb]
 obtain ⟨r, hr, hs⟩ := findNow_run k es.toList ds 0 hk
 simp only [Instr.lookup, Sem.run_bind, run_underlying words_map, Result.andThen_ok, hg]
 simp only [Sem.run_pure, Result.andThen_ok, keyOk8, Instr.findKey, Sem.run_bind, run_underlying hu, hr]
 rcases hs with ⟨j, v, rfl, h⟩ | ⟨rfl, h⟩
 ·simp [h]
 ·simp [h, hz]
/-- The map as it is being laid; the boxes of phases. -/
structure WInv (W : World) (m : Nat) (w : World) (ds : List (Int × Value)) (cs : List (Nat × Int)) : Prop where
 map : DMap w m ds
 hm : W.heap.size ≤ m
 bel : Below W.heap.size W w
 boxes : ∀ c ∈ cs, c.1 ≠ m ∧ w.cell? ⟨c.1, 0, none⟩ = some (.int .u8 c.2)
theorem WInv.insert {W w w' : World} {m : Nat} {ds ds' : List (Int × Value)} {cs : List (Nat × Int)} (h : WInv W m w ds cs) (hd : DMap w' m ds') (hg : w.grownBy w' (some m)) : WInv W m w' ds' cs := by
 refine ⟨hd, h.hm, h.bel.grown hg h.bel.size (fun k e => by cases e; exact h.hm), fun c hc => ⟨(h.boxes c hc).1, ?_⟩⟩
 obtain ⟨h1, h2⟩ := h.boxes c hc
 have hl := lt_of_cell h2
 dsimp only at hl
 exact (World.cell?_of_block (w := w) (hg.block c.1 hl (by simpa using h1))).trans h2
theorem WInv.box {W w w' : World} {m : Nat} {ds : List (Int × Value)} {cs : List (Nat × Int)} {ph : Int} (h : WInv W m w ds cs) (hc : w'.cell? ⟨w.heap.size, 0, none⟩ = some (.int .u8 ph)) (hb : Below w.heap.size w w') : WInv W m w' ds ((w.heap.size, ph) :: cs) := by
 refine ⟨h.map.below hb h.map.lt, h.hm, h.bel.trans (hb.mono h.bel.size), fun c hm => ?_⟩
 rcases List.mem_cons.1 hm with rfl | hm
 ·exact ⟨Nat.ne_of_gt h.map.lt, hc⟩
 ·exact ⟨(h.boxes c hm).1, cell_below (h.boxes c hm).2 hb⟩
theorem WInv.made (W : World) : WInv W W.heap.size (W.alloc (.map #[] 0)) [] [] :=
 ⟨⟨#[], 0, by show (W.heap.push _)[W.heap.size]? = _; simp, rfl⟩, Nat.le_refl _, (Below.refl _ _).alloc (Nat.le_refl _) _, by simp⟩
theorem wpList_insertW {W w : World} {ops : Array Oper} {rest : List Oper} {o : Oper} {a : Act} {Q : Exit → Act → World → Prop} {m : Nat} {ds : List (Int × Value)} {cs : List (Nat × Int)} (h : WInv W m w ds cs)
  (hg : o.guard = none) (x k v : Operand) (hop : o.op = Op.insert 88 x k v) (hx : a.eval x = .map (some m)) (kk : Int) (hk : a.eval k = .int .u8 kk) (hno : ds.lookup kk = none)
  (hK : ∀ w', WInv W m w' (ds ++ [(kk, a.eval v)]) cs → wpList Tryz.prog ops Q rest (a.put o.dst undef) w') : wpList Tryz.prog ops Q (o :: rest) a w := by
 refine wpList_plain hg fun K' hK' => ?_
 obtain ⟨w', hrun, r1, r2⟩ := insertW_run kk (a.eval v) w m ds h.map hno
 unfold Oper.wp
 simp [execOp, hop, hx, hk, hrun, Result.andThen]
 exact hK' _ _ (hK w' (h.insert r1 r2))
def toV (p : Nat) : Value := .func (.func 84) #[] #[.pointer (some ⟨p, 0, none⟩)]
def goneV : Value := .func (.func 67) #[] #[]
def wordsT (p2 p4 p5 q5 : Nat) : List (Int × Value) := [(1, .agg #[.nilFunc, .func (.func 64) #[] #[], .nilFunc, .nilFunc, .func (.func 65) #[] #[], .nilFunc]), (2, .agg #[.nilFunc, toV p2, goneV, .nilFunc, .nilFunc, .nilFunc]),
 (4, .agg #[.nilFunc, toV p4, goneV, .nilFunc, .nilFunc, .nilFunc]), (5, .agg #[.nilFunc, toV p5, goneV, toV q5, .nilFunc, .nilFunc]), (6, .agg #[.nilFunc, goneV, goneV, .nilFunc, .nilFunc, .nilFunc])]
set_option maxRecDepth 100000 in
set_option maxHeartbeats 2000000 in
theorem words_any (W : World) : Calls Tryz.prog 34 #[] W fun e W' => ∃ m p2 p4 p5 q5 : Nat, e = .returned (.map (some m)) ∧ WInv W m W' (wordsT p2 p4 p5 q5) [(q5, 4), (p5, 6), (p4, 4), (p2, 1)] := by
 have hmm := @run_makeMap Tryz.prog
 have HM := hid (WInv.made W)
 go_enter Tryz.func34, Tryz.ntmps34
 go_wp2_with (refine wpList_insertW HM.out rfl _ _ _ rfl rfl 1 rfl rfl ?_)
 intro v1 hv
 have HM := hid hv
 clear hv
 go_wp2_with fail
 refine (wordTo_any 1 _).mono ?_
 rintro e ya ⟨rfl, hc, hb⟩
 have HM := hid (HM.out.box hc hb)
 clear hc hb
 go_wp2_with (refine wpList_insertW HM.out rfl _ _ _ rfl rfl 2 rfl rfl ?_)
 intro v2 hv
 have HM := hid hv
 clear hv
 go_wp2_with fail
 refine (wordTo_any 4 _).mono ?_
 rintro e yb ⟨rfl, hc, hb⟩
 have HM := hid (HM.out.box hc hb)
 clear hc hb
 go_wp2_with (refine wpList_insertW HM.out rfl _ _ _ rfl rfl 4 rfl rfl ?_)
 intro v4 hv
 have HM := hid hv
 clear hv
 go_wp2_with fail
 refine (wordTo_any 6 _).mono ?_
 rintro e yc ⟨rfl, hc, hb⟩
 have HM := hid (HM.out.box hc hb)
 clear hc hb
 go_wp2_with fail
 refine (wordTo_any 4 _).mono ?_
 rintro e yd ⟨rfl, hc, hb⟩
 have HM := hid (HM.out.box hc hb)
 clear hc hb
 go_wp2_with (refine wpList_insertW HM.out rfl _ _ _ rfl rfl 5 rfl rfl ?_)
 intro v5 hv
 have HM := hid hv
 clear hv
 go_wp2_with (refine wpList_insertW HM.out rfl _ _ _ rfl rfl 6 rfl rfl ?_)
 intro v6 hv
 have HM := hid hv
 clear hv
 go_wp2
 go_ret
 exact ⟨_, _, _, _, _, rfl, HM.out⟩
end Go.Proofs.YthhgpiolcnojfaaGreatDoor

/- hear.Says: what an answer says. Printed by gn_sy.py. -/
namespace Go.Proofs.YthhgpiolcnojfaaGreatDoor
open Go.RowKit Go.Shelf
attribute [-go_sem] storeVar

def tellT (c k d i : Int) (sv : Value) (m : Bool) : Value := .agg #[.int .i64 c, .int .u8 k, .int .u8 d, .int .i64 i, sv, .bool m]
/-- What an answer of a code to a call of a kind says: the record's kind, and its numbers. -/
def saysL (k d key id now : Int) : Option (Int × List Int) :=
 if d = 1 then
  if k = 1 then some (4, [key, id, now]) else if k = 2 then some (6, [key, 1, now]) else if k = 4 then some (6, [key, 4, now]) else if k = 5 then some (6, [key, 6, now]) else if k = 6 then some (7, [key]) else none
 else if d = 2 then
  if k = 2 ∨ k = 4 ∨ k = 5 ∨ k = 6 then some (7, [key]) else none
 else if d = 3 then
  if k = 5 then some (6, [key, 4, now]) else none
 else if d = 4 then
  if k = 1 then some (5, [now]) else none
 else none
/-- What Says ends with. -/
def SEnd (r : Option (Int × List Int)) (w : World) (e : Ending) (w' : World) : Prop :=
 (r = none ∧ e = .returned (.tuple #[.agg #[.int .u8 0, .slice none 0 0], .bool false]) ∧ Below w.heap.size w w') ∨
 ∃ k l v, r = some (k, l) ∧ e = .returned (.tuple #[.agg #[.int .u8 k, v], .bool true]) ∧ OwnI w' w.heap.size v l ∧ Below w.heap.size w w'
/-- A word, of a call's kind, at an answer's code. -/
def WordIs (W : World) (v : Value) (k : Int) (d : Nat) : Prop :=
 (v = .nilFunc ∧ ∀ key id now, saysL k d key id now = none) ∨
 (v = .func (.func 64) #[] #[] ∧ ∀ key id now, saysL k d key id now = some (4, [key, id, now])) ∨
 (v = .func (.func 65) #[] #[] ∧ ∀ key id now, saysL k d key id now = some (5, [now])) ∨
 (v = .func (.func 67) #[] #[] ∧ ∀ key id now, saysL k d key id now = some (7, [key])) ∨
 ∃ p ph, v = .func (.func 84) #[] #[.pointer (some ⟨p, 0, none⟩)] ∧ in8 ph ∧ W.cell? ⟨p, 0, none⟩ = some (.int .u8 ph) ∧ ∀ key id now, saysL k d key id now = some (6, [key, ph, now])
theorem WordIs.to {W X : World} {v : Value} {k : Int} {d : Nat} (h : WordIs W v k d) (hX : ∀ p ph, W.cell? ⟨p, 0, none⟩ = some (.int .u8 ph) → X.cell? ⟨p, 0, none⟩ = some (.int .u8 ph)) : WordIs X v k d := by
 rcases h with h | h | h | h | ⟨p, ph, h1, h2, h3, h4⟩
 ·exact .inl h
 ·exact .inr (.inl h)
 ·exact .inr (.inr (.inl h))
 ·exact .inr (.inr (.inr (.inl h)))
 ·exact .inr (.inr (.inr (.inr ⟨p, ph, h1, h2, hX _ _ h3, h4⟩)))
theorem WordIs.one {W : World} {v : Value} {k : Int} {d : Nat} (h : WordIs W v k d) : v.oneCell' = true := by
 rcases h with ⟨h, _⟩ | ⟨h, _⟩ | ⟨h, _⟩ | ⟨h, _⟩ | ⟨p, ph, h, _⟩ <;> rw [h] <;> rfl
def okW (k : Int) : Bool := decide (k = 1 ∨ k = 2 ∨ k = 4 ∨ k = 5 ∨ k = 6)
theorem says_none {k : Int} (h : okW k = false) (d key id now : Int) : saysL k d key id now = none := by
 unfold okW at h
 rw [decide_eq_false_iff_not] at h
 simp only [not_or] at h
 obtain ⟨h1, h2, h4, h5, h6⟩ := h
 unfold saysL
 simp [h1, h2, h4, h5, h6]
theorem says_far {k d : Int} (h : 5 < d) (key id now : Int) : saysL k d key id now = none := by
 unfold saysL
 rw [if_neg (by omega), if_neg (by omega), if_neg (by omega), if_neg (by omega)]
/-- The words of a kind. -/
structure PickW (W : World) (k : Int) (f0 f1 f2 f3 f4 f5 : Value) : Prop where
 p0 : WordIs W f0 k 0
 p1 : WordIs W f1 k 1
 p2 : WordIs W f2 k 2
 p3 : WordIs W f3 k 3
 p4 : WordIs W f4 k 4
 p5 : WordIs W f5 k 5
theorem PickW.to {W X : World} {k : Int} {f0 f1 f2 f3 f4 f5 : Value} (h : PickW W k f0 f1 f2 f3 f4 f5) (hX : ∀ p ph, W.cell? ⟨p, 0, none⟩ = some (.int .u8 ph) → X.cell? ⟨p, 0, none⟩ = some (.int .u8 ph)) : PickW X k f0 f1 f2 f3 f4 f5 :=
 ⟨h.p0.to hX, h.p1.to hX, h.p2.to hX, h.p3.to hX, h.p4.to hX, h.p5.to hX⟩
theorem PickW.at {W : World} {k : Int} {f0 f1 f2 f3 f4 f5 : Value} (h : PickW W k f0 f1 f2 f3 f4 f5) {d : Nat} (hd : d < 6) : ∃ f, #[f0, f1, f2, f3, f4, f5][d]? = some f ∧ WordIs W f k d := by
 match d, hd with
 | 0, _ => exact ⟨_, rfl, h.p0⟩
 | 1, _ => exact ⟨_, rfl, h.p1⟩
 | 2, _ => exact ⟨_, rfl, h.p2⟩
 | 3, _ => exact ⟨_, rfl, h.p3⟩
 | 4, _ => exact ⟨_, rfl, h.p4⟩
 | 5, _ => exact ⟨_, rfl, h.p5⟩
theorem word_pick {W y : World} {m p2 p4 p5 q5 : Nat} (k : Int) (h : WInv W m y (wordsT p2 p4 p5 q5) [(q5, 4), (p5, 6), (p4, 4), (p2, 1)]) :
  ∃ f0 f1 f2 f3 f4 f5, (∀ y' : World, DMap y' m (wordsT p2 p4 p5 q5) → (Instr.lookup 88 (.map (some m)) (.int .u8 k) true).run Tryz.prog y' = .ok (.tuple #[.agg #[f0, f1, f2, f3, f4, f5], .bool (okW k)]) y') ∧ PickW y k f0 f1 f2 f3 f4 f5 := by
 have c2 := (h.boxes (p2, 1) (by simp)).2
 have c4 := (h.boxes (p4, 4) (by simp)).2
 have c5 := (h.boxes (p5, 6) (by simp)).2
 have d5 := (h.boxes (q5, 4) (by simp)).2
 have nil : ∀ d : Nat, (∀ key id now, saysL k d key id now = none) → WordIs y .nilFunc k d := fun d hs => .inl ⟨rfl, hs⟩
 by_cases h1 : k = 1
 ·subst h1
  exact ⟨_, _, _, _, _, _, fun y' hy => lookW_run 1 y' m _ hy, ⟨nil 0 fun _ _ _ => rfl, .inr (.inl ⟨rfl, fun _ _ _ => rfl⟩), nil 2 fun _ _ _ => rfl, nil 3 fun _ _ _ => rfl, .inr (.inr (.inl ⟨rfl, fun _ _ _ => rfl⟩)), nil 5 fun _ _ _ => rfl⟩⟩
 by_cases h2 : k = 2
 ·subst h2
  exact ⟨_, _, _, _, _, _, fun y' hy => lookW_run 2 y' m _ hy, ⟨nil 0 fun _ _ _ => rfl, .inr (.inr (.inr (.inr ⟨p2, 1, rfl, ⟨by decide, by decide⟩, c2, fun _ _ _ => rfl⟩))), .inr (.inr (.inr (.inl ⟨rfl, fun _ _ _ => rfl⟩))), nil 3 fun _ _ _ => rfl, nil 4 fun _ _ _ => rfl, nil 5 fun _ _ _ => rfl⟩⟩
 by_cases h4 : k = 4
 ·subst h4
  exact ⟨_, _, _, _, _, _, fun y' hy => lookW_run 4 y' m _ hy, ⟨nil 0 fun _ _ _ => rfl, .inr (.inr (.inr (.inr ⟨p4, 4, rfl, ⟨by decide, by decide⟩, c4, fun _ _ _ => rfl⟩))), .inr (.inr (.inr (.inl ⟨rfl, fun _ _ _ => rfl⟩))), nil 3 fun _ _ _ => rfl, nil 4 fun _ _ _ => rfl, nil 5 fun _ _ _ => rfl⟩⟩
 by_cases h5 : k = 5
 ·subst h5
  exact ⟨_, _, _, _, _, _, fun y' hy => lookW_run 5 y' m _ hy, ⟨nil 0 fun _ _ _ => rfl, .inr (.inr (.inr (.inr ⟨p5, 6, rfl, ⟨by decide, by decide⟩, c5, fun _ _ _ => rfl⟩))), .inr (.inr (.inr (.inl ⟨rfl, fun _ _ _ => rfl⟩))), .inr (.inr (.inr (.inr ⟨q5, 4, rfl, ⟨by decide, by decide⟩, d5, fun _ _ _ => rfl⟩))), nil 4 fun _ _ _ => rfl, nil 5 fun _ _ _ => rfl⟩⟩
 by_cases h6 : k = 6
 ·subst h6
  exact ⟨_, _, _, _, _, _, fun y' hy => lookW_run 6 y' m _ hy, ⟨nil 0 fun _ _ _ => rfl, .inr (.inr (.inr (.inl ⟨rfl, fun _ _ _ => rfl⟩))), .inr (.inr (.inr (.inl ⟨rfl, fun _ _ _ => rfl⟩))), nil 3 fun _ _ _ => rfl, nil 4 fun _ _ _ => rfl, nil 5 fun _ _ _ => rfl⟩⟩
 ·have hok : okW k = false := by unfold okW; rw [decide_eq_false_iff_not]; simp [h1, h2, h4, h5, h6]
  have hl : (wordsT p2 p4 p5 q5).lookup k = none := by
   unfold wordsT
   simp only [List.lookup, show (k == 1) = false by simpa using h1, show (k == 2) = false by simpa using h2, show (k == 4) = false by simpa using h4, show (k == 5) = false by simpa using h5, show (k == 6) = false by simpa using h6]
  refine ⟨.nilFunc, .nilFunc, .nilFunc, .nilFunc, .nilFunc, .nilFunc, fun y' hy => ?_, ⟨nil 0 (says_none hok _), nil 1 (says_none hok _), nil 2 (says_none hok _), nil 3 (says_none hok _), nil 4 (says_none hok _), nil 5 (says_none hok _)⟩⟩
  have := lookW_run k y' m _ hy
  rw [hl] at this
  rw [hok]
  exact this
theorem PickW.one {W : World} {k : Int} {f0 f1 f2 f3 f4 f5 : Value} (h : PickW W k f0 f1 f2 f3 f4 f5) : (#[f0, f1, f2, f3, f4, f5] : Array Value).all (·.oneCell') = true := by
 simp [h.p0.one, h.p1.one, h.p2.one, h.p3.one, h.p4.one, h.p5.one]
/-- The words of a kind, as one array. -/
def ArrW (W : World) (k : Int) (fs : Array Value) : Prop := fs.size = 6 ∧ fs.all (·.oneCell') = true ∧ ∀ d : Nat, d < 6 → ∃ f, fs[d]? = some f ∧ WordIs W f k d
theorem ArrW.to {W X : World} {k : Int} {fs : Array Value} (h : ArrW W k fs) (hX : ∀ p ph, W.cell? ⟨p, 0, none⟩ = some (.int .u8 ph) → X.cell? ⟨p, 0, none⟩ = some (.int .u8 ph)) : ArrW X k fs :=
 ⟨h.1, h.2.1, fun d hd => by obtain ⟨f, h1, h2⟩ := h.2.2 d hd; exact ⟨f, h1, h2.to hX⟩⟩
theorem arr_pick {W y : World} {m p2 p4 p5 q5 : Nat} (k : Int) (h : WInv W m y (wordsT p2 p4 p5 q5) [(q5, 4), (p5, 6), (p4, 4), (p2, 1)]) :
  ∃ fs, (∀ y' : World, DMap y' m (wordsT p2 p4 p5 q5) → (Instr.lookup 88 (.map (some m)) (.int .u8 k) true).run Tryz.prog y' = .ok (.tuple #[.agg fs, .bool (okW k)]) y') ∧ ArrW y k fs := by
 obtain ⟨f0, f1, f2, f3, f4, f5, h1, h2⟩ := word_pick k h
 exact ⟨#[f0, f1, f2, f3, f4, f5], h1, rfl, h2.one, fun d hd => h2.at hd⟩
theorem arr_size {fs : Array Value} (h : fs.size = 6) : (Tryz.prog.info? 86).map (·.size) = some fs.size := by rw [h]; kernel_rfl
theorem arr_store {W : World} {T : Nat} {c fs : Array Value} {k : Int} {y : World} (hT : W.heap[T]? = some (.cells c 86)) (hc : c.size = 6) (h : ArrW y k fs) :
  (storeVar 86 ⟨T, 0, none⟩ (.agg fs)).run Tryz.prog W = .ok () (W.setRow T fs) :=
 run_storeVar_row W T 86 86 c fs hT (arr_size h.1) (by rw [hc, h.1]) h.2.1
theorem arr_store_new {y : World} {fs : Array Value} {k : Int} {y' : World} (h : ArrW y' k fs) : (storeVar 86 ⟨y.heap.size, 0, none⟩ (.agg fs)).run Tryz.prog (y.alloc (.cells #[.nilFunc, .nilFunc, .nilFunc, .nilFunc, .nilFunc, .nilFunc] 86)) = .ok () (y.alloc (.cells fs 86)) := by
 rw [arr_store (heap_new y _) rfl h, World.setRow_alloc_new]
theorem store_otherW (t : TypeId) (a : Addr) (v : Value) (_h : t ≠ 86) (h0 : ∀ w, (sizeOf t).run Tryz.prog w = .ok v.cells.size w) (w : World) : (storeVar t a v).run Tryz.prog w = (storeCells a v.cells.toList).run Tryz.prog w := by
 unfold storeVar
 simp [h0]
attribute [local go_sem] store_otherW
/-- Behind the look-up. -/
structure SyX (W X : World) (T : Nat) (k : Int) (fs : Array Value) : Prop where
 box : X.heap[T]? = some (.cells fs 86)
 bel : Below W.heap.size W X
 pick : ArrW X k fs
def SyR (W : World) (w : World) (x : CallV) (tv : Value) (now : Int) : Exit → Act → World → Prop
 | .normal, a', X => ∃ (T : Nat) (fs : Array Value) (u5 u11 u12 u13 u14 u15 u16 u17 u18 u19 u20 u21 u22 u23 u24 u25 u26 u27 u28 u29 u30 u31 u32 u33 u34 u35 u36 u37 u38 u39 : Value), a' = { tmps := #[encS x, tv, .int .i64 now, .pointer (some ⟨w.heap.size, 0, none⟩), .pointer (some ⟨w.heap.size + 1, 0, none⟩), u5, .pointer (some ⟨w.heap.size + 1 + 1, 0, none⟩), .bool false, .nilFunc, .pointer (some ⟨T, 0, none⟩), .bool (okW x.kind), u11, u12, u13, u14, u15, u16, u17, u18, u19, u20, u21, u22, u23, u24, u25, u26, u27, u28, u29, u30, u31, u32, u33, u34, u35, u36, u37, u38, u39], defers := [] } ∧ SyX W X T x.kind fs
 | _, _, _ => False
theorem syA {W1 y : World} {k : Int} {fs : Array Value} (hy : Below W1.heap.size W1 y) (hp : ArrW y k fs) : SyX W1 (y.alloc (.cells fs 86)) y.heap.size k fs :=
 ⟨heap_new _ _, hy.trans (((Below.refl _ _).alloc (Nat.le_refl _) _).mono hy.size), hp.to fun _ _ h => cell_below h ((Below.refl _ _).alloc (Nat.le_refl _) _)⟩
theorem arr_far {y : World} {T p : Nat} {ph : Int} {fs : Array Value} (hz : y.heap[T]? = some (.cells #[.nilFunc, .nilFunc, .nilFunc, .nilFunc, .nilFunc, .nilFunc] 86)) (h : y.cell? ⟨p, 0, none⟩ = some (.int .u8 ph)) : (y.setRow T fs).cell? ⟨p, 0, none⟩ = some (.int .u8 ph) := by
 have hne : p ≠ T := by
  intro e
  subst e
  rw [blk_cell hz] at h
  simp at h
 exact (World.cell?_of_block (w := y) (setRow_other y T p fs hne)).trans h
theorem syB {W1 y : World} {T : Nat} {k : Int} {fs : Array Value} (hT : W1.heap.size ≤ T) (hy : Below W1.heap.size W1 y) (hz : y.heap[T]? = some (.cells #[.nilFunc, .nilFunc, .nilFunc, .nilFunc, .nilFunc, .nilFunc] 86)) (hp : ArrW y k fs) :
  SyX W1 (y.setRow T fs) T k fs :=
 ⟨setRow_heap y T _ fs _ _ hz, below_setRow hy hT _, hp.to fun _p _ph h => arr_far hz h⟩
theorem res_rec_tmp {fn : Func} {tmps : Array Value} {r q : Tmp} {t : TypeId} {b : Nat} {c0 c1 u : Value} {W : World} (hres : fn.results = #[.cell r 44, .tmp q]) (h : tmps.getD r undef = .pointer (some ⟨b, 0, none⟩)) (hq : tmps.getD q undef = u) (hb : W.heap[b]? = some (.cells #[c0, c1] t)) :
  (results fn tmps).run Tryz.prog W = .ok (.tuple #[.agg #[c0, c1], u]) W := by
 obtain ⟨k0, k1, _⟩ := blk2 hb
 rw [Array.getD_eq_getD_getElem?] at h hq
 simp [results, hres, go_sem, h, hq, k0, k1]
theorem ne_func (f : Fn) (a b : Array Value) (w : World) : (binOp BinOp.neq 85 (.func f a b) .nilFunc).run Tryz.prog w = .ok (.bool true) w := by kernel_rfl
theorem ne_nil (w : World) : (binOp BinOp.neq 85 .nilFunc .nilFunc).run Tryz.prog w = .ok (.bool false) w := by kernel_rfl
/-- Where Says jumps to: nothing is said. -/
def SyJ (w : World) (r : Option (Int × List Int)) (a' : Act) (W : World) : Prop :=
 ∃ (u0 u1 u2 u3 u4 u5 u7 u8 u9 u10 u11 u12 u13 u14 u15 u16 u17 u18 u19 u20 u21 u22 u23 u24 u25 u26 u27 u28 u29 u30 u31 u32 u33 u34 u35 u36 u37 u38 u39 : Value), a' = { tmps := #[u0, u1, u2, u3, u4, u5, .pointer (some ⟨w.heap.size + 1 + 1, 0, none⟩), u7, u8, u9, u10, u11, u12, u13, u14, u15, u16, u17, u18, u19, u20, u21, u22, u23, u24, u25, u26, u27, u28, u29, u30, u31, u32, u33, u34, u35, u36, u37, u38, u39], defers := [] } ∧ W.heap[w.heap.size + 1 + 1]? = some (.cells #[.int .u8 0, .slice none 0 0] 44) ∧ Below w.heap.size w W ∧ r = none
set_option maxRecDepth 100000 in
set_option maxHeartbeats 4000000 in
theorem says_any (x : CallV) (c k i now : Int) (dn : Nat) (sa : Option Addr) (sn sc : Nat) (m : Bool) (w : World) (h8 : dn ≤ 255) :
  Calls Tryz.prog 11 #[encS x, tellT c k dn i (.slice sa sn sc) m, .int .i64 now] w (SEnd (saysL x.kind dn x.key i now) w) := by
 obtain ⟨W1, hW1⟩ : ∃ W1, W1 = ((w.alloc (.cells #[.int .i64 x.id, .int .u8 x.kind, .int .i64 x.key, .int .i64 x.sent] 40)).alloc (.cells #[.int .i64 c, .int .u8 k, .int .u8 dn, .int .i64 i, .slice sa sn sc, .bool m] 36)).alloc (.cells #[.int .u8 0, .slice none 0 0] 44) := ⟨_, rfl⟩
 have hb1 : Below w.heap.size w W1 := by rw [hW1]; exact (((Below.refl _ _).alloc (Nat.le_refl _) _).alloc (by simp) _).alloc (by simp; omega) _
 have n0 : W1.heap[w.heap.size]? = some (.cells #[.int .i64 x.id, .int .u8 x.kind, .int .i64 x.key, .int .i64 x.sent] 40) := by rw [hW1]; exact blk_alloc (blk_alloc (heap_new _ _) _) _
 have n1 : W1.heap[w.heap.size + 1]? = some (.cells #[.int .i64 c, .int .u8 k, .int .u8 dn, .int .i64 i, .slice sa sn sc, .bool m] 36) := by rw [hW1]; exact blk_alloc (heap_new2 _ _ _) _
 have n2 : W1.heap[w.heap.size + 1 + 1]? = some (.cells #[.int .u8 0, .slice none 0 0] 44) := by rw [hW1]; simpa using heap_new2 (w.alloc _) _ _
 have HW1 := hid hW1
 have HB1 := hid hb1
 have N0 := hid n0
 have N1 := hid n1
 have N2 := hid n2
 have hl1 : w.heap.size < W1.heap.size := blk_lt n0
 have k0 : W1.drew.cell? ⟨w.heap.size, 1, none⟩ = some (.int .u8 x.kind) := blk_cell n0 1
 have HS0 := hid k0
 have HS1 := hid (cell_below k0 ((Below.refl _ _).alloc (Nat.le_refl _) (.cells #[.nilFunc, .nilFunc, .nilFunc, .nilFunc, .nilFunc, .nilFunc] 86)))
 clear hb1 n0 n1 n2 hW1
 unfold encS tellT
 go_enter Tryz.func11, Tryz.ntmps11
 go_wp2_with fail
 refine wp_scope_jumps 0 (SyJ w (saysL x.kind dn x.key i now)) (fun _ _ => 0) rfl ?first ?pass
 case pass =>
  rintro a' W ⟨u0, u1, u2, u3, u4, u5, u7, u8, u9, u10, u11, u12, u13, u14, u15, u16, u17, u18, u19, u20, u21, u22, u23, u24, u25, u26, u27, u28, u29, u30, u31, u32, u33, u34, u35, u36, u37, u38, u39, rfl, hz, hb, hn⟩
  dsimp only
  obtain ⟨z0, z1, zf, zl⟩ := blk2 hz
  have HZ := hid hz
  have HB := hid hb
  have HNO := hid hn
  clear hz hb hn k0 hl1
  go_wp2
  try simp only [Exit.jump]
  exact bodyPost_ret (res_rec_tmp rfl rfl rfl (blk_set (blk_set HZ.out 0 _) 1 _)) rfl (.inl ⟨HNO.out, rfl, (HB.out.setCell (p := ⟨w.heap.size + 1 + 1, 0, none⟩) (by simp; omega) _).setCell (p := ⟨w.heap.size + 1 + 1, 1, none⟩) (by simp; omega) _⟩)
 case first =>
  go_wp2_with fail
  rw [← HW1.out]
  refine wp_mono (Q := SyR W1 w x (tellT c k dn i (.slice sa sn sc) m) now) ?region ?rest
  case region =>
   go_region_held3 (fun w' => w'.cell? ⟨w.heap.size, 1, none⟩ = some (.int .u8 x.kind)) (first | exact HS0.out | exact HS1.out | exact HS2.out | exact HS3.out | exact HS4.out | exact HS5.out) ((go_at_call 34; refine (words_any _).mono ?_; rintro e y ⟨m, p2, p4, p5, q5, rfl, hd⟩; obtain ⟨fs, hlk, hpk⟩ := arr_pick x.kind hd; have hlk1 := hlk y hd.map; have hlk2 := hlk (y.alloc (.cells #[.nilFunc, .nilFunc, .nilFunc, .nilFunc, .nilFunc, .nilFunc] 86)) (hd.map.below ((Below.refl _ _).alloc (Nat.le_refl _) _) hd.map.lt); have hst1 := arr_store_new (y := y) hpk; have HPK := hid hpk; have HBD := hid hd.bel; have HS2 := hid (show y.cell? ⟨w.heap.size, 1, none⟩ = some (.int .u8 x.kind) from by first | exact cell_below HS0.out hd.bel | exact cell_below HS1.out hd.bel); have HS3 := hid (cell_below HS2.out ((Below.refl _ _).alloc (Nat.le_refl _) (.cells #[.nilFunc, .nilFunc, .nilFunc, .nilFunc, .nilFunc, .nilFunc] 86))); have HS4 := hid (cell_below HS2.out ((Below.refl _ _).alloc (Nat.le_refl _) (.cells fs 86))); try (have z := blk_below (heap_new W1.drew (.cells #[.nilFunc, .nilFunc, .nilFunc, .nilFunc, .nilFunc, .nilFunc] 86)) hd.bel (by simp); have hst2 := arr_store (show y.heap[W1.heap.size]? = _ from z) rfl hpk; have ZZ := hid z; have zl : W1.heap.size < y.heap.size := blk_lt z; have HS5 := hid (show (y.setRow W1.heap.size fs).cell? ⟨w.heap.size, 1, none⟩ = some (.int .u8 x.kind) from (World.cell?_of_block (w := y) (setRow_other y W1.heap.size w.heap.size fs (Nat.ne_of_lt hl1))).trans HS2.out); clear z); clear hlk hpk hd))
   all_goals
    first
     | exact ⟨_, fs, _, _, _, _, _, _, _, _, _, _, _, _, _, _, _, _, _, _, _, _, _, _, _, _, _, _, _, _, _, _, rfl, syA ((below_drewN (Below.refl W1.heap.size W1) 1).trans HBD.out) HPK.out⟩
     | exact ⟨_, fs, _, _, _, _, _, _, _, _, _, _, _, _, _, _, _, _, _, _, _, _, _, _, _, _, _, _, _, _, _, _, rfl, syB (Nat.le_refl _) (((below_drewN (Below.refl W1.heap.size W1) 1).alloc (Nat.le_refl _) _).trans (HBD.out.mono (by simp))) ZZ.out HPK.out⟩
  case rest =>
   intro e a' X hR
   match e, hR with
   | .normal, hR =>
   obtain ⟨T, fs, u5, u11, u12, u13, u14, u15, u16, u17, u18, u19, u20, u21, u22, u23, u24, u25, u26, u27, u28, u29, u30, u31, u32, u33, u34, u35, u36, u37, u38, u39, rfl, hX⟩ := hR
   dsimp only
   have HBX := hid (HB1.out.trans (hX.bel.mono HB1.out.size))
   have HX := hid hX
   have HR2 := hid (blk_below N2.out hX.bel (blk_lt N2.out))
   have r0 := blk_below N0.out hX.bel (blk_lt N0.out)
   have r1 := blk_below N1.out hX.bel (blk_lt N1.out)
   have c2 : X.cell? ⟨w.heap.size, 2, none⟩ = some (.int .i64 x.key) := blk_cell r0 2
   have t2 : X.cell? ⟨w.heap.size + 1, 2, none⟩ = some (.int .u8 dn) := blk_cell r1 2
   have t3 : X.cell? ⟨w.heap.size + 1, 3, none⟩ = some (.int .i64 i) := blk_cell r1 3
   have l0 := blk_lt r0
   have l1 := blk_lt r1
   have l2 := blk_lt HR2.out
   clear hX r0 r1 k0 hl1
   unfold encS tellT
   cases hok : okW x.kind with
   | false =>
    have HNO := hid (says_none hok dn x.key i now)
    clear hok
    go_wp2
    refine wp_goto ?_
    simp only [Exit.then, Exit.jump]
    exact ⟨trivial, _, _, _, _, _, _, _, _, _, _, _, _, _, _, _, _, _, _, _, _, _, _, _, _, _, _, _, _, _, _, _, _, _, _, _, _, _, _, _, rfl, HR2.out, HBX.out, HNO.out⟩
   | true =>
    clear hok
    by_cases h6 : dn < 6
    ·obtain ⟨f, hf, hw⟩ := HX.out.pick.2.2 dn h6
     have cf : X.cell? ⟨T, dn, none⟩ = some f := (blk_cell HX.out.box dn).trans hf
     have lT := blk_lt HX.out.box
     have hsz := HX.out.pick.1
     have nf := ne_func
     have nn := ne_nil
     clear hf
     rcases hw with ⟨rfl, hs⟩ | ⟨rfl, hs⟩ | ⟨rfl, hs⟩ | ⟨rfl, hs⟩ | ⟨p, ph, rfl, h1, h2, hs⟩
     ·have HS := hid (hs x.key i now)
      clear hs
      obtain ⟨z0, z1, zf, zl⟩ := blk2 HR2.out
      go_wp2
      refine wp_label ?_
      simp only [Exit.then]
      go_wp2
      try simp only [Exit.jump]
      exact bodyPost_ret (res_rec_tmp rfl rfl rfl (blk_set (blk_set HR2.out 0 _) 1 _)) rfl (.inl ⟨HS.out, rfl, (HBX.out.setCell (p := ⟨w.heap.size + 1 + 1, 0, none⟩) (by simp; omega) _).setCell (p := ⟨w.heap.size + 1 + 1, 1, none⟩) (by simp; omega) _⟩)
     ·have HS := hid (hs x.key i now)
      clear hs
      go_wp2_with fail
      refine (wmade_any x.key i now X).mono ?_
      rintro e Y ⟨v, rfl, ho, hb⟩
      obtain ⟨z0, z1, zf, zl⟩ := blk2 (blk_below HR2.out hb (blk_lt HR2.out))
      have HZ := hid (blk_below HR2.out hb (blk_lt HR2.out))
      have HO := hid (ho.mono HBX.out.size)
      have HBY := hid (HBX.out.trans (hb.mono HBX.out.size))
      obtain ⟨va, vn, vc, rfl⟩ := ho.shape
      clear ho hb
      go_wp2
      try simp only [Exit.jump]
      exact bodyPost_ret (res_rec_tmp rfl rfl rfl (blk_set (blk_set HZ.out 0 _) 1 _)) rfl (.inr ⟨_, _, _, HS.out, rfl, owns_at (owns_at HO.out HZ.out (by decide) 0 _) (blk_set HZ.out 0 _) (by decide) 1 _, (HBY.out.setCell (p := ⟨w.heap.size + 1 + 1, 0, none⟩) (by simp; omega) _).setCell (p := ⟨w.heap.size + 1 + 1, 1, none⟩) (by simp; omega) _⟩)
     ·have HS := hid (hs x.key i now)
      clear hs
      go_wp2_with fail
      refine (wfail_any x.key i now X).mono ?_
      rintro e Y ⟨v, rfl, ho, hb⟩
      obtain ⟨z0, z1, zf, zl⟩ := blk2 (blk_below HR2.out hb (blk_lt HR2.out))
      have HZ := hid (blk_below HR2.out hb (blk_lt HR2.out))
      have HO := hid (ho.mono HBX.out.size)
      have HBY := hid (HBX.out.trans (hb.mono HBX.out.size))
      obtain ⟨va, vn, vc, rfl⟩ := ho.shape
      clear ho hb
      go_wp2
      try simp only [Exit.jump]
      exact bodyPost_ret (res_rec_tmp rfl rfl rfl (blk_set (blk_set HZ.out 0 _) 1 _)) rfl (.inr ⟨_, _, _, HS.out, rfl, owns_at (owns_at HO.out HZ.out (by decide) 0 _) (blk_set HZ.out 0 _) (by decide) 1 _, (HBY.out.setCell (p := ⟨w.heap.size + 1 + 1, 0, none⟩) (by simp; omega) _).setCell (p := ⟨w.heap.size + 1 + 1, 1, none⟩) (by simp; omega) _⟩)
     ·have HS := hid (hs x.key i now)
      clear hs
      go_wp2_with fail
      refine (wgone_any x.key i now X).mono ?_
      rintro e Y ⟨v, rfl, ho, hb⟩
      obtain ⟨z0, z1, zf, zl⟩ := blk2 (blk_below HR2.out hb (blk_lt HR2.out))
      have HZ := hid (blk_below HR2.out hb (blk_lt HR2.out))
      have HO := hid (ho.mono HBX.out.size)
      have HBY := hid (HBX.out.trans (hb.mono HBX.out.size))
      obtain ⟨va, vn, vc, rfl⟩ := ho.shape
      clear ho hb
      go_wp2
      try simp only [Exit.jump]
      exact bodyPost_ret (res_rec_tmp rfl rfl rfl (blk_set (blk_set HZ.out 0 _) 1 _)) rfl (.inr ⟨_, _, _, HS.out, rfl, owns_at (owns_at HO.out HZ.out (by decide) 0 _) (blk_set HZ.out 0 _) (by decide) 1 _, (HBY.out.setCell (p := ⟨w.heap.size + 1 + 1, 0, none⟩) (by simp; omega) _).setCell (p := ⟨w.heap.size + 1 + 1, 1, none⟩) (by simp; omega) _⟩)
     ·have HS := hid (hs x.key i now)
      have HW := hid (wto_any x.key i now ph p X h2 h1)
      clear hs h1 h2
      go_wp2_with fail
      refine (HW.out).mono ?_
      rintro e Y ⟨v, rfl, ho, hb⟩
      obtain ⟨z0, z1, zf, zl⟩ := blk2 (blk_below HR2.out hb (blk_lt HR2.out))
      have HZ := hid (blk_below HR2.out hb (blk_lt HR2.out))
      have HO := hid (ho.mono HBX.out.size)
      have HBY := hid (HBX.out.trans (hb.mono HBX.out.size))
      obtain ⟨va, vn, vc, rfl⟩ := ho.shape
      clear ho hb
      go_wp2
      try simp only [Exit.jump]
      exact bodyPost_ret (res_rec_tmp rfl rfl rfl (blk_set (blk_set HZ.out 0 _) 1 _)) rfl (.inr ⟨_, _, _, HS.out, rfl, owns_at (owns_at HO.out HZ.out (by decide) 0 _) (blk_set HZ.out 0 _) (by decide) 1 _, (HBY.out.setCell (p := ⟨w.heap.size + 1 + 1, 0, none⟩) (by simp; omega) _).setCell (p := ⟨w.heap.size + 1 + 1, 1, none⟩) (by simp; omega) _⟩)
    ·have HNO := hid (says_far (k := x.kind) (d := dn) (by omega) x.key i now)
     have d6 : decide ((6 : Int) ≤ (dn : Int)) = true := decide_eq_true (by omega)
     go_wp2
     refine wp_goto ?_
     simp only [Exit.then, Exit.jump]
     exact ⟨trivial, _, _, _, _, _, _, _, _, _, _, _, _, _, _, _, _, _, _, _, _, _, _, _, _, _, _, _, _, _, _, _, _, _, _, _, _, _, _, _, rfl, HR2.out, HBX.out, HNO.out⟩
end Go.Proofs.YthhgpiolcnojfaaGreatDoor

/- hear.Heard: whose answer it is. -/
namespace Go.Proofs.YthhgpiolcnojfaaGreatDoor
open Go.RowKit Go.Shelf

/-- Whose answer it is. -/
def heardL (L : List CallV) (c k : Int) : CallV × Bool :=
 if (findC L c).2 = true ∧ (findC L c).1.kind = k then ((findC L c).1, true) else (⟨0, 0, 0, 0⟩, false)
theorem res_call_tmp {fn : Func} {tmps : Array Value} {r q : Tmp} {t : TypeId} {b : Nat} {c0 c1 c2 c3 u : Value} {W : World} (hres : fn.results = #[.cell r 40, .tmp q]) (h : tmps.getD r undef = .pointer (some ⟨b, 0, none⟩)) (hq : tmps.getD q undef = u) (hb : W.heap[b]? = some (.cells #[c0, c1, c2, c3] t)) :
  (results fn tmps).run Tryz.prog W = .ok (.tuple #[.agg #[c0, c1, c2, c3], u]) W := by
 obtain ⟨k0, k1, k2, k3, _, _⟩ := blk4 hb
 rw [Array.getD_eq_getD_getElem?] at h hq
 simp [results, hres, go_sem, h, hq, k0, k1, k2, k3]
theorem set4 {W : World} {b : Nat} {a0 a1 a2 a3 : Value} {t : TypeId} (h : W.heap[b]? = some (.cells #[a0, a1, a2, a3] t)) (x0 x1 x2 x3 : Value) :
  ((((W.setCell ⟨b, 0, none⟩ x0).setCell ⟨b, 1, none⟩ x1).setCell ⟨b, 2, none⟩ x2).setCell ⟨b, 3, none⟩ x3).heap[b]? = some (.cells #[x0, x1, x2, x3] t) := by
 simpa using blk_set (blk_set (blk_set (blk_set h 0 x0) 1 x1) 2 x2) 3 x3
set_option maxRecDepth 100000 in
set_option maxHeartbeats 2000000 in
theorem heard_any (ep nx c k d i : Int) (s : Value) (L : List CallV) (sa : Option Addr) (sn sc : Nat) (m : Bool) (w : World) (hn : L.length ≤ 1000000) (hs : Row12 w s L) :
  Calls Tryz.prog 9 #[calls ep nx s, tellT c k d i (.slice sa sn sc) m] w fun e w' => e = .returned (.tuple #[encS (heardL L c k).1, .bool (heardL L c k).2]) ∧ Below w.heap.size w w' := by
 obtain ⟨W1, hW1⟩ : ∃ W1, W1 = ((w.alloc (.cells #[.int .i64 ep, .int .i64 nx, s] 33)).alloc (.cells #[.int .i64 c, .int .u8 k, .int .u8 d, .int .i64 i, .slice sa sn sc, .bool m] 36)).alloc (.cells #[.int .i64 0, .int .u8 0, .int .i64 0, .int .i64 0] 40) := ⟨_, rfl⟩
 have hb1 : Below w.heap.size w W1 := by rw [hW1]; exact (((Below.refl _ _).alloc (Nat.le_refl _) _).alloc (by simp) _).alloc (by simp; omega) _
 have n1 : W1.heap[w.heap.size + 1]? = some (.cells #[.int .i64 c, .int .u8 k, .int .u8 d, .int .i64 i, .slice sa sn sc, .bool m] 36) := by rw [hW1]; exact blk_alloc (heap_new2 _ _ _) _
 have n2 : W1.heap[w.heap.size + 1 + 1]? = some (.cells #[.int .i64 0, .int .u8 0, .int .i64 0, .int .i64 0] 40) := by rw [hW1]; simpa using heap_new2 (w.alloc _) _ _
 obtain ⟨va, vc, rfl, _⟩ := hs.open
 obtain ⟨⟨y, b⟩, hy⟩ : ∃ r, findC L c = r := ⟨_, rfl⟩
 have hf := find_any ep nx c _ L W1 hn (hs.below hb1)
 rw [hy] at hf
 obtain ⟨HL, hHL⟩ : ∃ r, heardL L c k = r := ⟨_, rfl⟩
 rw [hHL]
 unfold heardL at hHL
 rw [hy] at hHL
 have HF := hid hf
 have HW1 := hid hW1
 have HB1 := hid hb1
 have N1 := hid n1
 have N2 := hid n2
 have HH := hid hHL
 clear hf hb1 n1 n2 hW1 hs hHL hy
 unfold calls tellT
 go_enter Tryz.func9, Tryz.ntmps9
 go_wp2_with fail
 rw [← HW1.out]
 refine HF.out.mono ?_
 rintro e V ⟨rfl, hb⟩
 have r1 := blk_below N1.out hb (blk_lt N1.out)
 have r2 := blk_below N2.out hb (blk_lt N2.out)
 have t1 : V.cell? ⟨w.heap.size + 1, 1, none⟩ = some (.int .u8 k) := blk_cell r1 1
 have l1 := blk_lt r1
 obtain ⟨z0, z1, z2, z3, zf, zl⟩ := blk4 r2
 have R2 := hid r2
 have HB := hid (HB1.out.trans (hb.mono HB1.out.size))
 clear hb r1 r2
 have hle : w.heap.size ≤ w.heap.size + 1 + 1 := by omega
 unfold encS
 cases b with
 | false =>
  have HE := hid (show HL = (⟨0, 0, 0, 0⟩, false) by rw [← HH.out]; rfl)
  go_wp2
  exact bodyPost_ret (res_call_tmp rfl rfl rfl (set4 (set4 R2.out _ _ _ _) _ _ _ _)) rfl ⟨by rw [HE.out]; rfl, below_set4 (below_set4 HB.out hle _ _ _ _) hle _ _ _ _⟩
 | true =>
  by_cases hk : y.kind = k
  ·have HE := hid (show HL = (y, true) by rw [← HH.out]; simp [hk])
   have hk2 : (y.kind != k) = false := by simp [hk]
   clear hk
   go_wp2
   exact bodyPost_ret (res_call_tmp rfl rfl rfl (set4 (set4 R2.out _ _ _ _) _ _ _ _)) rfl ⟨by rw [HE.out]; rfl, below_set4 (below_set4 HB.out hle _ _ _ _) hle _ _ _ _⟩
  ·have HE := hid (show HL = (⟨0, 0, 0, 0⟩, false) by rw [← HH.out]; simp [hk])
   have hk2 : (y.kind != k) = true := by simpa using hk
   clear hk
   go_wp2
   exact bodyPost_ret (res_call_tmp rfl rfl rfl (set4 (set4 R2.out _ _ _ _) _ _ _ _)) rfl ⟨by rw [HE.out]; rfl, below_set4 (below_set4 HB.out hle _ _ _ _) hle _ _ _ _⟩
end Go.Proofs.YthhgpiolcnojfaaGreatDoor
