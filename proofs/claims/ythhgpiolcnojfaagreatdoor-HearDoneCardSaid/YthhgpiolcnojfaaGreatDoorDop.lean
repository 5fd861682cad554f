/- herdref20.Ask of what is no launch; herdref20.Open of a brain of one Kept. Printed by gn_dop.py. -/
import Derived.Test.YthhgpiolcnojfaaGreatDoorRso
import Derived.Test.YthhgpiolcnojfaaGreatDoorRf6
import Derived.Test.YthhgpiolcnojfaaGreatDoorCld
namespace Go.Proofs.YthhgpiolcnojfaaGreatDoor
open Go.RowKit Go.Shelf
attribute [-go_sem] loadVar storeVar
attribute [local go_sem] load_other store_other

theorem res_ask_tmp {fn : Func} {tmps : Array Value} {r q : Tmp} {b : Nat} {c0 c1 c2 c3 c4 c5 u : Value} {W : World} (hres : fn.results = #[.cell r 80, .tmp q]) (h : tmps.getD r undef = .pointer (some ⟨b, 0, none⟩)) (hq : tmps.getD q undef = u) (hb : W.heap[b]? = some (.cells #[c0, c1, c2, c3, c4, c5] 80)) :
  (results fn tmps).run Tryz.prog W = .ok (.tuple #[.agg #[c0, c1, c2, c3, c4, c5], u]) W := by
 have k0 := blk_cell hb 0
 have k1 := blk_cell hb 1
 have k2 := blk_cell hb 2
 have k3 := blk_cell hb 3
 have k4 := blk_cell hb 4
 have k5 := blk_cell hb 5
 simp only [List.getElem?_toArray, List.getElem?_cons_succ, List.getElem?_cons_zero] at k0 k1 k2 k3 k4 k5
 rw [Array.getD_eq_getD_getElem?] at h hq
 simp [results, hres, loadVar, go_sem, h, hq, k0, k1, k2, k3, k4, k5]
theorem set6a {W : World} {b : Nat} {a0 a1 a2 a3 a4 a5 : Value} {t : TypeId} (h : W.heap[b]? = some (.cells #[a0, a1, a2, a3, a4, a5] t)) (x0 x1 x2 x3 x4 x5 : Value) :
  ((((((W.setCell ⟨b, 0, none⟩ x0).setCell ⟨b, 1, none⟩ x1).setCell ⟨b, 2, none⟩ x2).setCell ⟨b, 3, none⟩ x3).setCell ⟨b, 4, none⟩ x4).setCell ⟨b, 5, none⟩ x5).heap[b]? = some (.cells #[x0, x1, x2, x3, x4, x5] t) := blk_set (blk_set (blk_set (blk_set (blk_set (blk_set h 0 _) 1 _) 2 _) 3 _) 4 _) 5 _
theorem below6a {W w : World} {B b : Nat} (h : Below B w W) (hb : B ≤ b) (x0 x1 x2 x3 x4 x5 : Value) :
  Below B w ((((((W.setCell ⟨b, 0, none⟩ x0).setCell ⟨b, 1, none⟩ x1).setCell ⟨b, 2, none⟩ x2).setCell ⟨b, 3, none⟩ x3).setCell ⟨b, 4, none⟩ x4).setCell ⟨b, 5, none⟩ x5) :=
 (((((h.setCell (p := ⟨b, 0, none⟩) hb _).setCell (p := ⟨b, 1, none⟩) hb _).setCell (p := ⟨b, 2, none⟩) hb _).setCell (p := ⟨b, 3, none⟩) hb _).setCell (p := ⟨b, 4, none⟩) hb _).setCell (p := ⟨b, 5, none⟩) hb _
set_option maxRecDepth 100000 in
set_option maxHeartbeats 2000000 in
theorem rask20_any (B : BrainV) (bv : Array Value) (kd key call : Int) (h1 : kd ≠ 1) (hi : decide ((⟨kd, key⟩ : DutyV) ∈ dutiesL B.I B.K) = true) (w : World) (hB : BrIs w B (.agg bv)) (hl1 : B.I.length ≤ 1000) (hl2 : B.K.length ≤ 1000) :
  Calls Tryz.prog 58 #[.agg bv, .agg #[.int .u8 kd, .int .i64 key], .int .i64 call] w fun e w' => e = .returned (.tuple #[.agg #[.int .u8 kd, .int .i64 call, .int .i64 key, .int .i64 0, .int .i64 0, .int .i64 0], .int .i64 0]) ∧ Below w.heap.size w w' := by
 obtain ⟨W1, hW1⟩ : ∃ W, W = ((w.alloc (.cells bv 30)).alloc (.cells #[.int .u8 kd, .int .i64 key] 61)).alloc (.cells #[.int .u8 0, .int .i64 0, .int .i64 0, .int .i64 0, .int .i64 0, .int .i64 0] 80) := ⟨_, rfl⟩
 have hb1 : Below w.heap.size w W1 := by rw [hW1]; exact (((Below.refl _ _).alloc (Nat.le_refl _) _).alloc (by simp) _).alloc (by simp; omega) _
 have n0 : BB W1 w.heap.size bv := by rw [hW1]; exact blk_alloc (blk_alloc (heap_new _ _) _) _
 have N1 := hid (show W1.heap[w.heap.size + 1]? = some (.cells #[.int .u8 kd, .int .i64 key] 61) by rw [hW1]; exact blk_alloc (heap_new2 _ _ _) _)
 have M1 := hid (show W1.heap[w.heap.size + 1 + 1]? = some (.cells #[.int .u8 0, .int .i64 0, .int .i64 0, .int .i64 0, .int .i64 0, .int .i64 0] 80) by rw [hW1]; simpa using heap_new2 (w.alloc _) _ _)
 obtain ⟨mv, iv, kv, e, p1, p2, p3⟩ := hB
 have V1 := hid (show VarIs W1 w.heap.size B (.agg bv) from by cases e; exact ⟨mv, iv, kv, rfl, n0, p1.below hb1, p2.below hb1, p3.below hb1⟩)
 have HB1 := hid hb1
 have HI := hid hi
 have e1 : (kd == 1) = false := by simpa using h1
 clear e p1 p2 p3 n0 hb1 hi h1
 go_enter Tryz.func58, Tryz.ntmps58
 go_upto_region 1 with (fail)
 rw [← hW1]
 clear hW1
 have hld := V1.out.load
 obtain ⟨d0, d1, df, dl⟩ := blk2 N1.out
 go_wp2_with fail
 clear hld d0 d1 df dl
 refine (dis20_is (B := B) true kd key HI.out V1.out.is hl1 hl2).mono ?_
 rintro e W2 ⟨rfl, hb⟩
 have N2 := hid (blk_below N1.out hb (blk_lt N1.out))
 have M2 := hid (blk_below M1.out hb (blk_lt M1.out))
 have HB2 := hid (HB1.out.trans (hb.mono HB1.out.size))
 clear hb
 obtain ⟨d0, d1, df, dl⟩ := blk2 N2.out
 obtain ⟨a0, a1, a2, a3, a4, a5, af, al⟩ := blk6 M2.out
 go_wp2
 have hbq := below6a HB2.out (show w.heap.size ≤ w.heap.size + 1 + 1 by omega) (.int .u8 kd) (.int .i64 call) (.int .i64 key) (.int .i64 0) (.int .i64 0) (.int .i64 0)
 refine bodyPost_ret (res_ask_tmp rfl rfl rfl (blk_alloc (set6a M2.out _ _ _ _ _ _) _)) rfl ⟨rfl, ?_⟩
 exact hbq.alloc hbq.size _
theorem hidd {p : Prop} (h : p) : Hid p := h
structure AskY where
 kind : Int
 call : Int
 a : Int
def encY (x : AskY) : List Value := [.int .u8 x.kind, .int .i64 x.call, .int .i64 x.a, .int .i64 0, .int .i64 0, .int .i64 0]
theorem encY_len (x : AskY) : (encY x).length = 6 := rfl
theorem encY_one (x : AskY) : ∀ u ∈ encY x, u.oneCell' = true := by
 intro u hu
 simp only [encY, List.mem_cons, List.mem_nil_iff, or_false] at hu
 rcases hu with rfl | rfl | rfl | rfl | rfl | rfl <;> rfl
theorem rask20_letter (B : BrainV) (bv : Array Value) (kd key call : Int) (h1 : kd ≠ 1) (hi : decide ((⟨kd, key⟩ : DutyV) ∈ dutiesL B.I B.K) = true) (w : World) (hB : BrIs w B (.agg bv)) (hl1 : B.I.length ≤ 1000) (hl2 : B.K.length ≤ 1000) :
  Calls Tryz.prog 58 #[.agg bv, .agg #[.int .u8 kd, .int .i64 key], .int .i64 call] w fun e w' => ∃ rv : Array Value, e = .returned (.tuple #[.agg rv, .int .i64 0]) ∧ Hid (rv = #[.int .u8 kd, .int .i64 call, .int .i64 key, .int .i64 0, .int .i64 0, .int .i64 0]) ∧ rv.size = 6 ∧ rv.all (·.oneCell') = true ∧ Below w.heap.size w w' :=
 (rask20_any B bv kd key call h1 hi w hB hl1 hl2).mono fun _ _ h => ⟨_, h.1, hidd rfl, rfl, by simp [Value.oneCell'], h.2⟩
/-- What one Kept's duties open. -/
def opensD (D : List DutyV) (now : Int) : List CallV := D.map fun d => ⟨549755813889, d.kind, d.key, now⟩
def asksD (D : List DutyV) : List AskY := D.map fun d => ⟨d.kind, 549755813889, d.key⟩
def OpD (D : List DutyV) (now : Int) (w : World) (e : Ending) (w' : World) : Prop :=
 ∃ v u, e = .returned (.tuple #[calls 524288 (1 + (D.length : Int)) v, u]) ∧ Row12 w' v (opensD D now) ∧ RowOf 6 encY w' u (asksD D) ∧ Below w.heap.size w w'
theorem keptD_one (k : KeptV) : (keptD k).length ≤ 1 ∧ ∀ d ∈ keptD k, d.key = k.id ∧ d.kind = askedK k.phase ∧ askedB k.phase = true := by
 unfold keptD
 split
 ·rename_i h
  exact ⟨by simp, fun d hd => by simp only [List.mem_singleton] at hd; rw [hd]; exact ⟨rfl, rfl, h⟩⟩
 ·exact ⟨by simp, fun d hd => by cases hd⟩
theorem duties_one {B : BrainV} {k : KeptV} (hI : B.I = []) (hK : B.K = [k]) : dutiesL B.I B.K = keptD k := by
 unfold dutiesL
 rw [hI, hK]
 simp
theorem asked_kinds {p : Int} (h : askedB p = true) : askedK p = 2 ∨ askedK p = 4 ∨ askedK p = 5 ∨ askedK p = 6 := by
 unfold askedB at h
 unfold askedK
 have h := of_decide_eq_true h
 rcases h with rfl | rfl | rfl | rfl <;> decide
theorem dof20_is {B : BrainV} {v : Value} {w : World} (h : BrIs w B v) (hl1 : B.I.length ≤ 1000) (hl2 : B.K.length ≤ 1000) :
  Calls Tryz.prog 52 #[v] w fun e w' => ∃ u, e = .returned u ∧ OwnD w' w.heap.size u (dutiesL B.I B.K) ∧ Below w.heap.size w w' := by
 obtain ⟨mv, iv, kv, rfl, h1, h2, h3⟩ := h
 exact dof20_any _ iv kv (brT_bc _ _ _ _ _) B.I B.K w hl1 hl2 h2 h3
theorem below3a {W w : World} {B b : Nat} (h : Below B w W) (hb : B ≤ b) (x0 x1 x2 : Value) :
  Below B w (((W.setCell ⟨b, 0, none⟩ x0).setCell ⟨b, 1, none⟩ x1).setCell ⟨b, 2, none⟩ x2) :=
 ((h.setCell (p := ⟨b, 0, none⟩) hb _).setCell (p := ⟨b, 1, none⟩) hb _).setCell (p := ⟨b, 2, none⟩) hb _
theorem infoAk : (Tryz.prog.info? 80).map (fun i => (i.zero, i.size, i.bytes)) = some (some (.agg #[.int .u8 0, .int .i64 0, .int .i64 0, .int .i64 0, .int .i64 0, .int .i64 0]), 6, 48) := by kernel_rfl
theorem res_calls_t {fn : Func} {tmps : Array Value} {r q : Tmp} {b : Nat} {x y z u : Value} {W : World} (hres : fn.results = #[.cell r 33, .tmp q]) (h : tmps.getD r undef = .pointer (some ⟨b, 0, none⟩)) (hq : tmps.getD q undef = u)
  (hb : W.heap[b]? = some (.cells #[x, y, z] 33)) : (results fn tmps).run Tryz.prog W = .ok (.tuple #[.agg #[x, y, z], u]) W := by
 obtain ⟨k0, k1, k2, _, _⟩ := blk3 hb
 rw [Array.getD_eq_getD_getElem?] at h hq
 simp [results, hres, loadVar, go_sem, h, hq, k0, k1, k2]
theorem var_of {w W : World} {B : BrainV} {bv : Array Value} {T : Nat} (h : BrIs w B (.agg bv)) (hT : BB W T bv) (hb : Below w.heap.size w W) : VarIs W T B (.agg bv) := by
 obtain ⟨mv, iv, kv, e, p1, p2, p3⟩ := h
 cases e
 exact ⟨mv, iv, kv, rfl, hT, p1.below hb, p2.below hb, p3.below hb⟩
theorem row_any {α : Type} {k : Nat} {enc : α → List Value} {w : World} {v : Value} {l : List α} (h : RowOf k enc w v l) : ∃ a m c, v = .slice a m c := by
 obtain ⟨a, c, e, _⟩ := h.open
 exact ⟨a, _, c, e⟩
theorem row12_set1 {W : World} {s : Value} {l : List CallV} {T : Nat} {c : Array Value} {t : TypeId} (h : Row12 W s l) (hT : W.heap[T]? = some (.cells c t)) (hc : c.size ≤ 3) (j : Nat) (u : Value) : Row12 (W.setCell ⟨T, j, none⟩ u) s l := by
 rcases h with h | ⟨h0, b, off, cc, rfl, h1, h2, hb, hr⟩
 ·exact .inl h
 ·obtain ⟨x, hx⟩ := get_lt h0
  have h3 := hr 0 x hx 3 _ rfl
  have hne : b ≠ T := by
   intro e
   subst e
   rw [blk_cell hT] at h3
   have := (Array.getElem?_eq_some_iff.1 h3).1
   omega
  refine .inr ⟨h0, b, off, cc, rfl, h1, h2, by simpa using hb, fun i x hx j' v hj => ?_⟩
  rw [World.cell?_setCell_far _ _ _ _ (by simpa using Ne.symm hne)]
  exact hr i x hx j' v hj
theorem row12_set3 {W : World} {s : Value} {l : List CallV} {T : Nat} {c : Array Value} {t : TypeId} (h : Row12 W s l) (hT : W.heap[T]? = some (.cells c t)) (hc : c.size ≤ 3) (x y z : Value) : Row12 (((W.setCell ⟨T, 0, none⟩ x).setCell ⟨T, 1, none⟩ y).setCell ⟨T, 2, none⟩ z) s l :=
 row12_set1 (row12_set1 (row12_set1 h hT hc 0 x) (blk_set hT 0 x) (by simpa using hc) 1 y) (blk_set (blk_set hT 0 x) 1 y) (by simpa using hc) 2 z
theorem row6_set1 {W : World} {s : Value} {l : List AskY} {T : Nat} {c : Array Value} {t : TypeId} (h : RowOf 6 encY W s l) (hT : W.heap[T]? = some (.cells c t)) (hc : c.size ≤ 3) (j : Nat) (u : Value) : RowOf 6 encY (W.setCell ⟨T, j, none⟩ u) s l := by
 rcases h with h | ⟨h0, b, off, cc, rfl, h1, h2, hb, hr⟩
 ·exact .inl h
 ·obtain ⟨x, hx⟩ := get_lt h0
  have h3 := hr 0 x hx 3 _ rfl
  have hne : b ≠ T := by
   intro e
   subst e
   rw [blk_cell hT] at h3
   have := (Array.getElem?_eq_some_iff.1 h3).1
   omega
  refine .inr ⟨h0, b, off, cc, rfl, h1, h2, by simpa using hb, fun i x hx j' v hj => ?_⟩
  rw [World.cell?_setCell_far _ _ _ _ (by simpa using Ne.symm hne)]
  exact hr i x hx j' v hj
theorem row6_set3 {W : World} {s : Value} {l : List AskY} {T : Nat} {c : Array Value} {t : TypeId} (h : RowOf 6 encY W s l) (hT : W.heap[T]? = some (.cells c t)) (hc : c.size ≤ 3) (x y z : Value) : RowOf 6 encY (((W.setCell ⟨T, 0, none⟩ x).setCell ⟨T, 1, none⟩ y).setCell ⟨T, 2, none⟩ z) s l :=
 row6_set1 (row6_set1 (row6_set1 h hT hc 0 x) (blk_set hT 0 x) (by simpa using hc) 1 y) (blk_set (blk_set hT 0 x) 1 y) (by simpa using hc) 2 z
theorem new_cellsY (W : World) (x : AskY) (t : TypeId) : ∀ j u, (encY x)[j]? = some u → (W.alloc (.cells #[.int .u8 x.kind, .int .i64 x.call, .int .i64 x.a, .int .i64 0, .int .i64 0, .int .i64 0] t)).cell? ((⟨W.heap.size, 0, none⟩ : Addr).add j) = some u := by
 intro j u hj
 rw [show ((⟨W.heap.size, 0, none⟩ : Addr).add j) = ⟨W.heap.size, j, none⟩ by unfold Addr.add; split <;> simp_all]
 rw [blk_cell (heap_new W _)]
 simpa [encY] using hj
/-- What Open opens first. -/
theorem open_first {D : List DutyV} (hD : D.length ≤ 1) {n : Nat} {x : DutyV} (hx : D[n]? = some x) {now : Int} (hn : numB now = true) (hk : numB x.key = true) (hkd : kindB x.kind = true) :
  openC ⟨524288, 1 + (n : Int), opensD (D.take n) now⟩ x.kind x.key now = ⟨524288, 1 + ((n + 1 : Nat) : Int), opensD (D.take (n + 1)) now⟩ ∧ openId ⟨524288, 1 + (n : Int), opensD (D.take n) now⟩ x.kind x.key now = 549755813889 ∧ openErr ⟨524288, 1 + (n : Int), opensD (D.take n) now⟩ x.kind x.key now = 0 := by
 have h0 := lt_get hx
 obtain rfl : n = 0 := by omega
 have hok : openErr ⟨524288, 1 + ((0 : Nat) : Int), opensD (D.take 0) now⟩ x.kind x.key now = 0 := by
  unfold openErr openOk
  rw [hkd, hk, hn]
  rfl
 refine ⟨?_, ?_, hok⟩
 ·unfold openC
  rw [if_pos hok, List.take_add_one, hx]
  simp [opensD]
 ·unfold openId
  rw [if_pos hok]
  rfl
end Go.Proofs.YthhgpiolcnojfaaGreatDoor
