/- What duty.Open's rounds carry: rows in blocks of a type; what a round does. -/
import Derived.Test.YtljmhmdpihpafaaDoorAks
import Derived.Test.YtljmhmdpihpafaaDoorOpe
import Derived.Test.YtljmhmdpihpafaaDoorHas
import Derived.Deep.RegionHeld3
import Derived.Deep.RegionLaw
import Derived.Test.YtljmhmdpihpafaaDoorApp1
namespace Go.Proofs.YtljmhmdpihpafaaDoor
open Go.RowKit Go.Shelf

/-- A slice reads as a list, out of a block of a type. -/
def TRow {α : Type} (t : TypeId) (k : Nat) (enc : α → List Value) (W : World) (v : Value) (l : List α) : Prop :=
  ∃ a c, v = .slice a l.length c ∧ l.length ≤ c ∧ c ≤ maxLen ∧ (a = none → c = 0) ∧ (0 < l.length → ∃ b off cur, a = some ⟨b, off, none⟩ ∧ W.heap[b]? = some (.cells cur t) ∧ RowAt k enc W b off l)
section
variable {α : Type} {t e : TypeId} {k : Nat} {enc : α → List Value} {W W' : World} {v : Value} {l : List α} {base : Nat}
theorem TRow.row (h : TRow t k enc W v l) : RowOf k enc W v l := by
  obtain ⟨a, c, rfl, h1, h2, h3, h4⟩ := h
  rcases Nat.eq_zero_or_pos l.length with h0 | h0
  · have : l = [] := List.eq_nil_of_length_eq_zero h0
    subst this
    exact .inl ⟨a, c, rfl, rfl, h3, h2⟩
  · obtain ⟨b, off, cur, rfl, hb, hr⟩ := h4 h0
    exact .inr ⟨h0, b, off, c, rfl, h1, h2, blk_lt hb, hr⟩
theorem RowAt.same {b off : Nat} (h : RowAt k enc W b off l) (hb : W'.heap[b]? = W.heap[b]?) : RowAt k enc W' b off l :=
  fun i x hi j u hj => (World.cell?_of_block (w := W) hb).trans (h i x hi j u hj)
/-- All blocks of a type lie as they lay. -/
def KeptT (t : TypeId) (W W' : World) : Prop := ∀ (b : Nat) (cur : Array Value), W.heap[b]? = some (.cells cur t) → W'.heap[b]? = some (.cells cur t)
theorem KeptT.refl : KeptT t W W := fun _ _ h => h
theorem KeptT.trans {W2 : World} (h : KeptT t W W') (h2 : KeptT t W' W2) : KeptT t W W2 := fun b c q => h2 b c (h b c q)
theorem KeptT.below (h : Below W.heap.size W W') : KeptT t W W' := fun _ _ q => blk_below q h (blk_lt q)
theorem KeptT.grown {row : Option Nat} (hg : W.grownBy W' row) (hr : ∀ r, row = some r → ∃ c, W.heap[r]? = some (.cells c e)) (hne : e ≠ t) : KeptT t W W' := fun b c q =>
  blk_grown q hg (fun h => by obtain ⟨c', hc⟩ := hr b h.symm; rw [q] at hc; cases hc; exact hne rfl)
theorem KeptT.set {p : Addr} {c : Array Value} (hp : W.heap[p.block]? = some (.cells c e)) (hne : e ≠ t) (u : Value) : KeptT t W (W.setCell p u) := fun b c' q => by
  refine blk_other q (fun h => ?_) u
  rw [h, hp] at q
  cases q
  exact hne rfl
theorem TRow.kept (h : TRow t k enc W v l) (hk : KeptT t W W') : TRow t k enc W' v l := by
  obtain ⟨a, c, rfl, h1, h2, h3, h4⟩ := h
  refine ⟨a, c, rfl, h1, h2, h3, fun h0 => ?_⟩
  obtain ⟨b, off, cur, rfl, hb, hr⟩ := h4 h0
  exact ⟨b, off, cur, rfl, hk b cur hb, hr.same ((hk b cur hb).trans hb.symm)⟩
theorem Owns.trow (h : Owns k t enc W base v l) (hk : ∀ x, (enc x).length = k) (hk0 : 0 < k) : TRow t k enc W v l := by
  have hr := h.row hk hk0
  obtain ⟨_, ⟨rfl, h0⟩ | ⟨g, cap, cur, rfl, _, hgc, hlc, hcm, _, _⟩⟩ := h
  · obtain rfl : l = [] := List.eq_nil_of_length_eq_zero h0
    exact ⟨none, 0, rfl, Nat.zero_le _, by decide, fun _ => rfl, fun h => by simp at h⟩
  · refine ⟨_, cap, rfl, hlc, hcm, (fun h => by cases h), fun h0 => ⟨g, 0, cur, rfl, hgc, ?_⟩⟩
    obtain ⟨a', c', he, _, _, _, ho⟩ := hr.open
    cases he
    obtain ⟨b, off, hb, _, hr⟩ := ho h0
    cases hb
    exact hr
theorem RowAt.tail {b off : Nat} {x : α} {l : List α} (h : RowAt k enc W b off (x :: l)) : RowAt k enc W b (off + k) l := by
  intro i y hy j u hj
  have := h (i + 1) y (by simpa using hy) j u hj
  rw [← this]
  congr 2
  rw [Nat.add_mul, Nat.one_mul]
  omega
end
/-- What is behind the first: what 's[1:]' is. -/
theorem TRow.tail {W : World} {a : Option Addr} {c : Nat} {d : DutyV} {l : List DutyV} (h : TRow 47 2 encD W (.slice a (l.length + 1) c) (d :: l)) :
    ∃ b off, a = some ⟨b, off, none⟩ ∧ 1 ≤ c ∧ l.length + 1 ≤ c ∧ c ≤ maxLen ∧ W.cell? ⟨b, off, none⟩ = some (.int .u8 d.kind) ∧ W.cell? ⟨b, off + 1, none⟩ = some (.int .i64 d.key) ∧ b < W.heap.size ∧
      ∀ A : Option Addr, (A = if c = 1 then some ⟨b, off, none⟩ else some ⟨b, off + 2, none⟩) → TRow 47 2 encD W (.slice A l.length (c - 1)) l := by
  obtain ⟨a', c', he, h1, h2, h3, h4⟩ := h
  simp only [List.length_cons, Value.slice.injEq] at he
  obtain ⟨rfl, -, rfl⟩ := he
  obtain ⟨b, off, cur, rfl, hb, hr⟩ := h4 (by simp)
  simp only [List.length_cons] at h1
  obtain ⟨g0, g1⟩ := rowD hr (i := 0) (x := d) rfl
  simp only [Nat.zero_mul, Nat.add_zero] at g0 g1
  refine ⟨b, off, rfl, by omega, h1, h2, g0, g1, blk_lt hb, fun A hA => ⟨A, c - 1, rfl, by omega, by omega, fun hn => ?_, fun h0 => ?_⟩⟩
  · rw [hA] at hn
    split at hn <;> cases hn
  · refine ⟨b, off + 2, cur, ?_, hb, hr.tail⟩
    rw [hA, if_neg (by omega)]

/-- What a round of Open does. -/
def stepO (I : List IntentV) (now : Int) (s : CallsV × List AskV) (d : DutyV) : CallsV × List AskV :=
  if hasB s.1.opens d.kind d.key then s else if openErr s.1 d.kind d.key now = 0 then (openC s.1 d.kind d.key now, s.2 ++ [askV I d (openId s.1 d.kind d.key now)]) else s
def openD (I : List IntentV) (now : Int) (C : CallsV) (l : List DutyV) : CallsV × List AskV := l.foldl (stepO I now) (C, [])
theorem openC_len (C : CallsV) (k key now : Int) : (openC C k key now).opens.length ≤ C.opens.length + 1 := by
  unfold openC; split <;> simp

abbrev OwnA (w : World) (base : Nat) (v : Value) (l : List AskV) : Prop := Owns 6 52 encA w base v l
/-- What holds whenever Open comes to its label. -/
structure OpenI (cs : Array Value) (I : List IntentV) (K : List KeptV) (now : Int) (C : CallsV) (w : World) (T : CallsV × List AskV) (N : Nat) (R : List DutyV) (O : CallsV) (AS : List AskV) (lv ov av : Value) (W : World) : Prop where
  fold : R.foldl (stepO I now) (O, AS) = T
  len1 : O.opens.length + R.length ≤ N
  len2 : AS.length + R.length ≤ N
  sub : ∀ d ∈ R, d ∈ dutiesL I K
  row : TRow 47 2 encD W lv R
  call : TRow 45 4 encC W ov O.opens
  own : OwnA W (w.heap.size + 3) av AS
  box : W.heap[w.heap.size + 2]? = some (.cells #[.int .i64 O.epoch, .int .i64 O.next, ov] 33)
  brain : BB W w.heap.size cs
  bel : Below w.heap.size w W
  size : w.heap.size + 3 ≤ W.heap.size

def sliceLen : Value → Nat
  | .slice _ n _ => n
  | _ => 0
/-- What Open ends with. -/
def OpenEnd (w : World) (T : CallsV × List AskV) (e : Ending) (W : World) : Prop :=
  ∃ ov av, e = .returned (.tuple #[calls T.1.epoch T.1.next ov, av]) ∧ Row12 W ov T.1.opens ∧ RowOf 6 encA W av T.2 ∧ Below w.heap.size w W

/-- 'append' of one thing to a slice of the call's own, as one step of a region that draws. -/
theorem step_append_one {α : Type} {k : Nat} {enc : α → List Value} {P : Program} {ops : Array Oper} {o : Oper} {a : Act} {w : World} {K : Act → World → Prop} {Q : Exit → Act → World → Prop} {E : Prop}
    (hgd : o.guard = none) (s x : Operand) (t : TypeId) (ho : o.op = Op.call { callee := Callee.builtin Builtin.append, args := #[s, x], argTypes := #[t, t] })
    (base : Nat) (e : TypeId) (i : TypeInfo) (z : Value) (bytes : Nat) (ht : P.underlying t = some (.slice e)) (hi : P.info? e = some i) (hz : i.zero = some z)
    (hsize : i.size = k) (hby : i.bytes = bytes) (hzs : z.cells.size = k) (hsz : 0 < k) (hk : ∀ x, (enc x).length = k)
    (v : Value) (l : List α) (hs : a.eval s = v) (hown : Owns k e enc w base v l)
    (ad : Addr) (y : α) (hx : a.eval x = .slice (some ad) 1 1) (hone : ∀ u ∈ enc y, u.oneCell' = true) (hnew : ∀ (j : Nat) u, (enc y)[j]? = some u → w.cell? (ad.add j) = some u)
    (h63 : l.length + 1 ≤ maxLen) (hbytes : (l.length + 1) * bytes ≤ 140737488355328) (hbase : base ≤ w.heap.size)
    (h : ∀ v' w', Owns k e enc w' base v' (l ++ [y]) → Below base w w' → w.grownBy w' v.ownBlock → K (a.put o.dst v') w') :
    if Region.wanted o (yielded ops a.tmps) = true then Oper.wp P o a w K Q else E := by
  have hw : Region.wanted o (yielded ops a.tmps) = true := by simp [Region.wanted, hgd]
  rw [if_pos hw]
  obtain ⟨v', w', hrun, r1, r2, r3⟩ := run_append_own (P := P) w base t o.type e i z k bytes ht hi hz hsize hby hzs hsz v l.length _ hown ad 1 1 (enc y) (by rw [hk y]; simp) hnew hone h63 hbytes hbase
  unfold Oper.wp
  simp [execOp, ho, resolve, invoke, builtin, hs, hx, hrun, Result.andThen]
  refine h v' w' ?_ (below_own r2 hbase (fun g e => (Owns.block hown g e).1)) r2
  unfold Owns
  rw [List.length_append, List.flatMap_append]
  simpa using r1

theorem OpenI.skip {cs : Array Value} {I : List IntentV} {K : List KeptV} {now : Int} {C : CallsV} {w : World} {T : CallsV × List AskV} {N : Nat} {R : List DutyV} {d : DutyV} {O : CallsV} {AS : List AskV} {lv lv' ov av : Value} {W W' : World}
    (h : OpenI cs I K now C w T N (d :: R) O AS lv ov av W) (hst : stepO I now (O, AS) d = (O, AS)) (hb : Below W.heap.size W W') (hr : TRow 47 2 encD W' lv' R) : OpenI cs I K now C w T N R O AS lv' ov av W' := by
  have hs := hb.size
  have h1 := h.len1
  have h2 := h.len2
  have h3 := h.size
  simp only [List.length_cons] at h1 h2
  refine ⟨?_, by omega, by omega, fun x hx => h.sub x (List.mem_cons_of_mem _ hx), hr, h.call.kept (KeptT.below hb), h.own.below hb, blk_below h.box hb (blk_lt h.box), h.brain.below hb (blk_lt h.brain), h.bel.trans (hb.mono (by omega)), by omega⟩
  have := h.fold
  rwa [List.foldl_cons, hst] at this

/-- All stays but rows of asks, and a block. -/
structure KeptB (W9 : World) (A : Nat) (W : World) : Prop where
  size : W9.heap.size ≤ W.heap.size
  block : ∀ (b : Nat) (c : Array Value) (t : TypeId), W9.heap[b]? = some (.cells c t) → t ≠ 52 → b ≠ A → W.heap[b]? = some (.cells c t)
theorem KeptB.refl {W9 : World} {A : Nat} : KeptB W9 A W9 := ⟨Nat.le_refl _, fun _ _ _ h _ _ => h⟩
theorem KeptB.drew {W9 W : World} {A : Nat} (h : KeptB W9 A W) : KeptB W9 A W.drew := ⟨h.size, h.block⟩
theorem KeptB.call {W9 W W' : World} {A : Nat} (h : KeptB W9 A W) (hb : Below W.heap.size W W') : KeptB W9 A W' :=
  ⟨Nat.le_trans h.size hb.size, fun b c t q h1 h2 => blk_below (h.block b c t q h1 h2) hb (blk_lt (h.block b c t q h1 h2))⟩
theorem KeptB.alloc {W9 W : World} {A : Nat} (h : KeptB W9 A W) (o : Obj) : KeptB W9 A (W.alloc o) := h.call ((Below.refl _ _).alloc (Nat.le_refl _) _)
theorem KeptB.grown {W9 W W' : World} {A : Nat} {row : Option Nat} (h : KeptB W9 A W) (hg : W.grownBy W' row) (hr : ∀ r, row = some r → ∃ c, W9.heap[r]? = some (.cells c 52)) : KeptB W9 A W' :=
  ⟨Nat.le_trans h.size hg.size, fun b c t q h1 h2 => blk_grown (h.block b c t q h1 h2) hg (fun e => by obtain ⟨c', hc⟩ := hr b e.symm; rw [q] at hc; cases hc; exact h1 rfl)⟩
theorem KeptB.set3 {W9 W : World} {A : Nat} (h : KeptB W9 A W) (u v x : Value) : KeptB W9 A (((W.setCell ⟨A, 0, none⟩ u).setCell ⟨A, 1, none⟩ v).setCell ⟨A, 2, none⟩ x) :=
  ⟨by simpa [World.setCell] using h.size, fun b c t q h1 h2 => blk_other (p := ⟨A, 2, none⟩) (blk_other (p := ⟨A, 1, none⟩) (blk_other (p := ⟨A, 0, none⟩) (h.block b c t q h1 h2) h2 _) h2 _) h2 _⟩

theorem res_calls_tmp {fn : Func} {tmps : Array Value} {r q : Tmp} {b : Nat} {x y z u : Value} {W : World} (hres : fn.results = #[.cell r 33, .tmp q]) (h : tmps.getD r undef = .pointer (some ⟨b, 0, none⟩)) (hq : tmps.getD q undef = u) (hb : W.heap[b]? = some (.cells #[x, y, z] 33)) :
    (results fn tmps).run Tryd.prog W = .ok (.tuple #[.agg #[x, y, z], u]) W := by
  obtain ⟨k0, k1, k2, _, _⟩ := blk3 hb
  rw [Array.getD_eq_getD_getElem?] at h hq
  simp [results, hres, go_sem, h, hq, k0, k1, k2]
theorem set3 {W : World} {b : Nat} {c0 c1 c2 : Value} {t : TypeId} (h : W.heap[b]? = some (.cells #[c0, c1, c2] t)) (v0 v1 v2 : Value) :
    (((W.setCell ⟨b, 0, none⟩ v0).setCell ⟨b, 1, none⟩ v1).setCell ⟨b, 2, none⟩ v2).heap[b]? = some (.cells #[v0, v1, v2] t) := blk_set (blk_set (blk_set h 0 _) 1 _) 2 _
theorem set3_below {B : Nat} {a W : World} {b : Nat} (h : Below B a W) (hb : B ≤ b) (v0 v1 v2 : Value) : Below B a (((W.setCell ⟨b, 0, none⟩ v0).setCell ⟨b, 1, none⟩ v1).setCell ⟨b, 2, none⟩ v2) :=
  ((h.setCell (p := ⟨b, 0, none⟩) hb _).setCell (p := ⟨b, 1, none⟩) hb _).setCell (p := ⟨b, 2, none⟩) hb _
theorem set3_kept {t e : TypeId} {W : World} {b : Nat} {c : Array Value} (h : W.heap[b]? = some (.cells c e)) (hne : e ≠ t) (v0 v1 v2 : Value) : KeptT t W (((W.setCell ⟨b, 0, none⟩ v0).setCell ⟨b, 1, none⟩ v1).setCell ⟨b, 2, none⟩ v2) :=
  ((KeptT.set (p := ⟨b, 0, none⟩) h hne v0).trans (KeptT.set (p := ⟨b, 1, none⟩) (blk_set h 0 v0) hne v1)).trans (KeptT.set (p := ⟨b, 2, none⟩) (blk_set (blk_set h 0 v0) 1 v1) hne v2)
theorem KeptB.kept {W9 V : World} {A : Nat} {c : Array Value} (h : KeptB W9 A V) (hA : W9.heap[A]? = some (.cells c 33)) {t : TypeId} (h1 : t ≠ 52) (h2 : t ≠ 33) : KeptT t W9 V :=
  fun b cur q => h.block b cur t q h1 (fun e => by subst e; rw [hA] at q; cases q; exact h2 rfl)
theorem Owns.typed {α : Type} {k : Nat} {e : TypeId} {enc : α → List Value} {W : World} {base : Nat} {v : Value} {l : List α} (h : Owns k e enc W base v l) : ∀ r, v.ownBlock = some r → ∃ c, W.heap[r]? = some (.cells c e) := by
  obtain ⟨_, ⟨rfl, _⟩ | ⟨g, cap, cur, rfl, _, hgc, _⟩⟩ := h
  · intro r e; cases e
  · intro r e; cases e; exact ⟨_, hgc⟩
theorem new_cellsA (W : World) (x : AskV) (t : TypeId) : ∀ j u, (encA x)[j]? = some u → (W.alloc (.cells #[.int .u8 x.kind, .int .i64 x.call, .int .i64 x.a, .int .i64 x.b, .int .i64 x.c, .int .i64 x.d] t)).cell? ((⟨W.heap.size, 0, none⟩ : Addr).add j) = some u := by
  intro j u hj
  rw [show ((⟨W.heap.size, 0, none⟩ : Addr).add j) = ⟨W.heap.size, j, none⟩ by unfold Addr.add; split <;> simp_all]
  rw [blk_cell (heap_new W _)]
  simpa [encA] using hj
theorem openC_epoch (C : CallsV) (k key now : Int) : (openC C k key now).epoch = C.epoch := by
  unfold openC; split <;> rfl
end Go.Proofs.YtljmhmdpihpafaaDoor
