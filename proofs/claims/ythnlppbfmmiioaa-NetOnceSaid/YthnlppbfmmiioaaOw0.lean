/- Answers and asks in memory of the call's own: net.own, the reference's tell, net.same; the iterator net.each. -/
import Derived.Test.YthnlppbfmmiioaaNs
import Derived.Test.YthnlppbfmmiioaaRng
namespace Go.Proofs.Ythnlppbfmmiioaa
open Go.RowKit Go.Shelf
attribute [local go_sem] Oper.semAt_some

theorem blk6 {W : World} {b : Nat} {c0 c1 c2 c3 c4 c5 : Value} {t : TypeId} (h : W.heap[b]? = some (.cells #[c0, c1, c2, c3, c4, c5] t)) :
    W.cell? ⟨b, 0, none⟩ = some c0 ∧ W.cell? ⟨b, 1, none⟩ = some c1 ∧ W.cell? ⟨b, 2, none⟩ = some c2 ∧ W.cell? ⟨b, 3, none⟩ = some c3 ∧ W.cell? ⟨b, 4, none⟩ = some c4 ∧ W.cell? ⟨b, 5, none⟩ = some c5 ∧ (∀ j, W.frozen? ⟨b, j, none⟩ = false) ∧ b < W.heap.size :=
  ⟨blk_cell h 0, blk_cell h 1, blk_cell h 2, blk_cell h 3, blk_cell h 4, blk_cell h 5, blk_free h, blk_lt h⟩

theorem res_tell {fn : Func} {tmps : Array Value} {r : Tmp} {b : Nat} {c0 c1 c2 c3 c4 c5 : Value} {W : World} (hres : fn.results = #[.cell r 30]) (h : tmps.getD r undef = .pointer (some ⟨b, 0, none⟩)) (hb : W.heap[b]? = some (.cells #[c0, c1, c2, c3, c4, c5] 30)) :
    (results fn tmps).run Try.prog W = .ok (.agg #[c0, c1, c2, c3, c4, c5]) W := by
  obtain ⟨k0, k1, k2, k3, k4, k5, _, _⟩ := blk6 hb
  rw [Array.getD_eq_getD_getElem?] at h
  simp [results, hres, go_sem, h, k0, k1, k2, k3, k4, k5]
theorem res_ask {fn : Func} {tmps : Array Value} {r : Tmp} {b : Nat} {c0 c1 c2 c3 c4 c5 : Value} {W : World} (hres : fn.results = #[.cell r 27]) (h : tmps.getD r undef = .pointer (some ⟨b, 0, none⟩)) (hb : W.heap[b]? = some (.cells #[c0, c1, c2, c3, c4, c5] 27)) :
    (results fn tmps).run Try.prog W = .ok (.agg #[c0, c1, c2, c3, c4, c5]) W := by
  obtain ⟨k0, k1, k2, k3, k4, k5, _, _⟩ := blk6 hb
  rw [Array.getD_eq_getD_getElem?] at h
  simp [results, hres, go_sem, h, k0, k1, k2, k3, k4, k5]
theorem res_net {fn : Func} {tmps : Array Value} {r : Tmp} {b : Nat} {c0 c1 : Value} {W : World} (hres : fn.results = #[.cell r 25]) (h : tmps.getD r undef = .pointer (some ⟨b, 0, none⟩)) (hb : W.heap[b]? = some (.cells #[c0, c1] 25)) :
    (results fn tmps).run Try.prog W = .ok (.agg #[c0, c1]) W := by
  obtain ⟨k0, k1, _, _⟩ := blk2 hb
  rw [Array.getD_eq_getD_getElem?] at h
  simp [results, hres, go_sem, h, k0, k1]
theorem mkfunc (fn : Fn) (first cap : Array Value) (w : World) : (Instr.makeFunc fn first cap).run Try.prog w = .ok (.func fn first cap) w := rfl

/-- An answer with its boxes elsewhere. -/
def TellM.at (m : TellM) (v : Value) : TellM := ⟨m.call, m.kind, m.code, m.id, v, m.more⟩

set_option maxHeartbeats 1000000 in
set_option maxRecDepth 100000 in
theorem nown_any (ca ki co di : Int) (a : Option Addr) (n c : Nat) (mo : Bool) (L : List SeenV) (w : World) (hL : L.length ≤ 1000000) (hs : RowN w (.slice a n c) L) :
    Calls Try.prog 28 #[.agg #[.int .i64 ca, .int .u8 ki, .int .u8 co, .int .i64 di, .slice a n c, .bool mo]] w fun e w' => ∃ a' n' c', e = .returned (.agg #[.int .i64 ca, .int .u8 ki, .int .u8 co, .int .i64 di, .slice a' n' c', .bool mo]) ∧ OwnN w' w.heap.size (.slice a' n' c') L ∧ Below w.heap.size w w' := by
  obtain ⟨W, hW⟩ : ∃ W, W = ((w.alloc (.cells #[.int .i64 ca, .int .u8 ki, .int .u8 co, .int .i64 di, .slice a n c, .bool mo] 30)).alloc (.cells #[.int .i64 0, .int .u8 0, .int .u8 0, .int .i64 0, .slice none 0 0, .bool false] 30)) := ⟨_, rfl⟩
  have hB : Below w.heap.size w W := by rw [hW]; exact ((Below.refl _ _).alloc (Nat.le_refl _) _).alloc (by simp) _
  have B0 : Hid (W.heap[w.heap.size]? = some (.cells #[.int .i64 ca, .int .u8 ki, .int .u8 co, .int .i64 di, .slice a n c, .bool mo] 30)) := hid (by rw [hW]; exact blk_alloc (heap_new w _) _)
  have R0 : Hid (W.heap[w.heap.size + 1]? = some (.cells #[.int .i64 0, .int .u8 0, .int .u8 0, .int .i64 0, .slice none 0 0, .bool false] 30)) := hid (by rw [hW]; exact heap_new2 w _ _)
  have HC := hid (cloneN_any _ L W hL (RowOf.below hs hB))
  have HB := hid hB
  clear hs hB
  go_enter Try.func28, Try.ntmps28
  go_wp2_with fail
  rw [← hW]
  clear hW
  refine HC.out.mono ?_
  rintro e w1 ⟨v, rfl, hown, hb⟩
  obtain ⟨va, vn, vc, rfl⟩ := hown.shape
  have HO := hid hown
  have B1 := hid (blk_below B0.out hb (blk_lt B0.out))
  have R1 := hid (blk_below R0.out hb (blk_lt R0.out))
  have HZ := hid (HB.out.trans (hb.mono HB.out.size))
  have hlt : w.heap.size + 1 < W.heap.size := blk_lt R0.out
  have HLT := hid hlt
  clear hown hb hlt
  obtain ⟨b0, b1, b2, b3, b4, b5, bf, bl⟩ := blk6 B1.out
  obtain ⟨r0, r1, r2, r3, r4, r5, rf, rl⟩ := blk6 R1.out
  go_wp2
  have hlt := HLT.out
  refine bodyPost_ret (res_tell rfl rfl (blk_set (blk_set (blk_set (blk_set (blk_set (blk_set (blk_other R1.out (by simp) _) 0 _) 1 _) 2 _) 3 _) 4 _) 5 _)) rfl ⟨_, _, _, rfl, ?_, ?_⟩
  · exact Owns.mono (((((((HO.out.other (p := ⟨w.heap.size, 4, none⟩) (by simp; omega) _).other (p := ⟨w.heap.size + 1, 0, none⟩) (by simp; omega) _).other (p := ⟨w.heap.size + 1, 1, none⟩) (by simp; omega) _).other (p := ⟨w.heap.size + 1, 2, none⟩) (by simp; omega) _).other (p := ⟨w.heap.size + 1, 3, none⟩) (by simp; omega) _).other (p := ⟨w.heap.size + 1, 4, none⟩) (by simp; omega) _).other (p := ⟨w.heap.size + 1, 5, none⟩) (by simp; omega) _) (by omega)
  · exact (((((((HZ.out.setCell (p := ⟨w.heap.size, 4, none⟩) (by simp) _).setCell (p := ⟨w.heap.size + 1, 0, none⟩) (by simp) _).setCell (p := ⟨w.heap.size + 1, 1, none⟩) (by simp) _).setCell (p := ⟨w.heap.size + 1, 2, none⟩) (by simp) _).setCell (p := ⟨w.heap.size + 1, 3, none⟩) (by simp) _).setCell (p := ⟨w.heap.size + 1, 4, none⟩) (by simp) _).setCell (p := ⟨w.heap.size + 1, 5, none⟩) (by simp) _)

set_option maxHeartbeats 1000000 in
set_option maxRecDepth 100000 in
theorem nsm_any (x : AskV) (w : World) :
    Calls Try.prog 31 #[aggA x] w fun e w' => e = .returned (aggA x) ∧ Below w.heap.size w w' := by
  unfold aggA
  go_enter Try.func31, Try.ntmps31
  go_wp2
  exact bodyPost_ret (res_ask rfl rfl (heap_new2 _ _ _)) rfl ⟨rfl, ((Below.refl _ _).alloc (Nat.le_refl _) _).alloc (by simp) _⟩

theorem append_one' {α : Type} {k : Nat} {enc : α → List Value} {w : World} {P : Program} {ops : Array Oper} {rest : List Oper} {o : Oper} {a : Act} {Q : Exit → Act → World → Prop} (hgd : o.guard = none) (s x : Operand) (t : TypeId)
    (ho : o.op = .call { callee := .builtin .append, args := #[s, x], argTypes := #[t, t] })
    (base : Nat) (e : TypeId) (i : TypeInfo) (z : Value) (bytes : Nat) (ht : P.underlying t = some (.slice e)) (hi : P.info? e = some i) (hz : i.zero = some z)
    (hsize : i.size = k) (hby : i.bytes = bytes) (hzs : z.cells.size = k) (hsz : 0 < k) (hk : ∀ x, (enc x).length = k)
    (v : Value) (l : List α) (hs : a.eval s = v) (hown : Owns k e enc w base v l)
    (ad : Addr) (y : α) (hx : a.eval x = .slice (some ad) 1 1) (hone : ∀ u ∈ enc y, u.oneCell' = true) (hnew : ∀ (j : Nat) u, (enc y)[j]? = some u → w.cell? (ad.add j) = some u)
    (h63 : l.length + 1 ≤ maxLen) (hbytes : (l.length + 1) * bytes ≤ 140737488355328) (hbase : base ≤ w.heap.size)
    (h : ∀ v' w', Owns k e enc w' base v' (l ++ [y]) → Below base w w' → w.grownBy w' v.ownBlock → wpList P ops Q rest (a.put o.dst v') w') : wpList P ops Q (o :: rest) a w := by
  refine wpList_append_own w hgd s x t ho base e i z k bytes ht hi hz hsize hby hzs hsz v l.length _ hs hown ad 1 1 (enc y) hx (by rw [hk y]; simp) hnew hone h63 hbytes hbase fun v' w' h1 h2 _ => ?_
  refine h v' w' ?_ (below_own h2 hbase (fun g e => (Owns.block hown g e).1)) h2
  unfold Owns
  rw [List.length_append, List.flatMap_append]
  simpa using h1
/-- The new block's cells. -/
theorem new_cells' (W : World) (c : Array Value) (t : TypeId) : ∀ (j : Nat) u, c.toList[j]? = some u → (W.alloc (.cells c t)).cell? ((⟨W.heap.size, 0, none⟩ : Addr).add j) = some u := by
  intro j u hj
  rw [show ((⟨W.heap.size, 0, none⟩ : Addr).add j) = ⟨W.heap.size, j, none⟩ by unfold Addr.add; split <;> simp_all]
  rw [blk_cell (heap_new W _)]
  simpa using hj
/-- A slice of the call's own stays, where a block of another type is written. -/
theorem Owns.apart {α : Type} {k : Nat} {e t : TypeId} {enc : α → List Value} {W W' : World} {base : Nat} {v : Value} {l : List α} {row : Option Nat} (h : Owns k e enc W base v l) (hg : W.grownBy W' row) (hr : ∀ r, row = some r → ∃ c, W.heap[r]? = some (.cells c t)) (hne : e ≠ t) : Owns k e enc W' base v l := by
  refine World.ownsRow.kept h hg ?_
  obtain ⟨_, ⟨rfl, _⟩ | ⟨g, cap, cur, rfl, _, hgc, _⟩⟩ := h
  · exact .inl rfl
  · refine .inr fun e' => ?_
    obtain ⟨c, hc⟩ := hr g (by rw [← e']; rfl)
    rw [hgc] at hc; cases hc; exact hne rfl
/-- The block of a slice of the call's own has the element's type. -/
theorem Owns.typed {α : Type} {k : Nat} {e : TypeId} {enc : α → List Value} {W : World} {base : Nat} {v : Value} {l : List α} (h : Owns k e enc W base v l) : ∀ r, v.ownBlock = some r → ∃ c, W.heap[r]? = some (.cells c e) := by
  obtain ⟨_, ⟨rfl, _⟩ | ⟨g, cap, cur, rfl, _, hgc, _⟩⟩ := h
  · intro r e; cases e
  · intro r e; cases e; exact ⟨_, hgc⟩
theorem Owns.own {α : Type} {k : Nat} {e : TypeId} {enc : α → List Value} {W W' : World} {base : Nat} {v : Value} {l : List α} {row : Option Nat} (h : Owns k e enc W base v l) (hg : W.grownBy W' row) (hr : ∀ r, row = some r → ∃ o : Obj, W.heap[r]? = some o ∧ o.isCells = false) : Owns k e enc W' base v l := by
  refine World.ownsRow.kept h hg ?_
  obtain ⟨_, ⟨rfl, _⟩ | ⟨g, cap, cur, rfl, _, hgc, _⟩⟩ := h
  · exact .inl rfl
  · refine .inr fun e => ?_
    obtain ⟨o, ho, hc⟩ := hr g (by rw [← e]; rfl)
    rw [hgc] at ho; cases ho; cases hc
theorem own_blk {W W' : World} {row : Option Nat} {b : Nat} {c : Array Value} {t : TypeId} (h : W.heap[b]? = some (.cells c t)) (hg : W.grownBy W' row) (hr : ∀ r, row = some r → ∃ o : Obj, W.heap[r]? = some o ∧ o.isCells = false) : W'.heap[b]? = some (.cells c t) :=
  blk_grown h hg (fun e => by obtain ⟨o, ho, hc⟩ := hr b e.symm; rw [h] at ho; cases ho; cases hc)
theorem TellOwn.own {W W' : World} {base : Nat} {m : TellM} {t : TellV} {row : Option Nat} (h : TellOwn W base m t) (hg : W.grownBy W' row) (hr : ∀ r, row = some r → ∃ o : Obj, W.heap[r]? = some o ∧ o.isCells = false) : TellOwn W' base m t := ⟨h.1.own hg hr, h.2⟩
theorem TellOwn.apart {W W' : World} {base : Nat} {m : TellM} {t : TellV} {row : Option Nat} {ty : TypeId} (h : TellOwn W base m t) (hg : W.grownBy W' row) (hr : ∀ r, row = some r → ∃ c, W.heap[r]? = some (.cells c ty)) (hne : 51 ≠ ty) : TellOwn W' base m t := ⟨h.1.apart hg hr hne, h.2⟩
theorem TellsOwn.apart {W W' : World} {base : Nat} {ms : List TellM} {l : List TellV} {row : Option Nat} {ty : TypeId} (h : TellsOwn W base ms l) (hg : W.grownBy W' row) (hr : ∀ r, row = some r → ∃ c, W.heap[r]? = some (.cells c ty)) (hne : 51 ≠ ty) : TellsOwn W' base ms l := ⟨h.1, fun i m t h1 h2 => (h.2 i m t h1 h2).apart hg hr hne⟩
theorem TellOwn.other {W : World} {base : Nat} {m : TellM} {t : TellV} (h : TellOwn W base m t) {p : Addr} (hp : p.block < base) (u : Value) : TellOwn (W.setCell p u) base m t := ⟨h.1.other hp u, h.2⟩
theorem TellsOwn.other {W : World} {base : Nat} {ms : List TellM} {l : List TellV} (h : TellsOwn W base ms l) {p : Addr} (hp : p.block < base) (u : Value) : TellsOwn (W.setCell p u) base ms l := ⟨h.1, fun i m t h1 h2 => (h.2 i m t h1 h2).other hp u⟩
theorem NetOwn.other {W : World} {base : Nat} {va vt : Value} {n : NetV} (h : NetOwn W base va vt n) {p : Addr} (hp : p.block < base) (u : Value) : NetOwn (W.setCell p u) base va vt n := by
  obtain ⟨h1, ms, h2, h3⟩ := h
  exact ⟨Owns.other h1 hp u, ms, Owns.other h2 hp u, h3.other hp u⟩
end Go.Proofs.Ythnlppbfmmiioaa
