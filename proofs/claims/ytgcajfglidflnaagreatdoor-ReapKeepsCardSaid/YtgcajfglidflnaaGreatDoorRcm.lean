import Derived.Test.YtgcajfglidflnaaGreatDoorApm
import Derived.Test.YtgcajfglidflnaaGreatDoorCfm
import Derived.Test.YtgcajfglidflnaaGreatDoorClm
import Derived.Deep.RegionWith
/- Records, gone over. -/
namespace Go.Proofs.YtgcajfglidflnaaGreatDoor
open Go.RowKit Go.Shelf
attribute [local go_sem] Oper.semAt_some

structure RecE where
 k : Int
 s : Value
 L : List Int
def encR (x : RecE) : List Value := [.int .u8 x.k, x.s]
def itemR (L : List RecE) (i : Fin L.length) : Array Value := #[recV (L.get i).k (L.get i).s]
theorem finAt (n k : Nat) (hk : k < n) : (List.finRange n)[k]? = some ⟨k, hk⟩ := by simp [hk]
theorem rowR {w : World} {b off : Nat} {l : List RecE} (h : RowAt 2 encR w b off l) {i : Nat} {x : RecE} (hi : l[i]? = some x) :
  w.cell? ⟨b, off + i * 2, none⟩ = some (.int .u8 x.k) ∧ w.cell? ⟨b, off + i * 2 + 1, none⟩ = some x.s := ⟨h i x hi 0 _ rfl, h i x hi 1 _ rfl⟩
set_option maxRecDepth 100000 in
set_option maxHeartbeats 2000000 in
theorem records1_in (n : Nat) (hn : 1 ≤ n) (l Bs : Nat) (S : Nat → Prop) (a : Option Addr) (c : Nat) (L : List RecE) (J Jx : List (Fin L.length) → World → Prop)
  (hl1 : L.length ≤ 9223372036854775807) (_hl2 : c ≤ 9223372036854775807) (hsl : ∀ x ∈ L, ∃ a n c, x.s = .slice a n c)
  (W : World) (hS : ∀ k, S k → k < W.heap.size) (hJ : AbidesFrom W.heap.size J)
  (hY : ∀ pre x W, J pre W → pre.length < L.length → YieldAt Fence.wide (n - 1) Tryz.prog l (itemR L x) W fun e W' =>
   (e = .returned (.bool true) ∧ J (pre ++ [x]) W' ∧ On S W W') ∨ (e = .returned (.bool false) ∧ Jx (pre ++ [x]) W'))
  (hBs : S Bs) (hs0 : W.cell? ⟨Bs, 0, none⟩ = some (.slice a L.length c))
  (hop : 0 < L.length → ∃ b off, a = some ⟨b, off, none⟩ ∧ S b ∧ RowAt 2 encR W b off L) (h0 : J [] W) :
  CallsIn Fence.wide n Tryz.prog 67 #[.func (.yield l) #[] #[], .pointer (some ⟨Bs, 0, none⟩)] W fun e W' => (∃ v, e = .returned v) ∧
   ((∃ ys, ys = List.finRange L.length ∧ J ys W') ∨ (∃ pre, True ∧ Jx pre W')) := by
 have HOP := hid hop
 have HY := hid hY
 have HSL := hid hsl
 have hls := hS _ hBs
 clear hop hY hsl
 refine callsIn_of_wp Tryz.func67 rfl trivial ?_ rfl
 simp only [Tryz.ntmps67, List.size_toArray, List.length_cons, List.length_nil, Nat.reduceAdd, Nat.reduceSub, Array.replicate_succ, Array.replicate_zero, List.push_toArray, List.append_toArray, List.nil_append, List.cons_append]
 gi_wp2
 gi_loopw [7] (fun i wr => ∃ k : Nat, k ≤ L.length ∧ i = .int .i64 k ∧ J ((List.finRange L.length).take k) wr ∧ On S W wr)
  (fun i _ => L.length - (intOf i).toNat)
 case atStart => exact ⟨0, Nat.zero_le _, rfl, h0, On.refl _ _⟩
 case round =>
  obtain ⟨k, hk, rfl, hJs, hB⟩ := hrel
  have hsz := hB.size
  by_cases hlt : k < L.length
  ·obtain ⟨b, off, rfl, hb, hrow⟩ := HOP.out (by omega)
   obtain ⟨x, hx⟩ := get_lt hlt
   obtain ⟨g0, g1⟩ := rowR (hrow.on hB hb (hS b hb)) hx
   obtain ⟨sa, sn, sc, hsx⟩ := HSL.out x (mem_get hx)
   rw [hsx] at g1
   have HS := hid (take_snoc (List.finRange L.length) k ⟨k, hlt⟩ (finAt _ k hlt))
   have hb0 := hS b hb
   have hb1 : b < wr.heap.size := by omega
   have hkL : (k : Int) < (L.length : Int) := by omega
   have hgr : Below wr.heap.size wr (wr.alloc (.cells #[.int .u8 x.k, .slice sa sn sc] 70)) := (Below.refl _ _).alloc (Nat.le_refl _) _
   have hJ2 := hJ _ _ _ none hJs (grown_of_below hgr none) (by simp)
   obtain ⟨fn, tmps, assign, body, hy, hR⟩ := HY.out _ ⟨k, hlt⟩ _ hJ2 (by simp; omega)
   have hgx : L.get ⟨k, hlt⟩ = x := by rw [List.getElem?_eq_getElem hlt] at hx; cases hx; rfl
   dsimp only [itemR, recV] at hy
   rw [hgx, hsx] at hy
   have HSX := hid hsx
   have HR := hid hR
   have HB := hid (hB.trans_below hgr)
   clear hR hx hgr hJ2 hJs hrow hB hsx hgx
   gi_wp2
   refine HR.out.mono ?_
   rintro e W3 (⟨rfl, hJ3, hk3⟩ | ⟨rfl, hJx3⟩)
   ·gi_wp2
    go_roundw
    case rel =>
     refine ⟨k + 1, by omega, by simp, ?_, HB.out.trans hk3⟩
     rw [HS.out]; exact hJ3
    case measure => simp [intOf]; omega
   ·gi_wp2
    refine bodyPost_ret (results_none rfl _ _ _) rfl ?_
    exact ⟨⟨_, rfl⟩, .inr ⟨_, trivial, hJx3⟩⟩
  ·obtain rfl : k = L.length := by omega
   have HJ := hid hJs
   clear hJs
   gi_wp2
   go_end0
   exact ⟨⟨_, rfl⟩, .inl ⟨_, rfl, by have := HJ.out; rwa [List.take_of_length_le (by simp)] at this⟩⟩
/-- records hands back a value that goes over records, in order. -/
theorem records_stops (n : Nat) (hn : 1 ≤ n) (Bs : Nat) (S : Nat → Prop) (s : Value) (L : List RecE) (w : World) (hS : ∀ k, S k → k < w.heap.size) (hBs : S Bs) (hs0 : w.cell? ⟨Bs, 0, none⟩ = some s)
  (hr : RowOf 2 encR w s L) (hb : ∀ b off l c, s = .slice (some ⟨b, off, none⟩) l c → 0 < l → S b) (hsl : ∀ x ∈ L, ∃ a n c, x.s = .slice a n c) :
  SeqStopsK Fence.wide n Tryz.prog 67 #[.pointer (some ⟨Bs, 0, none⟩)] (itemR L) (On S) (fun ys => ys = List.finRange L.length) (fun _ => True) L.length w := by
 intro l J Jx W hW hJ _ hY h0
 obtain ⟨a, c, rfl, hl1, hl2, hl3, hop⟩ := hr.open
 have hO : On S w W := On.of_below hW hS
 refine records1_in n hn l Bs S a c L J Jx hl1 hl2 hsl W (fun k hk => Nat.lt_of_lt_of_le (hS k hk) hW.size) hJ hY hBs ((hO.cell _ hBs (hS _ hBs)).trans hs0) (fun h0 => ?_) h0
 obtain ⟨b, off, rfl, hlt, hrow⟩ := hop h0
 exact ⟨b, off, rfl, hb b off _ _ rfl h0, hrow.on hO (hb b off _ _ rfl h0) hlt⟩
theorem records_any (a : Option Addr) (n c : Nat) (w : World) :
  Calls Tryz.prog 59 #[.slice a n c] w fun e w' => e = .returned (.func (.func 67) #[] #[.pointer (some ⟨w.heap.size, 0, none⟩)]) ∧ w' = w.alloc (.cells #[.slice a n c] 44) := by
 have hmf := mkfunc
 go_enter Tryz.func59, Tryz.ntmps59
 go_wp2
 go_ret
 exact ⟨rfl, rfl⟩
end Go.Proofs.YtgcajfglidflnaaGreatDoor

/- What a record leaves of a brain's rows: plain facts. -/
namespace Go.Proofs.YtgcajfglidflnaaGreatDoor
open Go.RowKit Go.Shelf

/-- A brain whose rows are no longer than some number, and whose phases are phases. -/
def Fine (B : BrainV) (n : Nat) : Prop := B.I.length ≤ n ∧ B.K.length ≤ n ∧ ∀ x ∈ B.K, in8 x.phase
theorem Fine.up {B : BrainV} {n m : Nat} (h : Fine B n) (hm : n ≤ m) : Fine B m := ⟨Nat.le_trans h.1 hm, Nat.le_trans h.2.1 hm, h.2.2⟩
theorem Fine.keep {B : BrainV} {n : Nat} (h : Fine B n) (x : KeptV) (hx : in8 x.phase) : Fine (keepB B x) (n + 1) := by
 refine ⟨Nat.le_succ_of_le h.1, ?_, ?_⟩
 ·show (insAt B.K _ x).length ≤ n + 1
  have := placeK_le B.K x.id
  unfold insAt
  simp
  have := h.2.1
  omega
 ·intro y hy
  have hy : y ∈ insAt B.K (placeK B.K x.id) x := hy
  unfold insAt at hy
  simp only [List.mem_append, List.mem_cons, List.not_mem_nil, or_false] at hy
  rcases hy with (hy | rfl) | hy
  ·exact h.2.2 y (List.mem_of_mem_take hy)
  ·exact hx
  ·exact h.2.2 y (List.mem_of_mem_drop hy)
theorem Fine.kept {B : BrainV} {n : Nat} (h : Fine B n) (D : Nat → KeptV → BrainV) (x0 : Int) (hD : ∀ i x, B.K[i]? = some x → Fine (D i x) n) : Fine (keptB B D x0) n := by
 unfold keptB
 split
 ·exact h
 ·split
  ·rename_i x hx
   exact hD _ x hx
  ·exact h
theorem Fine.setK {B : BrainV} {n : Nat} (h : Fine B n) (i : Nat) (x : KeptV) (hx : in8 x.phase) : Fine (setK B i x) n := by
 refine ⟨h.1, by show (B.K.set i x).length ≤ n; simpa using h.2.1, fun y hy => ?_⟩
 rcases List.mem_or_eq_of_mem_set hy with hy | rfl
 ·exact h.2.2 y hy
 ·exact hx
theorem Fine.same {B R : BrainV} {n : Nat} (h : Fine B n) (h1 : R.I = B.I) (h2 : R.K = B.K) : Fine R n := by
 unfold Fine
 rw [h1, h2]
 exact h
theorem Fine.active {B R : BrainV} {n : Nat} (h : Fine B n) (h1 : R.I = B.I) (h2 : R.K = B.K) : Fine (activeB B R) n := by
 unfold activeB
 split
 ·exact h.same h1 h2
 ·exact h
theorem Fine.made {B : BrainV} {n : Nat} (h : Fine B n) (L : List Int) : Fine (madeB B L) (n + 1) := by
 unfold madeB
 split
 ·exact h.up (Nat.le_succ n)
 ·split
  ·exact h.up (Nat.le_succ n)
  ·rename_i x hx
   have hB : Fine { B with I := B.I.eraseIdx (idxL B.I fun x => x.token == L.getD 0 0).toNat } n := ⟨Nat.le_trans (List.length_eraseIdx_le _ _) h.1, h.2.1, h.2.2⟩
   have hp : in8 (if x.warm then 9 else 1) := by split <;> (unfold in8; omega)
   unfold madeX
   split
   ·exact (hB.keep ⟨L.getD 1 0, x.token, x.version, x.zone, if x.warm then 9 else 1, L.getD 2 0, false, false⟩ hp).same rfl rfl
   ·exact hB.keep ⟨L.getD 1 0, x.token, x.version, x.zone, if x.warm then 9 else 1, L.getD 2 0, false, false⟩ hp
theorem deedTs_fine {B : BrainV} {n : Nat} (h : Fine B n) (L : List Int) (hb : ∀ y ∈ L, badN y = false) : ∀ t ∈ deedTs B L, L.length = t.2.1 → Fine t.2.2 (n + 1) := by
 have hu := h.up (Nat.le_succ n)
 intro t ht hl
 unfold deedTs at ht
 simp only [List.mem_cons, List.not_mem_nil, or_false] at ht
 rcases ht with rfl | rfl | rfl | rfl | rfl | rfl | rfl | rfl | rfl | rfl | rfl | rfl | rfl | rfl | rfl
 ·show Fine (bootB B) (n + 1)
  unfold bootB; split <;> exact hu
 ·show Fine (intentB B (L.getD 0 0) (L.getD 1 0) (L.getD 2 0)) (n + 1)
  unfold intentB
  split
  ·exact ⟨by simp; exact h.1, hu.2.1, hu.2.2⟩
  ·exact hu
 ·exact h.made L
 ·show Fine (takeB B L) (n + 1)
  unfold takeB
  split
  ·exact h.keep ⟨L.getD 0 0, L.getD 1 0, L.getD 2 0, L.getD 3 0, 8, L.getD 4 0, false, false⟩ (show in8 8 by unfold in8; omega)
  ·exact hu
 ·refine hu.kept _ _ fun i x hx => ?_
  unfold phaseB
  split
  ·rename_i hlg
   refine hu.setK i _ ?_
   have hlt : ∀ p t, legalB p t = true → t < 11 := fun p t h => by unfold legalB at h; simp at h; omega
   have := hlt _ _ hlg
   have hl : L.length = 3 := hl
   have h0 : 0 ≤ L.getD 1 0 := by
    obtain ⟨y, hy⟩ := get_lt (l := L) (k := 1) (by omega)
    rw [lint L 1 y hy]
    have := hb y (mem_get hy)
    unfold badN at this
    simp at this
    omega
   exact ⟨h0, by show L.getD 1 0 ≤ 255; omega⟩
  ·exact hu
 ·refine hu.kept _ _ fun i x hx => ⟨hu.1, Nat.le_trans (List.length_eraseIdx_le _ _) hu.2.1, fun y hy => hu.2.2 y (List.mem_of_mem_eraseIdx hy)⟩
 ·refine hu.kept _ _ fun i x hx => ?_
  unfold guardB
  split
  ·exact hu.setK i _ (h.2.2 x (List.mem_of_getElem? hx))
  ·exact hu
 ·refine hu.kept _ _ fun i x hx => ?_
  exact hu.setK i _ (h.2.2 x (List.mem_of_getElem? hx))
 ·show Fine (startB B (L.getD 0 0) (L.getD 1 0)) (n + 1)
  unfold startB; split <;> exact hu
 ·exact hu.active (by unfold failB; split <;> rfl) (by unfold failB; split <;> rfl)
 ·exact hu.active rfl rfl
 ·exact hu.active rfl rfl
 ·exact hu.active (by unfold pauseB; split <;> rfl) (by unfold pauseB; split <;> rfl)
 ·exact hu.active (by unfold goB; split <;> rfl) (by unfold goB; split <;> rfl)
 ·exact hu.active rfl rfl
theorem mem_lookup {β : Type} {k : Int} {v : β} : ∀ {l : List (Int × β)}, l.lookup k = some v → (k, v) ∈ l
 | (a, b) :: l, h => by
  by_cases hk : k = a
  ·subst hk
   simp [List.lookup] at h
   subst h
   simp
  ·have hb : (k == a) = false := by simpa using hk
   simp only [List.lookup, hb] at h
   exact List.mem_cons_of_mem _ (mem_lookup h)
theorem Fine.apply {B : BrainV} {n : Nat} (h : Fine B n) (k : Int) (L : List Int) : Fine (applyB B k L) (n + 1) := by
 have hu := h.up (Nat.le_succ n)
 unfold applyB
 split
 ·exact hu
 ·rename_i hbad
  split
  ·unfold groupB; split <;> exact hu
  ·split
   ·exact hu
   ·rename_i m R hm
    split
    ·rename_i hl
     refine deedTs_fine h L (fun y hy => ?_) (k, m, R) (mem_lookup hm) hl
     have := List.any_eq_false.1 (by simpa using hbad : L.any badN = false) y hy
     simpa using this
    ·exact hu
end Go.Proofs.YtgcajfglidflnaaGreatDoor

/- brain.Own: a brain in memory of its own. -/
namespace Go.Proofs.YtgcajfglidflnaaGreatDoor
open Go.RowKit Go.Shelf
attribute [-go_sem] loadVar storeVar
attribute [local go_sem] load_other
theorem store_other (t : TypeId) (a : Addr) (v : Value) (_h : t ≠ 33) (h0 : ∀ w, (sizeOf t).run Tryz.prog w = .ok v.cells.size w) (w : World) : (storeVar t a v).run Tryz.prog w = (storeCells a v.cells.toList).run Tryz.prog w := by
 unfold storeVar
 simp [h0]
attribute [local go_sem] store_other
theorem setRow_grown (w : World) (g : Nat) (cs : Array Value) : w.grownBy (w.setRow g cs) (some g) :=
 ⟨rfl, rfl, rfl, by simp, fun i _ hne => setRow_other w g i cs (fun e => hne (by rw [e]))⟩
theorem owns_row {α : Type} {k : Nat} {e t : TypeId} {enc : α → List Value} {W : World} {base T : Nat} {v : Value} {l : List α} {c : Array Value} (h : Owns k e enc W base v l) (hT : W.heap[T]? = some (.cells c t)) (hne : e ≠ t) (cs : Array Value) : Owns k e enc (W.setRow T cs) base v l := by
 refine World.ownsRow.kept h (setRow_grown W T cs) ?_
 rcases Owns.form h with ⟨rfl, _⟩ | ⟨gi, ci, rfl, _, _⟩
 ·exact .inl rfl
 ·refine .inr fun e' => ?_
  obtain ⟨c', hc⟩ := Owns.typed h T e'
  rw [hT] at hc
  cases hc
  exact hne rfl
/-- The cells of a brain that is nothing. -/
def zeroBr : Array Value := brT (fun _ => 0) (fun _ => false) (.slice none 0 0) (.slice none 0 0) (.slice none 0 0)
def OwR (f : Nat → Int) (g : Nat → Bool) (M : List Int) (I : List IntentV) (K : List KeptV) (w : World) (v0 : Value) : Exit → Act → World → Prop
 | .normal, a', X => ∃ (mv iv kv : Value) (u3 u4 u5 u6 u7 u8 u9 u10 u11 u12 u13 u14 u15 u16 u17 : Value), a' = { tmps := #[v0, .pointer (some ⟨w.heap.size, 0, none⟩), .pointer (some ⟨w.heap.size + 1, 0, none⟩), u3, u4, u5, u6, u7, u8, u9, u10, u11, u12, u13, u14, u15, u16, u17], defers := [] } ∧
   BB X w.heap.size (brT f g mv iv kv) ∧ OwnI X w.heap.size mv M ∧ OwnN X w.heap.size iv I ∧ OwnK X w.heap.size kv K ∧ Below w.heap.size w X ∧ X.heap[w.heap.size + 1]? = some (.cells zeroBr 33)
 | _, _, _ => False
theorem own_facts {f : Nat → Int} {g : Nat → Bool} {mv iv kv mv' iv' kv' : Value} {M : List Int} {I : List IntentV} {K : List KeptV} {w X : World} (h : BB X w.heap.size (brT f g mv iv kv)) (h1 : OwnI X w.heap.size mv' M) (h2 : OwnN X w.heap.size iv' I) (h3 : OwnK X w.heap.size kv' K)
  (hb : Below w.heap.size w X) (hz : X.heap[w.heap.size + 1]? = some (.cells zeroBr 33)) :
  BB (((X.setCell ⟨w.heap.size, 17, none⟩ mv').setCell ⟨w.heap.size, 18, none⟩ iv').setCell ⟨w.heap.size, 19, none⟩ kv') w.heap.size (brT f g mv' iv' kv') ∧
  OwnI (((X.setCell ⟨w.heap.size, 17, none⟩ mv').setCell ⟨w.heap.size, 18, none⟩ iv').setCell ⟨w.heap.size, 19, none⟩ kv') w.heap.size mv' M ∧
  OwnN (((X.setCell ⟨w.heap.size, 17, none⟩ mv').setCell ⟨w.heap.size, 18, none⟩ iv').setCell ⟨w.heap.size, 19, none⟩ kv') w.heap.size iv' I ∧
  OwnK (((X.setCell ⟨w.heap.size, 17, none⟩ mv').setCell ⟨w.heap.size, 18, none⟩ iv').setCell ⟨w.heap.size, 19, none⟩ kv') w.heap.size kv' K ∧
  Below w.heap.size w (((X.setCell ⟨w.heap.size, 17, none⟩ mv').setCell ⟨w.heap.size, 18, none⟩ iv').setCell ⟨w.heap.size, 19, none⟩ kv') ∧
  (((X.setCell ⟨w.heap.size, 17, none⟩ mv').setCell ⟨w.heap.size, 18, none⟩ iv').setCell ⟨w.heap.size, 19, none⟩ kv').heap[w.heap.size + 1]? = some (.cells zeroBr 33) := by
 have j1 := blk_set h 17 mv'
 have j2 := blk_set j1 18 iv'
 have j3 := blk_set j2 19 kv'
 refine ⟨j3, owns_at (owns_at (owns_at h1 h (by decide) 17 _) j1 (by decide) 18 _) j2 (by decide) 19 _, owns_at (owns_at (owns_at h2 h (by decide) 17 _) j1 (by decide) 18 _) j2 (by decide) 19 _, owns_at (owns_at (owns_at h3 h (by decide) 17 _) j1 (by decide) 18 _) j2 (by decide) 19 _, ?_, ?_⟩
 ·exact ((hb.setCell (p := ⟨w.heap.size, 17, none⟩) (Nat.le_refl _) _).setCell (p := ⟨w.heap.size, 18, none⟩) (Nat.le_refl _) _).setCell (p := ⟨w.heap.size, 19, none⟩) (Nat.le_refl _) _
 ·exact blk_other (blk_other (blk_other hz (p := ⟨w.heap.size, 17, none⟩) (by simp) _) (p := ⟨w.heap.size, 18, none⟩) (by simp) _) (p := ⟨w.heap.size, 19, none⟩) (by simp) _
set_option maxRecDepth 100000 in
set_option maxHeartbeats 4000000 in
theorem own_any (f : Nat → Int) (g : Nat → Bool) (mv iv kv : Value) (M : List Int) (I : List IntentV) (K : List KeptV) (w : World) (hm : RowOf 1 encI w mv M) (hi : RowOf 4 encIn w iv I) (hk : RowOf 8 encKp w kv K) (hM : M.length ≤ 17592186043904) (hI : I.length ≤ 1000000) (hK : K.length ≤ 1000000) :
  Calls Tryz.prog 24 #[.agg (brT f g mv iv kv)] w fun e w' => ∃ mv' iv' kv', e = .returned (.agg (brT f g mv' iv' kv')) ∧ OwnI w' w.heap.size mv' M ∧ OwnN w' w.heap.size iv' I ∧ OwnK w' w.heap.size kv' K ∧ Below w.heap.size w w' := by
 obtain ⟨W2, hW2⟩ : ∃ W2, W2 = (w.alloc (.cells (brT f g mv iv kv) 33)).alloc (.cells zeroBr 33) := ⟨_, rfl⟩
 have hb2 : Below w.heap.size w W2 := by rw [hW2]; exact ((Below.refl _ _).alloc (Nat.le_refl _) _).alloc (by simp) _
 have b1 : BB W2 w.heap.size (brT f g mv iv kv) := by rw [hW2]; exact blk_alloc (heap_new _ _) _
 have z1 : W2.heap[w.heap.size + 1]? = some (.cells zeroBr 33) := by rw [hW2]; exact heap_new2 _ _ _
 have hz2 : W2.heap.size = w.heap.size + 2 := by rw [hW2]; simp
 have HM := hid (fun V (hV : Below w.heap.size w V) => cloneI_any mv M V hM (hm.below hV))
 have HI := hid (fun V (hV : Below w.heap.size w V) => cloneN_any iv I V hI (hi.below hV))
 have HK := hid (fun V (hV : Below w.heap.size w V) => cloneK_any kv K V hK (hk.below hV))
 have HBX := hid (show Below w.heap.size w W2.drew from below_drewN hb2 1)
 have HBB := hid (show BB W2.drew w.heap.size (brT f g mv iv kv) from b1)
 have HZZ := hid (show W2.drew.heap[w.heap.size + 1]? = some (.cells zeroBr 33) from z1)
 have c17 : W2.cell? ⟨w.heap.size, 17, none⟩ = some mv := blk_cell b1 17
 have c18 : W2.cell? ⟨w.heap.size, 18, none⟩ = some iv := blk_cell b1 18
 have c19 : W2.cell? ⟨w.heap.size, 19, none⟩ = some kv := blk_cell b1 19
 have HW2 := hid (show W2 = (w.alloc (.cells (brT f g mv iv kv) 33)).alloc (.cells #[.int .i64 0, .int .i64 0, .bool false, .int .i64 0, .int .i64 0, .int .i64 0, .int .i64 0, .int .i64 0, .int .i64 0, .int .i64 0, .int .i64 0, .int .i64 0, .int .i64 0, .int .i64 0, .int .i64 0, .int .i64 0, .bool false, .slice none 0 0, .slice none 0 0, .slice none 0 0, .int .u8 0, .int .i64 0, .int .i64 0, .int .i64 0, .bool false, .int .i64 0, .int .i64 0] 33) from hW2)
 clear hm hi hk hb2 b1 z1 hW2
 go_enter Tryz.func24, Tryz.ntmps24
 go_wp2_with fail
 rw [← HW2.out]
 refine wp_mono (Q := OwR f g M I K w (.agg (brT f g mv iv kv))) ?region ?rest
 case region =>
  go_region_with (first
   | (go_at_call 35; refine (HM.out _ HBX.out).mono ?_; rintro e x1 ⟨v1, rfl, hown, hb⟩; have HO1 := hid (hown.mono HBX.out.size); obtain ⟨a1, n1, k1, rfl⟩ := hown.shape; have HBB := hid (HBB.out.below hb (blk_lt HBB.out)); have HZZ := hid (blk_below HZZ.out hb (blk_lt HZZ.out)); have HBX := hid (HBX.out.trans (hb.mono HBX.out.size)); have c17 : x1.cell? ⟨w.heap.size, 17, none⟩ = some mv := blk_cell HBB.out 17; have c18 : x1.cell? ⟨w.heap.size, 18, none⟩ = some iv := blk_cell HBB.out 18; have c19 : x1.cell? ⟨w.heap.size, 19, none⟩ = some kv := blk_cell HBB.out 19; clear hown hb)
   | (go_at_call 36; refine (HI.out _ HBX.out).mono ?_; rintro e x2 ⟨v2, rfl, hown, hb⟩; have HO2 := hid (hown.mono HBX.out.size); obtain ⟨a2, n2, k2, rfl⟩ := hown.shape; have HO1 := hid (HO1.out.below hb); have HBB := hid (HBB.out.below hb (blk_lt HBB.out)); have HZZ := hid (blk_below HZZ.out hb (blk_lt HZZ.out)); have HBX := hid (HBX.out.trans (hb.mono HBX.out.size)); have c17 : x2.cell? ⟨w.heap.size, 17, none⟩ = some mv := blk_cell HBB.out 17; have c18 : x2.cell? ⟨w.heap.size, 18, none⟩ = some iv := blk_cell HBB.out 18; have c19 : x2.cell? ⟨w.heap.size, 19, none⟩ = some kv := blk_cell HBB.out 19; clear hown hb)
   | (go_at_call 37; refine (HK.out _ HBX.out).mono ?_; rintro e x3 ⟨v3, rfl, hown, hb⟩; have HO3 := hid (hown.mono HBX.out.size); obtain ⟨a3, n3, k3, rfl⟩ := hown.shape; have HO1 := hid (HO1.out.below hb); have HO2 := hid (HO2.out.below hb); have HBB := hid (HBB.out.below hb (blk_lt HBB.out)); have HZZ := hid (blk_below HZZ.out hb (blk_lt HZZ.out)); have HBX := hid (HBX.out.trans (hb.mono HBX.out.size)); have c17 : x3.cell? ⟨w.heap.size, 17, none⟩ = some mv := blk_cell HBB.out 17; have c18 : x3.cell? ⟨w.heap.size, 18, none⟩ = some iv := blk_cell HBB.out 18; have c19 : x3.cell? ⟨w.heap.size, 19, none⟩ = some kv := blk_cell HBB.out 19; have e17 : x3.frozen? ⟨w.heap.size, 17, none⟩ = false := blk_free HBB.out 17; have e18 : x3.frozen? ⟨w.heap.size, 18, none⟩ = false := blk_free HBB.out 18; have e19 : x3.frozen? ⟨w.heap.size, 19, none⟩ = false := blk_free HBB.out 19; have lx : w.heap.size < x3.heap.size := blk_lt HBB.out; clear hown hb))
  all_goals exact ⟨_, _, _, _, _, _, _, _, _, _, _, _, _, _, _, _, _, _, rfl, own_facts HBB.out HO1.out HO2.out HO3.out HBX.out HZZ.out⟩
 case rest =>
  intro e a' X hR
  match e, hR with
  | .normal, hR =>
  obtain ⟨mv', iv', kv', u3, u4, u5, u6, u7, u8, u9, u10, u11, u12, u13, u14, u15, u16, u17, rfl, hB, hO1, hO2, hO3, hb, hz⟩ := hR
  have hld := hB.load (brT_bc f g mv' iv' kv')
  obtain ⟨a1, n1, k1, rfl⟩ := hO1.shape
  obtain ⟨a2, n2, k2, rfl⟩ := hO2.shape
  obtain ⟨a3, n3, k3, rfl⟩ := hO3.shape
  have hst : (storeVar 33 ⟨w.heap.size + 1, 0, none⟩ (.agg (brT f g (.slice a1 n1 k1) (.slice a2 n2 k2) (.slice a3 n3 k3)))).run Tryz.prog X = .ok () (X.setRow (w.heap.size + 1) (brT f g (.slice a1 n1 k1) (.slice a2 n2 k2) (.slice a3 n3 k3))) :=
   run_storeVar_row X (w.heap.size + 1) 33 33 _ _ hz (brain_size (brT_bc _ _ _ _ _)) rfl (by simp [brT, Value.oneCell'])
  have HY := hid (setRow_heap X (w.heap.size + 1) _ (brT f g (.slice a1 n1 k1) (.slice a2 n2 k2) (.slice a3 n3 k3)) _ _ hz)
  have O1 := hid hO1
  have O2 := hid hO2
  have O3 := hid hO3
  have HBF := hid hb
  have HZF := hid hz
  clear hB hO1 hO2 hO3 hb hz
  go_wp2
  refine bodyPost_ret (results_cell_row rfl _ _ (w.heap.size + 1) 33 _ _ _ rfl HY.out brain_under rfl (brain_size (brT_bc _ _ _ _ _))) rfl ?_
  exact ⟨_, _, _, rfl, owns_row O1.out HZF.out (by decide) _, owns_row O2.out HZF.out (by decide) _, owns_row O3.out HZF.out (by decide) _, below_setRow HBF.out (by omega) _⟩
end Go.Proofs.YtgcajfglidflnaaGreatDoor

/- brain.All, brain.Apply: records are applied. -/
namespace Go.Proofs.YtgcajfglidflnaaGreatDoor
open Go.RowKit Go.Shelf
attribute [-go_sem] loadVar storeVar
attribute [local go_sem] load_other store_other
attribute [local go_sem] Oper.semAt_some

def applyAll (B : BrainV) (R : List RecE) : BrainV := R.foldl (fun B r => applyB B r.k r.L) B
theorem Fine.all {n : Nat} : ∀ (R : List RecE) {B : BrainV} {m : Nat}, Fine B m → m + R.length ≤ n → Fine (applyAll B R) n
 | [], _, _, h, hm => h.up (by simpa using hm)
 | r :: R, B, m, h, hm => Fine.all R (h.apply r.k r.L) (by simp at hm; omega)
/-- Between two rounds of All's loop. -/
def AllI (w : World) (Bp : Nat) (s : Value) (B : BrainV) (R : List RecE) (pre : List (Fin R.length)) (W : World) : Prop :=
 (∃ mv iv kv, BO w w.heap.size (applyAll B (pre.map R.get)) mv iv kv W) ∧ W.heap[w.heap.size + 1]? = some (.cells zeroBr 33) ∧ W.heap[Bp]? = some (.cells #[s] 44)
theorem BO.own {base : World} {b : Nat} {B : BrainV} {mv iv kv : Value} {W W' : World} {row : Option Nat} (h : BO base b B mv iv kv W) (hg : W.grownBy W' row) (hr : ∀ r, row = some r → base.heap.size ≤ r ∧ ∃ o : Obj, W.heap[r]? = some o ∧ o.isCells = false) : BO base b B mv iv kv W' :=
 ⟨own_blk h.box hg (fun r e => (hr r e).2), h.hb, h.rm.kept fun _ _ hc => own_blk hc hg (fun r e => (hr r e).2), h.ri.own hg (fun r e => (hr r e).2), h.rk.own hg (fun r e => (hr r e).2), h.bel.grown hg h.bel.size (fun k e => (hr k e).1)⟩
theorem AllI.own {w : World} {Bp : Nat} {s : Value} {B : BrainV} {R : List RecE} {C : Nat} (hC : w.heap.size ≤ C) : OwnFrom C (AllI w Bp s B R) := by
 rintro pre W W' row ⟨⟨mv, iv, kv, h⟩, h2, h3⟩ hg hr
 exact ⟨⟨mv, iv, kv, h.own hg (fun r e => ⟨Nat.le_trans hC (hr r e).1, (hr r e).2⟩)⟩, own_blk h2 hg (fun r e => (hr r e).2), own_blk h3 hg (fun r e => (hr r e).2)⟩
/-- Where All's loop variable lies. -/
def AllA (w : World) (R : List RecE) (x : Fin R.length) (a' : Act) (W : World) : Prop :=
 ∃ (Bx : Nat) (u0 u1 u3 u6 u7 u8 u9 u10 u11 u12 u13 : Value), w.heap.size + 2 ≤ Bx ∧ W.heap[Bx]? = some (.cells #[.int .u8 (R.get x).k, (R.get x).s] 70) ∧ a' = { tmps := #[u0, u1, .pointer (some ⟨w.heap.size, 0, none⟩), u3, .pointer (some ⟨w.heap.size + 1, 0, none⟩), .pointer (some ⟨Bx, 0, none⟩), u6, u7, u8, u9, u10, u11, u12, u13], defers := [] }
theorem AllA.own {w : World} {R : List RecE} {C : Nat} (x : Fin R.length) (a' : Act) : OwnFrom C (fun (_ : Unit) W => AllA w R x a' W) := by
 rintro _ W W' row ⟨Bx, u0, u1, u3, u6, u7, u8, u9, u10, u11, u12, u13, h1, h2, h3⟩ hg hr
 exact ⟨Bx, _, _, _, _, _, _, _, _, _, _, _, h1, own_blk h2 hg (fun r e => (hr r e).2), h3⟩
/-- A brain in memory of the call's own, handed back. -/
def BrEnd (base : World) (B : BrainV) (v : Value) (W : World) : Prop :=
 ∃ mv iv kv, v = .agg (brT B.f B.g mv iv kv) ∧ TRow 3 1 encI W mv B.M ∧ OwnN W base.heap.size iv B.I ∧ OwnK W base.heap.size kv B.K
def AllS (w : World) (Bp : Nat) (k : Nat) : Prop := k < w.heap.size ∨ k = Bp
set_option maxRecDepth 100000 in
set_option maxHeartbeats 4000000 in
theorem all_any (f : Nat → Int) (g : Nat → Bool) (mv iv kv : Value) (M : List Int) (I : List IntentV) (K : List KeptV) (s : Value) (R : List RecE) (n : Nat) (w : World) (hm : RowOf 1 encI w mv M) (hi : RowOf 4 encIn w iv I) (hk : RowOf 8 encKp w kv K) (hM : M.length ≤ 17592186043904)
  (hF : Fine ⟨f, g, M, I, K⟩ n) (hn : n + R.length ≤ 1000) (hs : RowOf 2 encR w s R) (hR : ∀ r ∈ R, RowOf 1 encI w r.s r.L ∧ r.L.length ≤ 100000) (hC : Changes w) (hLm : Limits w) :
  Calls Tryz.prog 44 #[.agg (brT f g mv iv kv), s] w fun e w' => ∃ v, e = .returned v ∧ BrEnd w (applyAll ⟨f, g, M, I, K⟩ R) v w' ∧ Below w.heap.size w w' := by
 have hmf := mkfunc
 obtain ⟨W2, hW2⟩ : ∃ W2, W2 = (w.alloc (.cells (brT f g mv iv kv) 33)).alloc (.cells zeroBr 33) := ⟨_, rfl⟩
 have hb2 : Below w.heap.size w W2 := by rw [hW2]; exact ((Below.refl _ _).alloc (Nat.le_refl _) _).alloc (by simp) _
 have b1 : BB W2 w.heap.size (brT f g mv iv kv) := by rw [hW2]; exact blk_alloc (heap_new _ _) _
 have z1 : W2.heap[w.heap.size + 1]? = some (.cells zeroBr 33) := by rw [hW2]; exact heap_new2 _ _ _
 have hz2 : W2.heap.size = w.heap.size + 2 := by rw [hW2]; simp
 have hO := own_any f g mv iv kv M I K W2 (hm.below hb2) (hi.below hb2) (hk.below hb2) hM (by have := hF.1; dsimp only at this; omega) (by have := hF.2.1; dsimp only at this; omega)
 have hld := b1.load (brT_bc f g mv iv kv)
 have HW2 := hid (show W2 = (w.alloc (.cells (brT f g mv iv kv) 33)).alloc (.cells #[.int .i64 0, .int .i64 0, .bool false, .int .i64 0, .int .i64 0, .int .i64 0, .int .i64 0, .int .i64 0, .int .i64 0, .int .i64 0, .int .i64 0, .int .i64 0, .int .i64 0, .int .i64 0, .int .i64 0, .int .i64 0, .bool false, .slice none 0 0, .slice none 0 0, .slice none 0 0, .int .u8 0, .int .i64 0, .int .i64 0, .int .i64 0, .bool false, .int .i64 0, .int .i64 0] 33) from hW2)
 have HO := hid hO
 have HB1 := hid b1
 have HZ1 := hid z1
 have HB2 := hid hb2
 have HS := hid hs
 have HR := hid hR
 have HF := hid hF
 obtain ⟨sa, sc, rfl, hs1, hs2, hs3, _⟩ := hs.open
 have hr := hR
 clear hm hi hk hb2 b1 z1 hW2 hO hR hF hs
 refine (callsIn_wide (n := 4)).1 ?_
 refine callsIn_of_wp_marks Tryz.func44 rfl trivial ?_ rfl
 simp only [Tryz.ntmps44, List.size_toArray, List.length_cons, List.length_nil, Nat.reduceAdd, Nat.reduceSub, Array.replicate_succ, Array.replicate_zero, List.push_toArray, List.append_toArray, List.nil_append, List.cons_append]
 refine wpIn_wide.2 ?_
 rw [HW2.out] at hld
 go_wp2_with fail
 rw [← HW2.out]
 refine HO.out.mono ?_
 rintro e w1 ⟨mv', iv', kv', rfl, ho1, ho2, ho3, hbw⟩
 obtain ⟨a1, n1, k1, rfl⟩ := ho1.shape
 obtain ⟨a2, n2, k2, rfl⟩ := ho2.shape
 obtain ⟨a3, n3, k3, rfl⟩ := ho3.shape
 have hB := HB1.out.below hbw (blk_lt HB1.out)
 have hZ := blk_below HZ1.out hbw (blk_lt HZ1.out)
 obtain ⟨V, hV⟩ : ∃ V, V = w1.setRow w.heap.size (brT f g (.slice a1 n1 k1) (.slice a2 n2 k2) (.slice a3 n3 k3)) := ⟨_, rfl⟩
 have hst : (storeVar 33 ⟨w.heap.size, 0, none⟩ (.agg (brT f g (.slice a1 n1 k1) (.slice a2 n2 k2) (.slice a3 n3 k3)))).run Tryz.prog w1 = .ok () V := by
  rw [hV]
  exact run_storeVar_row w1 w.heap.size 33 33 _ _ hB (brain_size (brT_bc _ _ _ _ _)) rfl (by simp [brT, Value.oneCell'])
 have hbo : BO w w.heap.size ⟨f, g, M, I, K⟩ (.slice a1 n1 k1) (.slice a2 n2 k2) (.slice a3 n3 k3) V := by
  have q1 := ho1.mono HB2.out.size
  have q2 := ho2.mono HB2.out.size
  have q3 := ho3.mono HB2.out.size
  rw [hV]
  exact ⟨setRow_heap w1 _ _ _ _ _ hB, Nat.le_refl _, (owns_row q1 hB (by decide) _).trow encI_len (by decide), owns_row q2 hB (by decide) _, owns_row q3 hB (by decide) _, below_setRow (HB2.out.trans (hbw.mono HB2.out.size)) (Nat.le_refl _) _⟩
 have hZV : V.heap[w.heap.size + 1]? = some (.cells zeroBr 33) := by rw [hV, setRow_other _ _ _ _ (by omega)]; exact hZ
 have HBO := hid hbo
 have HZV := hid hZV
 clear ho1 ho2 ho3 hbw hB hZ hV hbo hZV hld
 go_wp2_with fail
 refine (records_any sa R.length sc V).mono ?_
 rintro e w2 ⟨rfl, hw2⟩
 have hbe : Below V.heap.size V w2 := by rw [hw2]; exact (Below.refl _ _).alloc (Nat.le_refl _) _
 have hq : w2.heap[V.heap.size]? = some (.cells #[.slice sa R.length sc] 44) := by rw [hw2]; exact heap_new _ _
 have HBO2 := hid (HBO.out.below hbe)
 have HZ2 := hid (blk_below HZV.out hbe (blk_lt HZV.out))
 have HQ2 := hid hq
 have hlV := HBO.out.bel.size
 have hl2 : w2.heap.size = V.heap.size + 1 := by rw [hw2]; simp
 have hne : w.heap.size + 1 < V.heap.size := blk_lt HZV.out
 clear hw2 hbe hq hst
 go_wp2
 refine (wpIn_wide (n := 4)).1 ?_
 have hHS : SeqStopsK Fence.wide 3 Tryz.prog 67 #[.pointer (some ⟨V.heap.size, 0, none⟩)] (itemR R) (On (AllS w V.heap.size)) (fun ys => ys = List.finRange R.length) (fun _ => True) R.length w2 := by
  refine records_stops 3 (by omega) V.heap.size (AllS w V.heap.size) (.slice sa R.length sc) R w2 (fun k hk => by unfold AllS at hk; omega) (.inr rfl) (blk_cell HQ2.out 0) (HS.out.below HBO2.out.bel) ?_ ?_
  ·intro b off l c he hl
   injection he with e1 e2 e3
   rcases HS.out with ⟨a', c', he', h0, _, _⟩ | ⟨_, b', off', c', he', _, _, hb', _⟩
   ·injection he' with f1 f2 f3
    omega
   ·injection he' with f1 f2 f3
    rw [e1] at f1
    cases f1
    exact .inl hb'
  ·intro x hx
   obtain ⟨a, c, e, _⟩ := (HR.out x hx).1.open
   exact ⟨a, _, c, e⟩
 refine wpIn_rangeFunc_ownH rfl (by omega) (gf := 67) (lb := #[.pointer (some ⟨V.heap.size, 0, none⟩)]) rfl trivial (enters_of Tryz.func67 (by kernel_rfl) rfl)
  hHS (fun h k => h.trans k) (fun W l o o' hl _ _ _ => (On.refl _ _).putObj (by unfold AllS; omega) _) (Below.refl _ _) (fun _ => rfl)
  (AllI w V.heap.size (.slice sa R.length sc) ⟨f, g, M, I, K⟩ R) (fun _ _ _ => False) (AllI.own (by omega)) (fun _ _ _ _ _ h _ _ => h.elim) ⟨⟨_, _, _, HBO2.out⟩, HZ2.out, HQ2.out⟩
  (AllA w R) (fun x a' => AllA.own x a') ?assign ?body ?done ?stop
 case assign =>
  rintro l pre x W K hI hK
  have HK := hid hK
  clear hK
  obtain ⟨ra, rn, rc, hrs⟩ : ∃ a n c, (R.get x).s = .slice a n c := by
   obtain ⟨a, c, e, _⟩ := (HR.out _ (List.get_mem R x)).1.open
   exact ⟨a, _, c, e⟩
  have hlW : w.heap.size + 2 ≤ W.heap.size := by have := blk_lt hI.2.1; omega
  have HRS := hid hrs
  simp only [itemR, recV, hrs]
  gi_wp2
  refine HK.out _ _ ((KeepsOthers.alloc _ _).from _) ((On.refl _ _).alloc _) ((AllI.own (Nat.le_refl _)).alloc _ hI) ⟨W.heap.size, _, _, _, _, _, _, _, _, _, _, _, hlW, ?_, rfl⟩
  rw [HRS.out]
  exact heap_new W _
 case body =>
  rintro l pre x a' W hl ⟨r', hr'⟩ ⟨⟨mvv, ivv, kvv, hb⟩, hz, hq⟩ ⟨Bx, u0, u1, u3, u6, u7, u8, u9, u10, u11, u12, u13, hBx, hx, rfl⟩ hlt
  obtain ⟨r, hrx⟩ : ∃ r, R.get x = r := ⟨_, rfl⟩
  have hrm : r ∈ R := by rw [← hrx]; exact List.get_mem R x
  obtain ⟨hrow, hrl⟩ := HR.out r hrm
  rw [hrx] at hx
  have hfine : Fine (applyAll ⟨f, g, M, I, K⟩ (pre.map R.get)) 1000 := Fine.all _ HF.out (by simp; omega)
  have hap := apply_any r.k r.s r.L hrow hrl hC hLm hb hfine.1 hfine.2.1 hfine.2.2
  obtain ⟨ra, rc, hrs, _⟩ := hrow.open
  rw [hrs] at hx hap
  have e0 : applyAll ⟨f, g, M, I, K⟩ ((pre ++ [x]).map R.get) = applyB (applyAll ⟨f, g, M, I, K⟩ (pre.map R.get)) r.k r.L := by
   unfold applyAll
   rw [List.map_append, List.foldl_append]
   simp only [List.map_cons, List.map_nil, List.foldl_cons, List.foldl_nil]
   rw [hrx]
  have c0 := blk_cell hx 0
  have c1 := blk_cell hx 1
  simp only [List.getElem?_toArray, List.getElem?_cons_succ, List.getElem?_cons_zero] at c0 c1
  have lx := blk_lt hx
  unfold recV at hap
  have HAP := hid hap
  have HB := hid hb
  have HZ := hid hz
  have HQ := hid hq
  have HE := hid e0
  clear hap hb hz hq e0 hx hr' hrow hfine
  gi_wp2_with fail
  refine ⟨trivial, (CallsIn.inRound l (callsIn_wide.2 HAP.out)).mono ?_⟩
  rintro e y ⟨rfl, ⟨m2, i2, k2', hy⟩, hkx⟩
  have HY := hid hy
  have HKX := hid hkx
  clear hy hkx
  gi_wp2
  refine ⟨HKX.out.others.from _, ?_, ?_, ?_, ?_⟩
  ·refine ⟨HKX.out.size, fun k hk _ => ?_⟩
   rcases hk with hk | rfl
   ·exact (HY.out.bel.block k hk).trans (HB.out.bel.block k hk).symm
   ·exact (HKX.out.block _ _ _ HQ.out (by omega) (by decide) (by decide)).trans HQ.out.symm
  ·rw [HE.out]
   exact ⟨_, _, _, HY.out⟩
  ·exact HKX.out.block _ _ _ HZ.out (by omega) (by decide) (by decide)
  ·exact HKX.out.block _ _ _ HQ.out (by omega) (by decide) (by decide)
 case done =>
  rintro D xs W hD hxs ⟨⟨mvv, ivv, kvv, hb⟩, hz, hq⟩ hK
  subst hxs
  rw [show (List.finRange R.length).map R.get = R from List.ext_getElem (by simp) (by intros; simp)] at hb
  obtain ⟨B', hB'⟩ : ∃ B', applyAll ⟨f, g, M, I, K⟩ R = B' := ⟨_, rfl⟩
  rw [hB'] at hb
  have HBE := hid hB'
  clear hB'
  dsimp only
  have hld := hb.box.load (brT_bc _ _ _ _ _)
  obtain ⟨am, cm, rfl, _⟩ := hb.rm
  obtain ⟨ai, ni, ci, rfl⟩ := hb.ri.shape
  obtain ⟨ak, nk, ck, rfl⟩ := hb.rk.shape
  have hst : (storeVar 33 ⟨w.heap.size + 1, 0, none⟩ (.agg (brT B'.f B'.g (.slice am B'.M.length cm) (.slice ai ni ci) (.slice ak nk ck)))).run Tryz.prog W = .ok () (W.setRow (w.heap.size + 1) (brT B'.f B'.g (.slice am B'.M.length cm) (.slice ai ni ci) (.slice ak nk ck))) :=
   run_storeVar_row W (w.heap.size + 1) 33 33 _ _ hz (brain_size (brT_bc _ _ _ _ _)) rfl (by simp [brT, Value.oneCell'])
  have r1 := setRow_heap W (w.heap.size + 1) _ (brT B'.f B'.g (.slice am B'.M.length cm) (.slice ai ni ci) (.slice ak nk ck)) _ _ hz
  have r2 := (setRow_other W (w.heap.size + 1) D (brT B'.f B'.g (.slice am B'.M.length cm) (.slice ai ni ci) (.slice ak nk ck)) (by omega)).trans hK
  have R1 := hid r1
  have R2 := hid r2
  have HBB := hid hb
  have HZ := hid hz
  have hDw : w.heap.size ≤ D := by omega
  clear hb hz hq hK r1 r2
  go_wp2
  refine ⟨by simp, .inl ⟨_, _, rfl, run_takeDeferred R2.out, ?_⟩⟩
  refine ⟨_, results_cell_row rfl _ _ (w.heap.size + 1) 33 _ _ _ rfl (blk_put R1.out R2.out rfl _) brain_under rfl (brain_size (brT_bc _ _ _ _ _)), ?_⟩
  rw [HBE.out]
  refine ⟨_, rfl, ⟨_, _, _, rfl, ?_, ?_, ?_⟩, below_put (below_setRow HBB.out.bel (by omega) _) hDw _⟩
  ·exact (HBB.out.rm.kept (KeptT.grown (setRow_grown _ _ _) (fun r e => by cases e; exact ⟨_, HZ.out⟩) (by decide))).kept fun _ _ hc => blk_put hc R2.out rfl _
  ·exact Owns.own (owns_row HBB.out.ri HZ.out (by decide) _) (grownBy_putObj' _ D (.deferred none)) (fun r e => by cases e; exact ⟨_, R2.out, rfl⟩)
  ·exact Owns.own (owns_row HBB.out.rk HZ.out (by decide) _) (grownBy_putObj' _ D (.deferred none)) (fun r e => by cases e; exact ⟨_, R2.out, rfl⟩)
 case stop =>
  rintro D c pre W hD hpre h _
  exact h.elim
end Go.Proofs.YtgcajfglidflnaaGreatDoor

/- brain.Apply: one record is applied. -/
namespace Go.Proofs.YtgcajfglidflnaaGreatDoor
open Go.RowKit Go.Shelf
attribute [-go_sem] loadVar storeVar
attribute [local go_sem] load_other store_other

set_option maxRecDepth 100000 in
set_option maxHeartbeats 2000000 in
theorem applyE_any (f : Nat → Int) (g : Nat → Bool) (mv iv kv : Value) (M : List Int) (I : List IntentV) (K : List KeptV) (k : Int) (s : Value) (L : List Int) (n : Nat) (w : World) (hm : RowOf 1 encI w mv M) (hi : RowOf 4 encIn w iv I) (hk : RowOf 8 encKp w kv K) (hM : M.length ≤ 17592186043904)
  (hF : Fine ⟨f, g, M, I, K⟩ n) (hn : n ≤ 999) (hs : RowOf 1 encI w s L) (hL : L.length ≤ 100000) (hC : Changes w) (hLm : Limits w) :
  Calls Tryz.prog 26 #[.agg (brT f g mv iv kv), recV k s] w fun e w' => ∃ v, e = .returned v ∧ BrEnd w (applyB ⟨f, g, M, I, K⟩ k L) v w' ∧ Below w.heap.size w w' := by
 obtain ⟨sa, sc, rfl, hs1, hs2, hs3, _⟩ := hs.open
 obtain ⟨W3, hW3⟩ : ∃ W3, W3 = ((w.alloc (.cells (brT f g mv iv kv) 33)).alloc (.cells #[.int .u8 k, .slice sa L.length sc] 70)).alloc (.cells zeroBr 33) := ⟨_, rfl⟩
 have hb3 : Below w.heap.size w W3 := by rw [hW3]; exact (((Below.refl _ _).alloc (Nat.le_refl _) _).alloc (by simp) _).alloc (by simp; omega) _
 have b1 : BB W3 w.heap.size (brT f g mv iv kv) := by rw [hW3]; exact blk_alloc (blk_alloc (heap_new _ _) _) _
 have z1 : W3.heap[w.heap.size + 2]? = some (.cells zeroBr 33) := by rw [hW3]; simpa using heap_new2 (w.alloc _) _ _
 obtain ⟨W4, hW4⟩ : ∃ W4, W4 = W3.alloc (.cells #[.int .u8 k, .slice sa L.length sc] 70) := ⟨_, rfl⟩
 have hb4 : Below W3.heap.size W3 W4 := by rw [hW4]; exact (Below.refl _ _).alloc (Nat.le_refl _) _
 have n4 : W4.heap[W3.heap.size]? = some (.cells #[.int .u8 k, .slice sa L.length sc] 70) := by rw [hW4]; exact heap_new _ _
 have hbw : Below w.heap.size w W4 := hb3.trans (hb4.mono hb3.size)
 have hrow : RowOf 2 encR W4 (.slice (some ⟨W3.heap.size, 0, none⟩) 1 1) [⟨k, .slice sa L.length sc, L⟩] := by
  refine .inr ⟨by simp, W3.heap.size, 0, 1, rfl, by simp, by decide, blk_lt n4, ?_⟩
  intro i x hx j v hj
  cases i with
  | zero =>
   simp at hx
   subst hx
   rw [blk_cell n4]
   simpa [encR] using hj
  | succ i => simp at hx
 have hA := all_any f g mv iv kv M I K _ _ n W4 (hm.below hbw) (hi.below hbw) (hk.below hbw) hM hF (by simp; omega) hrow (fun r hr => by simp at hr; subst hr; exact ⟨hs.below hbw, hL⟩) (hC.below hbw) (hLm.below hbw)
 have hld := b1.load (brT_bc f g mv iv kv)
 have HA := hid hA
 have HBW := hid hbw
 have HZ4 := hid (blk_below z1 hb4 (blk_lt z1))
 have hz3 : W3.heap.size = w.heap.size + 3 := by rw [hW3]; simp
 have HW3 := hid (show W3 = ((w.alloc (.cells (brT f g mv iv kv) 33)).alloc (.cells #[.int .u8 k, .slice sa L.length sc] 70)).alloc (.cells #[.int .i64 0, .int .i64 0, .bool false, .int .i64 0, .int .i64 0, .int .i64 0, .int .i64 0, .int .i64 0, .int .i64 0, .int .i64 0, .int .i64 0, .int .i64 0, .int .i64 0, .int .i64 0, .int .i64 0, .int .i64 0, .bool false, .slice none 0 0, .slice none 0 0, .slice none 0 0, .int .u8 0, .int .i64 0, .int .i64 0, .int .i64 0, .bool false, .int .i64 0, .int .i64 0] 33) from hW3)
 have HW4 := hid hW4
 rw [hz3] at hA
 unfold recV
 clear hm hi hk hF hs hb3 b1 z1 hb4 n4 hbw hrow hA hW3 hW4
 rw [HW3.out] at hld
 go_enter Tryz.func26, Tryz.ntmps26
 go_wp2_with fail
 rw [← HW3.out] 
 try rw [← hz3]
 rw [← HW4.out]
 refine HA.out.mono ?_
 rintro e y ⟨v, rfl, ⟨m2, i2, k2, rfl, q1, q2, q3⟩, hb⟩
 have hz := blk_below HZ4.out hb (blk_lt HZ4.out)
 have Q1 := hid q1
 obtain ⟨am, cm, rfl, _⟩ := q1
 obtain ⟨ai, ni, ci, rfl⟩ := q2.shape
 obtain ⟨ak, nk, ck, rfl⟩ := q3.shape
 obtain ⟨B', hB'⟩ : ∃ B', applyAll ⟨f, g, M, I, K⟩ [⟨k, .slice sa L.length sc, L⟩] = B' := ⟨_, rfl⟩
 have HB' := hid (show applyB ⟨f, g, M, I, K⟩ k L = B' from hB')
 rw [hB'] at q2 q3 Q1 ⊢
 have hst : (storeVar 33 ⟨w.heap.size + 2, 0, none⟩ (.agg (brT B'.f B'.g (.slice am B'.M.length cm) (.slice ai ni ci) (.slice ak nk ck)))).run Tryz.prog y = .ok () (y.setRow (w.heap.size + 2) (brT B'.f B'.g (.slice am B'.M.length cm) (.slice ai ni ci) (.slice ak nk ck))) :=
  run_storeVar_row y (w.heap.size + 2) 33 33 _ _ hz (brain_size (brT_bc _ _ _ _ _)) rfl (by simp [brT, Value.oneCell'])
 have R1 := hid (setRow_heap y (w.heap.size + 2) _ (brT B'.f B'.g (.slice am B'.M.length cm) (.slice ai ni ci) (.slice ak nk ck)) _ _ hz)
 have HZ := hid hz
 have Q2 := hid (q2.mono HBW.out.size)
 have Q3 := hid (q3.mono HBW.out.size)
 have HB := hid (HBW.out.trans (hb.mono HBW.out.size))
 clear q2 q3 hz hb hB' hld
 go_wp2
 refine bodyPost_ret (results_cell_row rfl _ _ (w.heap.size + 2) 33 _ _ _ rfl R1.out brain_under rfl (brain_size (brT_bc _ _ _ _ _))) rfl ?_
 rw [HB'.out]
 exact ⟨_, rfl, ⟨_, _, _, rfl, Q1.out.kept (KeptT.grown (setRow_grown _ _ _) (fun r e => by cases e; exact ⟨_, HZ.out⟩) (by decide)), owns_row Q2.out HZ.out (by decide) _, owns_row Q3.out HZ.out (by decide) _⟩, below_setRow HB.out (by omega) _⟩
end Go.Proofs.YtgcajfglidflnaaGreatDoor
