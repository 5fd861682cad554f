/- What is on its way, in memory of the call's own: net.Own. -/
import Derived.Test.YthnlppbfmmiioaaOw1
namespace Go.Proofs.Ythnlppbfmmiioaa
open Go.RowKit Go.Shelf
attribute [local go_sem] Oper.semAt_some

theorem keeps_own {α : Type} {k : Nat} {e : TypeId} {enc : α → List Value} {W w1 : World} {base : Nat} {v : Value} {l : List α} {o : Obj} (h : Owns k e enc W base v l) (hg : (W.alloc o).grownBy w1 v.ownBlock) : KeepsOthers W w1 := by
  refine ⟨Nat.le_trans (by simp) hg.size, fun i o' hi ho => ?_⟩
  refine (hg.block i (by have := blk_lt hi; simp; omega) (fun e' => ?_)).trans (blk_alloc hi _)
  obtain ⟨c, hc⟩ := h.typed i e'.symm
  rw [hc] at hi; cases hi; cases ho
theorem RowOf.blockLt {α : Type} {k : Nat} {enc : α → List Value} {w : World} {v : Value} {l : List α} (h : RowOf k enc w v l) : ∀ b off n c, v = .slice (some ⟨b, off, none⟩) n c → 0 < n → b < w.heap.size := by
  intro b off n c he h0
  rcases h with ⟨a', c', he', _, _, _⟩ | ⟨_, b', off', c', he', _, _, hb', _⟩
  · rw [he] at he'; cases he'; omega
  · rw [he] at he'; cases he'; exact hb'
theorem on_grown {S : Nat → Prop} {a w : World} {row : Option Nat} (h : a.grownBy w row) (hr : ∀ r, row = some r → ¬ S r) : On S a w :=
  ⟨h.size, fun k hk hl => h.block k hl (fun e => hr k e.symm hk)⟩

/-- Behind some asks. -/
def OwI (w : World) (va vt : Value) (pre : List AskV) (W : World) : Prop :=
  (∃ v, W.heap[w.heap.size + 1]? = some (.cells #[v, .slice none 0 0] 25) ∧ OwnA W (w.heap.size + 4) v pre) ∧ W.heap[w.heap.size]? = some (.cells #[va, vt] 25) ∧ Below w.heap.size w W ∧ w.heap.size + 4 ≤ W.heap.size
theorem OwI.own {w : World} {va vt : Value} {B : Nat} (hB : w.heap.size ≤ B) : OwnFrom B (OwI w va vt) := by
  rintro pre W W' row ⟨⟨v, h1, h2⟩, h3, h4, h5⟩ hg hr
  exact ⟨⟨v, own_blk h1 hg (fun r e => (hr r e).2), h2.own hg (fun r e => (hr r e).2)⟩, own_blk h3 hg (fun r e => (hr r e).2), h4.grown hg h4.size (fun k e => Nat.le_trans hB (hr k e).1), Nat.le_trans h5 hg.size⟩
def OwA (w : World) (frame : Nat → AskV → Act) (x : AskV) (a' : Act) (W : World) : Prop :=
  ∃ Bx, w.heap.size + 4 ≤ Bx ∧ W.heap[Bx]? = some (.cells #[.int .u8 x.kind, .int .i64 x.call, .int .i64 x.a, .int .i64 x.b, .int .i64 x.c, .int .i64 x.d] 27) ∧ a' = frame Bx x
theorem OwA.own {w : World} {frame : Nat → AskV → Act} {B : Nat} (x : AskV) (a' : Act) : OwnFrom B (fun (_ : Unit) W => OwA w frame x a' W) := by
  rintro _ W W' row ⟨Bx, h1, h2, h3⟩ hg hr
  exact ⟨Bx, h1, own_blk h2 hg (fun r e => (hr r e).2), h3⟩
/-- Behind some answers. -/
def OwJ (w : World) (B2 : Nat) (asks : List AskV) (pre : List TellP) (W : World) : Prop :=
  (∃ v u, W.heap[w.heap.size + 1]? = some (.cells #[v, u] 25) ∧ OwnA W (w.heap.size + 4) v asks ∧ OwnT W B2 u (pre.map (·.1)) ∧ ∀ p ∈ pre, TellOwn W (w.heap.size + 4) p.1 p.2) ∧ Below w.heap.size w W ∧ B2 ≤ W.heap.size
theorem OwJ.own {w : World} {B2 : Nat} {asks : List AskV} {B : Nat} (hB : w.heap.size ≤ B) : OwnFrom B (OwJ w B2 asks) := by
  rintro pre W W' row ⟨⟨v, u, h1, h2, h3, h4⟩, h5, h6⟩ hg hr
  exact ⟨⟨v, u, own_blk h1 hg (fun r e => (hr r e).2), h2.own hg (fun r e => (hr r e).2), h3.own hg (fun r e => (hr r e).2), fun p hp => (h4 p hp).own hg (fun r e => (hr r e).2)⟩, h5.grown hg h5.size (fun k e => Nat.le_trans hB (hr k e).1), Nat.le_trans h6 hg.size⟩
def OwT (w : World) (frame : Nat → TellP → Act) (x : TellP) (a' : Act) (W : World) : Prop :=
  ∃ Bx a n c, x.1.sv = .slice a n c ∧ w.heap.size + 4 ≤ Bx ∧ W.heap[Bx]? = some (.cells #[.int .i64 x.1.call, .int .u8 x.1.kind, .int .u8 x.1.code, .int .i64 x.1.id, x.1.sv, .bool x.1.more] 30) ∧ TellOwn W (w.heap.size + 4) x.1 x.2 ∧ a' = frame Bx x
theorem OwT.own {w : World} {frame : Nat → TellP → Act} {B : Nat} (x : TellP) (a' : Act) : OwnFrom B (fun (_ : Unit) W => OwT w frame x a' W) := by
  rintro _ W W' row ⟨Bx, a, n, c, h0, h1, h2, h3, h4⟩ hg hr
  exact ⟨Bx, a, n, c, h0, h1, own_blk h2 hg (fun r e => (hr r e).2), h3.own hg (fun r e => (hr r e).2), h4⟩
theorem tells_of {w : World} {B : Nat} : ∀ (xs : List TellP), (∀ p ∈ xs, TellOwn w B p.1 p.2) → TellsOwn w B (xs.map (·.1)) (xs.map (·.2))
  | [], _ => TellsOwn.nil _ _
  | x :: xs, h => by
    obtain ⟨h1, h2⟩ := tells_of xs (fun p hp => h p (List.mem_cons_of_mem _ hp))
    refine ⟨by simp, fun i m t hm ht => ?_⟩
    cases i with
    | zero => simp at hm ht; subst hm; subst ht; exact h x (List.mem_cons_self ..)
    | succ i => exact h2 i m t (by simpa using hm) (by simpa using ht)

theorem TellsOwn.own {W W' : World} {base : Nat} {ms : List TellM} {l : List TellV} {row : Option Nat} (h : TellsOwn W base ms l) (hg : W.grownBy W' row) (hr : ∀ r, row = some r → ∃ o : Obj, W.heap[r]? = some o ∧ o.isCells = false) : TellsOwn W' base ms l := ⟨h.1, fun i m t h1 h2 => (h.2 i m t h1 h2).own hg hr⟩
theorem NetOwn.put {W : World} {base D : Nat} {va vt : Value} {n : NetV} {o : Obj} (h : NetOwn W base va vt n) (hD : W.heap[D]? = some o) (ho : o.isCells = false) (o' : Obj) : NetOwn (W.putObj D o') base va vt n := by
  obtain ⟨h1, ms, h2, h3⟩ := h
  have hr : ∀ r, some D = some r → ∃ o : Obj, W.heap[r]? = some o ∧ o.isCells = false := fun r e => by cases e; exact ⟨o, hD, ho⟩
  exact ⟨Owns.own h1 (grownBy_putObj' W D o') hr, ms, Owns.own h2 (grownBy_putObj' W D o') hr, h3.own (grownBy_putObj' W D o') hr⟩

set_option maxRecDepth 100000 in
set_option maxHeartbeats 4000000 in
theorem own_any (va vt : Value) (n : NetV) (w : World) (hn : NetIs w va vt n) (hk : netOk n) :
    Calls Try.prog 15 #[netv va vt] w fun e w' => ∃ ua ut, e = .returned (netv ua ut) ∧ NetOwn w' w.heap.size ua ut n ∧ Below w.heap.size w w' := by
  obtain ⟨i0, hi, hz0, hz1, hz2⟩ := info_parts infoA
  obtain ⟨j0, hj, hy0, hy1, hy2⟩ := info_parts infoT
  have hmf := mkfunc
  obtain ⟨ha, ms, ht, hms⟩ := hn
  obtain ⟨aa, ac, rfl⟩ := shape_row ha
  obtain ⟨ta, tc, rfl⟩ := shape_row ht
  have HA := hid ha
  have HT := hid ht
  have HMS := hid hms
  have k1 := hk.1
  have k2 : ms.length ≤ 1000 := by rw [hms.1]; exact hk.2.1
  have HK := hid hk.2.2
  have HLN := hid hms.1
  clear ha ht hms hk
  refine (callsIn_wide (n := 4)).1 ?_
  refine callsIn_of_wp_marks Try.func15 rfl trivial ?_ rfl
  unfold netv
  simp only [Try.ntmps15, List.size_toArray, List.length_cons, List.length_nil, Nat.reduceAdd, Nat.reduceSub, Array.replicate_succ, Array.replicate_zero, List.push_toArray, List.append_toArray, List.nil_append, List.cons_append]
  gi_wp2_with fail
  refine ⟨trivial, callsIn_wide.2 ((each_askv _ _ _ _ _ rfl).mono ?_)⟩
  rintro e w0 ⟨rfl, hw0⟩
  have hw1 : w0 = (((w.alloc (.cells #[.slice aa n.asks.length ac, .slice ta ms.length tc] 25)).alloc (.cells #[.slice none 0 0, .slice none 0 0] 25)).alloc (.cells #[.slice aa n.asks.length ac] 22)).alloc (.cells #[.func (.func 31) #[] #[]] 63) := hw0
  have hsz : w0.heap.size = w.heap.size + 4 := by rw [hw1]; simp
  have q0 : w0.heap[w.heap.size]? = some (.cells #[.slice aa n.asks.length ac, .slice ta ms.length tc] 25) := by rw [hw1]; exact blk_alloc (blk_alloc (blk_alloc (heap_new _ _) _) _) _
  have q1 : w0.heap[w.heap.size + 1]? = some (.cells #[.slice none 0 0, .slice none 0 0] 25) := by rw [hw1]; exact blk_alloc (blk_alloc (heap_new2 _ _ _) _) _
  have q2 : w0.heap[w.heap.size + 2]? = some (.cells #[.slice aa n.asks.length ac] 22) := by rw [hw1]; exact blk_alloc (by simpa using heap_new2 (w.alloc _) _ _) _
  have q3 : w0.heap[w.heap.size + 3]? = some (.cells #[.func (.func 31) #[] #[]] 63) := by rw [hw1]; simpa using heap_new2 ((w.alloc _).alloc _) _ _
  have hB0 : Below w.heap.size w w0 := by rw [hw1]; exact ((((Below.refl _ _).alloc (Nat.le_refl _) _).alloc (by simp) _).alloc (by simp; omega) _).alloc (by simp; omega) _
  have HSZ := hid hsz
  have HB0 := hid hB0
  have Q0 := hid q0
  have Q1 := hid q1
  have hseq := eachA_all 3 (by omega) (w.heap.size + 2) (w.heap.size + 3) (fun k => k < w.heap.size + 4 ∧ k ≠ w.heap.size + 1) _ n.asks w0 (fun k h => by omega) (by omega) (by omega) (blk_cell q2 0) (blk_cell q3 0) (RowOf.below HA.out hB0) (fun b off l c he h0 => by have := RowOf.blockLt HA.out b off l c he h0; omega)
  have HSEQ := hid hseq
  clear hw0 hw1 hsz q0 q1 q2 q3 hB0 hseq
  gi_wp2
  refine range_all rfl (by omega) (gf := 43) (lb := #[.pointer (some ⟨w.heap.size + 2, 0, none⟩), .pointer (some ⟨w.heap.size + 3, 0, none⟩)]) rfl trivial (enters_of Try.func43 (by kernel_rfl) rfl)
    HSEQ.out (fun h k => h.trans k) (fun W l o o' hl _ _ _ => (On.refl _ _).putObj (by have := HSZ.out; omega) _) (Below.refl _ _) (fun _ => rfl)
    (OwI w (.slice aa n.asks.length ac) (.slice ta ms.length tc)) (OwI.own (by have := HSZ.out; omega)) ⟨⟨_, Q1.out, Owns.nil _ _⟩, Q0.out, HB0.out, by have := HSZ.out; omega⟩
    (OwA w (fun Bx x => { tmps := #[.agg #[.slice aa n.asks.length ac, .slice ta ms.length tc], .pointer (some ⟨w.heap.size, 0, none⟩), .pointer (some ⟨w.heap.size + 1, 0, none⟩), .pointer (some ⟨Bx, 0, none⟩), undef, .pointer (some ⟨w.heap.size, 0, none⟩), .slice aa n.asks.length ac, .func (.func 43) #[] #[.pointer (some ⟨w.heap.size + 2, 0, none⟩), .pointer (some ⟨w.heap.size + 3, 0, none⟩)], aggA x, undef, undef, undef, undef, undef, undef, undef, undef, undef, undef, undef, undef, undef, undef, undef, undef, undef], defers := [] }))
    (fun x a' => OwA.own x a') ?assign ?body ?done
  case assign =>
    rintro l pre x W K ⟨⟨v, h1, h2⟩, h3, h4, h5⟩ _ _ hK
    have HK := hid hK
    have H2 := hid h2
    clear hK h2
    simp only [aggA]
    gi_wp2
    exact HK.out _ _ ((KeepsOthers.alloc _ _).from _) ((On.refl _ _).alloc _) ⟨⟨v, blk_alloc h1 _, World.ownsRow.alloc H2.out _⟩, blk_alloc h3 _, h4.alloc (by omega) _, by simp; omega⟩ ⟨W.heap.size, h5, heap_new _ _, rfl⟩
  case body =>
    rintro l pre x a' W hl ⟨⟨v, h1, h2⟩, h3, h4, h5⟩ ⟨Bx, hBx, bx, rfl⟩ hlt
    obtain ⟨g0, g1, g2, g3, g4, g5, _, hb1⟩ := blk6 bx
    obtain ⟨k0, k1', kf, hb2⟩ := blk2 h1
    have H1 := hid h1
    have H2 := hid h2
    have H3 := hid h3
    have c1 : pre.length + 1 ≤ maxLen := by unfold maxLen; omega
    have c2 : (pre.length + 1) * 48 ≤ 140737488355328 := by omega
    clear h1 h2 h3 bx
    simp only [aggA]
    gi_wp2_with (gi_at_builtin; refine wpListIn_append_own _ rfl _ _ 22 rfl (w.heap.size + 4) 27 i0 _ 6 48 Try.underlying22 hi hz0 hz1 hz2 rfl (by decide) _ pre.length _ rfl (World.ownsRow.alloc H2.out _) ⟨W.heap.size, 0, none⟩ 1 1 (encA x) rfl rfl (new_cells' W _ _) (encA_one x) c1 c2 (by simp; omega) ?_; intro v' w1 hown' hgrow _; obtain ⟨g', cap', rfl⟩ := ownsRow_succ hown'; have hq := hid (blk_grown (blk_alloc H1.out (.cells #[.int .u8 x.kind, .int .i64 x.call, .int .i64 x.a, .int .i64 x.b, .int .i64 x.c, .int .i64 x.d] 27)) hgrow (fun e => by have := (Owns.block H2.out _ e.symm).1; omega)); obtain ⟨hq0, hq1, hqf, hql⟩ := blk2 hq.out; have hr := hid (blk_grown (blk_alloc H3.out (.cells #[.int .u8 x.kind, .int .i64 x.call, .int .i64 x.a, .int .i64 x.b, .int .i64 x.c, .int .i64 x.d] 27)) hgrow (fun e => by have := (Owns.block H2.out _ e.symm).1; omega)); have HOWN := hid hown'; have HGR := hid hgrow; clear hown' hgrow)
    have hrow : ∀ r, v.ownBlock = some r → w.heap.size + 4 ≤ r := fun r e => (Owns.block H2.out r e).1
    refine ⟨rfl, ((keeps_own H2.out HGR.out).trans (KeepsOthers.setCell _ _ _)).from _, ?_, ⟨_, blk_set hq.out 0 _, ?_⟩, blk_other hr.out (by simp) _, ?_, ?_⟩
    · exact (((On.refl _ _).alloc _).trans (on_grown HGR.out (fun r e h => by have := hrow r e; omega))).setCell (fun h => h.2 rfl) _
    · refine Owns.other (p := ⟨w.heap.size + 1, 0, none⟩) ?_ (by simp) _
      unfold Owns
      have := HOWN.out
      simpa [List.flatMap_append] using this
    · exact ((h4.alloc (by omega) _).grown HGR.out (by simp; omega) (fun r e => by have := hrow r e; omega)).setCell (p := ⟨w.heap.size + 1, 0, none⟩) (by simp) _
    · have := HGR.out.size
      simp [World.setCell] at this ⊢
      omega
  case done =>
    rintro D xs W hD rfl ⟨⟨v, h1, h2⟩, h3, h4, h5⟩ hKD
    have H1 := hid h1
    have H2 := hid h2
    have H3 := hid h3
    have HKD := hid hKD
    obtain ⟨k0, k1', kf, kl⟩ := blk2 h3
    clear h1 h2 h3 hKD
    have HBW := hid h4
    have hW5 := h5
    clear h4 h5
    gi_wp2_with fail
    refine ⟨trivial, callsIn_wide.2 ((each_tellv _ _ _ _ _ rfl).mono ?_)⟩
    rintro e V ⟨rfl, hV⟩
    have hvz : V.heap.size = W.heap.size + 2 := by rw [hV]; simp
    have hbV : Below W.heap.size W V := by rw [hV]; exact ((Below.refl _ _).alloc (Nat.le_refl _) _).alloc (by simp) _
    have q2 : V.heap[W.heap.size]? = some (.cells #[.slice ta ms.length tc] 23) := by rw [hV]; exact blk_alloc (heap_new _ _) _
    have q3 : V.heap[W.heap.size + 1]? = some (.cells #[.func (.func 28) #[] #[]] 59) := by rw [hV]; exact heap_new2 _ _ _
    have hbw : Below w.heap.size w V := HBW.out.trans (hbV.mono HBW.out.size)
    have hseq := eachT_all 3 (by omega) W.heap.size (W.heap.size + 1) (fun k => k < V.heap.size ∧ k ≠ w.heap.size + 1) (.slice ta ms.length tc) ms n.tells V (fun k h => h.1) (HK.out.mono (by omega)) (by constructor <;> omega) (by constructor <;> omega) (blk_cell q2 0) (blk_cell q3 0) (RowOf.below HT.out hbw) (TellsIs.below HMS.out hbw)
      (fun b off l c he h0 => by have := RowOf.blockLt HT.out b off l c he h0; constructor <;> omega)
      (fun m hm b off l c he h0 => by
        obtain ⟨i, hi'⟩ := List.getElem?_of_mem hm
        obtain ⟨t, ht⟩ := get_lt (show i < n.tells.length by rw [← HLN.out]; exact lt_get hi')
        have := RowOf.blockLt (HMS.out.2 i m t hi' ht).1 b off l c he h0
        constructor <;> omega) (w.heap.size + 4) (by omega)
    have P1 := hid (blk_below H1.out hbV (blk_lt H1.out))
    have P2 := hid (Owns.below H2.out hbV)
    have PB := hid hbw
    have HVZ := hid hvz
    have HSEQ2 := hid hseq
    have PD : Hid (V.heap[D]? = some (.deferred (some []))) := hid ((hbV.block D (by have := blk_lt HKD.out; exact this)).trans HKD.out)
    clear hV hvz hbV q2 q3 hbw hseq H1 H2 H3 HKD HBW k0 k1' kf kl
    gi_wp2
    refine range_all rfl (by omega) (gf := 44) (lb := #[.pointer (some ⟨W.heap.size, 0, none⟩), .pointer (some ⟨W.heap.size + 1, 0, none⟩)]) rfl trivial (enters_of Try.func44 (by kernel_rfl) rfl)
      HSEQ2.out (fun h k => h.trans k) (fun W' l o o' hl _ _ _ => (On.refl _ _).putObj (by omega) _) (Below.refl _ _) (fun _ => rfl)
      (fun pre W' => OwJ w V.heap.size n.asks pre W' ∧ W'.heap[D]? = some (.deferred (some []))) ?hI ⟨⟨⟨_, _, P1.out, P2.out, Owns.nil _ _, by simp⟩, PB.out, Nat.le_refl _⟩, PD.out⟩
      (OwT w (fun Bx x => { tmps := #[.agg #[.slice aa n.asks.length ac, .slice ta ms.length tc], .pointer (some ⟨w.heap.size, 0, none⟩), .pointer (some ⟨w.heap.size + 1, 0, none⟩), undef, .pointer (some ⟨Bx, 0, none⟩), .pointer (some ⟨w.heap.size, 0, none⟩), .slice aa n.asks.length ac, .func (.func 43) #[] #[.pointer (some ⟨w.heap.size + 2, 0, none⟩), .pointer (some ⟨w.heap.size + 3, 0, none⟩)], undef, undef, undef, undef, undef, undef, undef, .pointer (some ⟨w.heap.size, 1, none⟩), .slice ta ms.length tc, .func (.func 44) #[] #[.pointer (some ⟨W.heap.size, 0, none⟩), .pointer (some ⟨W.heap.size + 1, 0, none⟩)], aggT x.1, undef, undef, undef, undef, undef, undef, undef], defers := [] }))
      (fun x a' => OwT.own x a') ?assign ?body ?done
    case hI =>
      have hDV : D < V.heap.size := blk_lt PD.out
      refine (OwJ.own (by have := HVZ.out; omega)).and ?_
      intro pre X X' row hs hg hr
      exact (hg.block D (blk_lt hs) (fun e => by have := (hr D e.symm).1; omega)).trans hs
    case assign =>
      rintro l pre ⟨⟨xc, xk, xo, xi, xs', xm⟩, t⟩ X K ⟨⟨⟨v, u, h1, h2, h3, h4⟩, h5, h6⟩, hd⟩ hG _ hK
      obtain ⟨xa, xn, xcc, hxs⟩ := hG.1.shape
      simp only at hxs
      subst hxs
      have HK := hid hK
      have H1 := hid h1
      have H2 := hid h2
      have H3 := hid h3
      have H4 := hid h4
      have H5 := hid h5
      have HG := hid hG
      have HD := hid hd
      clear hK h1 h2 h3 h4 h5 hG hd
      simp only [aggT]
      gi_wp2
      have hba : ∀ o, Below X.heap.size X (X.alloc o) := fun o => (Below.refl _ _).alloc (Nat.le_refl _) _
      exact HK.out _ _ ((KeepsOthers.alloc _ _).from _) ((On.refl _ _).alloc _) ⟨⟨⟨v, u, blk_alloc H1.out _, Owns.below H2.out (hba _), Owns.below H3.out (hba _), fun p hp => (H4.out p hp).below (hba _)⟩, H5.out.alloc H5.out.size _, by simp; omega⟩, blk_alloc HD.out _⟩ ⟨X.heap.size, _, _, _, rfl, by have := HVZ.out; omega, heap_new _ _, HG.out.below (hba _), rfl⟩
    case body =>
      rintro l pre ⟨⟨xc, xk, xo, xi, xs', xm⟩, t⟩ a' X hl ⟨⟨⟨v, u, h1, h2, h3, h4⟩, h5, h6⟩, hd⟩ ⟨Bx, xa, xn, xcc, hxs, hBx, bx, hG, rfl⟩ hlt
      simp only at hxs
      subst hxs
      obtain ⟨g0, g1, g2, g3, g4, g5, _, hb1⟩ := blk6 bx
      obtain ⟨k0, k1', kf, hb2⟩ := blk2 h1
      obtain ⟨ml, hml⟩ : ∃ ml, pre.map (·.1) = ml := ⟨_, rfl⟩
      rw [hml] at h3
      have hmz : ml.length ≤ pre.length := by rw [← hml]; simp
      have HML := hid hml
      clear hml
      have H1 := hid h1
      have H2 := hid h2
      have H3 := hid h3
      have H4 := hid h4
      have H5 := hid h5
      have HG := hid hG
      have HD := hid hd
      have hln := HLN.out
      have c1 : ml.length + 1 ≤ maxLen := by unfold maxLen; omega
      have c2 : (ml.length + 1) * 56 ≤ 140737488355328 := by omega
      clear h1 h2 h3 h4 h5 hG hd bx hln
      have hba : ∀ o, Below X.heap.size X (X.alloc o) := fun o => (Below.refl _ _).alloc (Nat.le_refl _) _
      have hVW : w.heap.size + 6 ≤ V.heap.size := by have := HVZ.out; omega
      have HBA := hid hba
      clear hba
      simp only [aggT]
      gi_wp2_with (gi_at_builtin; refine wpListIn_append_own _ rfl _ _ 23 rfl V.heap.size 30 j0 _ 6 56 Try.underlying23 hj hy0 hy1 hy2 rfl (by decide) _ ml.length _ rfl (World.ownsRow.alloc H3.out _) ⟨X.heap.size, 0, none⟩ 1 1 (encT ⟨xc, xk, xo, xi, .slice xa xn xcc, xm⟩) rfl rfl (new_cells' X #[.int .i64 xc, .int .u8 xk, .int .u8 xo, .int .i64 xi, .slice xa xn xcc, .bool xm] _) (encT_one ⟨xc, xk, xo, xi, .slice xa xn xcc, xm⟩ rfl) c1 c2 (by simp; omega) ?_; intro v' w1 hown' hgrow _; obtain ⟨g', cap', rfl⟩ := ownsRow_succ hown'; have hq := hid (blk_grown (blk_alloc H1.out (.cells #[.int .i64 xc, .int .u8 xk, .int .u8 xo, .int .i64 xi, .slice xa xn xcc, .bool xm] 30)) hgrow (fun e => by have := (Owns.block H3.out _ e.symm).1; omega)); obtain ⟨hq0, hq1, hqf, hql⟩ := blk2 hq.out; have HOWN := hid hown'; have HGR := hid hgrow; clear hown' hgrow)
      have hrow : ∀ r, u.ownBlock = some r → V.heap.size ≤ r := fun r e => (Owns.block H3.out r e).1
      have hty : ∀ r, u.ownBlock = some r → ∃ c, (X.alloc (.cells #[.int .i64 xc, .int .u8 xk, .int .u8 xo, .int .i64 xi, .slice xa xn xcc, .bool xm] 30)).heap[r]? = some (.cells c 30) := fun r e => by
        obtain ⟨c, hc⟩ := Owns.typed H3.out r e
        exact ⟨c, blk_alloc hc _⟩
      refine ⟨rfl, ((keeps_own H3.out HGR.out).trans (KeepsOthers.setCell _ _ _)).from _, ?_, ⟨⟨_, _, blk_set hq.out 1 _, ?_, ?_, ?_⟩, ?_, ?_⟩, ?_⟩
      · exact (((On.refl _ _).alloc _).trans (on_grown HGR.out (fun r e h => by have := hrow r e; omega))).setCell (fun h => h.2 rfl) _
      · exact Owns.other (Owns.apart (Owns.below H2.out (HBA.out _)) HGR.out hty (by decide)) (p := ⟨w.heap.size + 1, 1, none⟩) (by simp) _
      · refine Owns.other (p := ⟨w.heap.size + 1, 1, none⟩) ?_ (by simp; omega) _
        rw [List.map_append, HML.out]
        unfold Owns
        have := HOWN.out
        simpa [List.flatMap_append] using this
      · intro p hp
        refine TellOwn.other (p := ⟨w.heap.size + 1, 1, none⟩) ?_ (by simp) _
        rcases List.mem_append.1 hp with hp | hp
        · exact ((H4.out p hp).below (HBA.out _)).apart HGR.out hty (by decide)
        · simp at hp; subst hp
          exact (HG.out.below (HBA.out _)).apart HGR.out hty (by decide)
      · exact ((H5.out.alloc H5.out.size _).grown HGR.out (by have := H5.out.size; simp; omega) (fun r e => by have := hrow r e; omega)).setCell (p := ⟨w.heap.size + 1, 1, none⟩) (by simp) _
      · have := HGR.out.size
        simp [World.setCell] at this ⊢
        omega
      · have hDV : D < V.heap.size := blk_lt PD.out
        rw [Below.heap_setCell _ _ _ _ (by have := HSZ.out; simp; omega), HGR.out.block D (by simp; omega) (fun e => by have := hrow D e.symm; omega)]
        exact blk_alloc HD.out _
    case done =>
      rintro D2 xs X hD2 hxs ⟨⟨⟨v, u, h1, h2, h3, h4⟩, h5, h6⟩, hd⟩ hKD2
      obtain ⟨va', vn', vc', rfl⟩ := h2.shape
      obtain ⟨ua, un, uc, rfl⟩ := h3.shape
      obtain ⟨k0, k1', kf, hb2⟩ := blk2 h1
      have H1 := hid h1
      have H2 := hid h2
      have H3 := hid h3
      have H4 := hid h4
      have H5 := hid h5
      have HD := hid hd
      have HD2 := hid hKD2
      have HXS := hid hxs
      clear h1 h2 h3 h4 h5 hd hKD2 hxs
      gi_wp2
      have hsz := HSZ.out
      have hvz := HVZ.out
      have hDV : D < V.heap.size := blk_lt PD.out
      have e1 : ((X.setCell ⟨w.heap.size + 1, 0, none⟩ (.slice va' vn' vc')).setCell ⟨w.heap.size + 1, 1, none⟩ (.slice ua un uc)).heap[D2]? = some (.deferred (some [])) := by
        rw [Below.heap_setCell _ _ _ _ (by simp; omega), Below.heap_setCell _ _ _ _ (by simp; omega)]; exact HD2.out
      have e2 : (((X.setCell ⟨w.heap.size + 1, 0, none⟩ (.slice va' vn' vc')).setCell ⟨w.heap.size + 1, 1, none⟩ (.slice ua un uc)).putObj D2 (.deferred none)).heap[D]? = some (.deferred (some [])) := by
        rw [World.putObj_heap_other (by omega), Below.heap_setCell _ _ _ _ (by simp; omega), Below.heap_setCell _ _ _ _ (by simp; omega)]; exact HD.out
      have hnet : NetOwn X (w.heap.size + 4) (.slice va' vn' vc') (.slice ua un uc) n := by
        refine ⟨H2.out, _, Owns.mono H3.out (by omega), ?_⟩
        have := tells_of xs H4.out
        rw [HXS.out] at this
        exact this
      refine ⟨by simp, .inl ⟨_, _, rfl, run_takeDeferred e1, ?_⟩⟩
      refine ⟨by simp, .inl ⟨_, _, rfl, run_takeDeferred e2, ?_⟩⟩
      refine ⟨_, res_net rfl rfl (blk_put (blk_put (blk_set (blk_set H1.out 0 _) 1 _) e1 rfl _) e2 rfl _), _, _, rfl, ?_, ?_⟩
      · exact ((((hnet.other (p := ⟨w.heap.size + 1, 0, none⟩) (by simp) _).other (p := ⟨w.heap.size + 1, 1, none⟩) (by simp) _).put e1 rfl _).put e2 rfl _).mono (by omega)
      · exact below_put (below_put ((H5.out.setCell (p := ⟨w.heap.size + 1, 0, none⟩) (by simp) _).setCell (p := ⟨w.heap.size + 1, 1, none⟩) (by simp) _) (by omega) _) (by omega) _
end Go.Proofs.Ythnlppbfmmiioaa
