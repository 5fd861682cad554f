/- net.Ask and net.Tell. -/
import Derived.Test.YthnlppbfmmiioaaWo
namespace Go.Proofs.Ythnlppbfmmiioaa
open Go.RowKit Go.Shelf

theorem far6 {W : World} {b f : Nat} {o : Obj} (h : W.heap[b]? = some o) (hne : b ≠ f) (u0 u1 u2 u3 u4 u5 : Value) : ((((((W.setCell ⟨f, 0, none⟩ u0).setCell ⟨f, 1, none⟩ u1).setCell ⟨f, 2, none⟩ u2).setCell ⟨f, 3, none⟩ u3).setCell ⟨f, 4, none⟩ u4).setCell ⟨f, 5, none⟩ u5).heap[b]? = some o := blk_far (blk_far (blk_far (blk_far (blk_far (blk_far h hne _) hne _) hne _) hne _) hne _) hne _
theorem far2 {W : World} {b f : Nat} {o : Obj} (h : W.heap[b]? = some o) (hne : b ≠ f) (u0 u1 : Value) : ((W.setCell ⟨f, 0, none⟩ u0).setCell ⟨f, 1, none⟩ u1).heap[b]? = some o := blk_far (blk_far h hne _) hne _
theorem set6 {W : World} {f : Nat} {c0 c1 c2 c3 c4 c5 : Value} {t : TypeId} (h : W.heap[f]? = some (.cells #[c0, c1, c2, c3, c4, c5] t)) (u0 u1 u2 u3 u4 u5 : Value) : ((((((W.setCell ⟨f, 0, none⟩ u0).setCell ⟨f, 1, none⟩ u1).setCell ⟨f, 2, none⟩ u2).setCell ⟨f, 3, none⟩ u3).setCell ⟨f, 4, none⟩ u4).setCell ⟨f, 5, none⟩ u5).heap[f]? = some (.cells #[u0, u1, u2, u3, u4, u5] t) := blk_set (blk_set (blk_set (blk_set (blk_set (blk_set h 0 _) 1 _) 2 _) 3 _) 4 _) 5 _
theorem set2 {W : World} {f : Nat} {c0 c1 : Value} {t : TypeId} (h : W.heap[f]? = some (.cells #[c0, c1] t)) (u0 u1 : Value) : ((W.setCell ⟨f, 0, none⟩ u0).setCell ⟨f, 1, none⟩ u1).heap[f]? = some (.cells #[u0, u1] t) := blk_set (blk_set h 0 _) 1 _
theorem below6 {W a : World} {B f : Nat} (h : Below B a W) (hf : B ≤ f) (u0 u1 u2 u3 u4 u5 : Value) : Below B a ((((((W.setCell ⟨f, 0, none⟩ u0).setCell ⟨f, 1, none⟩ u1).setCell ⟨f, 2, none⟩ u2).setCell ⟨f, 3, none⟩ u3).setCell ⟨f, 4, none⟩ u4).setCell ⟨f, 5, none⟩ u5) := (((((h.setCell (p := ⟨f, 0, none⟩) hf _).setCell (p := ⟨f, 1, none⟩) hf _).setCell (p := ⟨f, 2, none⟩) hf _).setCell (p := ⟨f, 3, none⟩) hf _).setCell (p := ⟨f, 4, none⟩) hf _).setCell (p := ⟨f, 5, none⟩) hf _
theorem below2 {W a : World} {B f : Nat} (h : Below B a W) (hf : B ≤ f) (u0 u1 : Value) : Below B a ((W.setCell ⟨f, 0, none⟩ u0).setCell ⟨f, 1, none⟩ u1) := (h.setCell (p := ⟨f, 0, none⟩) hf _).setCell (p := ⟨f, 1, none⟩) hf _
theorem netown6 {W : World} {base f : Nat} {va vt : Value} {n : NetV} (h : NetOwn W base va vt n) (hf : f < base) (u0 u1 u2 u3 u4 u5 : Value) : NetOwn ((((((W.setCell ⟨f, 0, none⟩ u0).setCell ⟨f, 1, none⟩ u1).setCell ⟨f, 2, none⟩ u2).setCell ⟨f, 3, none⟩ u3).setCell ⟨f, 4, none⟩ u4).setCell ⟨f, 5, none⟩ u5) base va vt n := (((((h.other (p := ⟨f, 0, none⟩) hf _).other (p := ⟨f, 1, none⟩) hf _).other (p := ⟨f, 2, none⟩) hf _).other (p := ⟨f, 3, none⟩) hf _).other (p := ⟨f, 4, none⟩) hf _).other (p := ⟨f, 5, none⟩) hf _
theorem netown2 {W : World} {base f : Nat} {va vt : Value} {n : NetV} (h : NetOwn W base va vt n) (hf : f < base) (u0 u1 : Value) : NetOwn ((W.setCell ⟨f, 0, none⟩ u0).setCell ⟨f, 1, none⟩ u1) base va vt n := (h.other (p := ⟨f, 0, none⟩) hf _).other (p := ⟨f, 1, none⟩) hf _
theorem owns6 {α : Type} {k : Nat} {e : TypeId} {enc : α → List Value} {W : World} {base f : Nat} {v : Value} {l : List α} (h : Owns k e enc W base v l) (hf : f < base) (u0 u1 u2 u3 u4 u5 : Value) : Owns k e enc ((((((W.setCell ⟨f, 0, none⟩ u0).setCell ⟨f, 1, none⟩ u1).setCell ⟨f, 2, none⟩ u2).setCell ⟨f, 3, none⟩ u3).setCell ⟨f, 4, none⟩ u4).setCell ⟨f, 5, none⟩ u5) base v l := (((((h.other (p := ⟨f, 0, none⟩) hf _).other (p := ⟨f, 1, none⟩) hf _).other (p := ⟨f, 2, none⟩) hf _).other (p := ⟨f, 3, none⟩) hf _).other (p := ⟨f, 4, none⟩) hf _).other (p := ⟨f, 5, none⟩) hf _
theorem owns2 {α : Type} {k : Nat} {e : TypeId} {enc : α → List Value} {W : World} {base f : Nat} {v : Value} {l : List α} (h : Owns k e enc W base v l) (hf : f < base) (u0 u1 : Value) : Owns k e enc ((W.setCell ⟨f, 0, none⟩ u0).setCell ⟨f, 1, none⟩ u1) base v l := (h.other (p := ⟨f, 0, none⟩) hf _).other (p := ⟨f, 1, none⟩) hf _
theorem res_net_ask {fn : Func} {tmps : Array Value} {r q p : Tmp} {b d : Nat} {c0 c1 x0 x1 x2 x3 x4 x5 u : Value} {W : World} (hres : fn.results = #[.cell r 25, .cell q 27, .tmp p]) (h : tmps.getD r undef = .pointer (some ⟨b, 0, none⟩)) (hq : tmps.getD q undef = .pointer (some ⟨d, 0, none⟩)) (hp : tmps.getD p undef = u)
    (hb : W.heap[b]? = some (.cells #[c0, c1] 25)) (hd : W.heap[d]? = some (.cells #[x0, x1, x2, x3, x4, x5] 27)) : (results fn tmps).run Try.prog W = .ok (.tuple #[.agg #[c0, c1], .agg #[x0, x1, x2, x3, x4, x5], u]) W := by
  obtain ⟨k0, k1, _, _⟩ := blk2 hb
  obtain ⟨j0, j1, j2, j3, j4, j5, _, _⟩ := blk6 hd
  rw [Array.getD_eq_getD_getElem?] at h hq hp
  simp [results, hres, go_sem, h, hq, hp, k0, k1, j0, j1, j2, j3, j4, j5]
theorem res_net_tell {fn : Func} {tmps : Array Value} {r q p : Tmp} {b d : Nat} {c0 c1 x0 x1 x2 x3 x4 x5 u : Value} {W : World} (hres : fn.results = #[.cell r 25, .cell q 30, .tmp p]) (h : tmps.getD r undef = .pointer (some ⟨b, 0, none⟩)) (hq : tmps.getD q undef = .pointer (some ⟨d, 0, none⟩)) (hp : tmps.getD p undef = u)
    (hb : W.heap[b]? = some (.cells #[c0, c1] 25)) (hd : W.heap[d]? = some (.cells #[x0, x1, x2, x3, x4, x5] 30)) : (results fn tmps).run Try.prog W = .ok (.tuple #[.agg #[c0, c1], .agg #[x0, x1, x2, x3, x4, x5], u]) W := by
  obtain ⟨k0, k1, _, _⟩ := blk2 hb
  obtain ⟨j0, j1, j2, j3, j4, j5, _, _⟩ := blk6 hd
  rw [Array.getD_eq_getD_getElem?] at h hq hp
  simp [results, hres, go_sem, h, hq, hp, k0, k1, j0, j1, j2, j3, j4, j5]
theorem blk_drew {W : World} {b : Nat} {o : Obj} (h : W.heap[b]? = some o) : (World.drew W).heap[b]? = some o := h
theorem below_drew {B : Nat} {a W : World} (h : Below B a W) : Below B a (World.drew W) := below_drewN h 1
theorem netown_drew {W : World} {base : Nat} {va vt : Value} {n : NetV} (h : NetOwn W base va vt n) : NetOwn (World.drew W) base va vt n := h.below (below_drewN (Below.refl _ _) 1)
theorem tells_one {w : World} {base : Nat} {ms : List TellM} {l : List TellV} (h : TellsOwn w base ms l) : ∀ x ∈ ms, ∀ u ∈ encT x, u.oneCell' = true := by
  intro x hx
  obtain ⟨i, hi⟩ := List.getElem?_of_mem hx
  obtain ⟨t, ht⟩ := get_lt (show i < l.length by rw [← h.1]; exact lt_get hi)
  obtain ⟨a, n, c, hs⟩ := (h.2 i x t hi ht).1.shape
  exact encT_one x (by rw [hs]; rfl)
theorem TellsOwn.erase {w : World} {base i : Nat} {ms : List TellM} {l : List TellV} (h : TellsOwn w base ms l) : TellsOwn w base (ms.eraseIdx i) (l.eraseIdx i) := by
  refine ⟨by simp [List.length_eraseIdx, h.1], fun j m t hm ht => ?_⟩
  rw [List.getElem?_eraseIdx] at hm ht
  split at hm
  · rename_i hj
    rw [if_pos hj] at ht
    exact h.2 j m t hm ht
  · rename_i hj
    rw [if_neg hj] at ht
    exact h.2 (j + 1) m t hm ht

def zeroA : AskV := ⟨0, 0, 0, 0, 0, 0⟩
def zeroT : TellV := ⟨0, 0, 0, 0, [], false⟩
def askV (n : NetV) (at' : Int) : NetV × AskV × Bool :=
  match n.asks[placeN at' n.asks.length]? with
  | some x => (⟨n.asks.eraseIdx (placeN at' n.asks.length), n.tells⟩, x, true)
  | none => (n, zeroA, false)
def tellV (n : NetV) (at' : Int) : NetV × TellV × Bool :=
  match n.tells[placeN at' n.tells.length]? with
  | some x => (⟨n.asks, n.tells.eraseIdx (placeN at' n.tells.length)⟩, x, true)
  | none => (n, zeroT, false)
def tellS (t : TellV) (s : Value) : Value := .agg #[.int .i64 t.call, .int .u8 t.kind, .int .u8 t.code, .int .i64 t.id, s, .bool t.more]

set_option maxHeartbeats 4000000 in
set_option maxRecDepth 100000 in
theorem ask_any (va vt : Value) (n : NetV) (at' : Int) (w : World) (hn : NetIs w va vt n) (hk : netOk n) :
    Calls Try.prog 17 #[netv va vt, .int .i64 at'] w fun e w' => ∃ ua ut, e = .returned (.tuple #[netv ua ut, aggA (askV n at').2.1, .bool (askV n at').2.2]) ∧ NetOwn w' w.heap.size ua ut (askV n at').1 ∧ Below w.heap.size w w' := by
  obtain ⟨a0, n0, c0, rfl⟩ : ∃ a n c, va = .slice a n c := shape3 hn.1
  obtain ⟨a1, n1, c1, rfl⟩ : ∃ a n c, vt = .slice a n c := (by obtain ⟨_, ms, h, _⟩ := hn; exact shape3 h)
  obtain ⟨W, hW⟩ : ∃ W, W = ((w.alloc (.cells #[.slice a0 n0 c0, .slice a1 n1 c1] 25)).alloc (.cells #[.slice none 0 0, .slice none 0 0] 25)).alloc (.cells #[.int .u8 0, .int .i64 0, .int .i64 0, .int .i64 0, .int .i64 0, .int .i64 0] 27) := ⟨_, rfl⟩
  have hB : Below w.heap.size w W := by rw [hW]; exact (((Below.refl _ _).alloc (Nat.le_refl _) _).alloc (by simp) _).alloc (by simp; omega) _
  have R0 : Hid (W.heap[w.heap.size + 1]? = some (.cells #[.slice none 0 0, .slice none 0 0] 25)) := hid (by rw [hW]; exact blk_alloc (heap_new2 _ _ _) _)
  have A0 : Hid (W.heap[w.heap.size + 2]? = some (.cells #[.int .u8 0, .int .i64 0, .int .i64 0, .int .i64 0, .int .i64 0, .int .i64 0] 27)) := hid (by rw [hW]; simpa using heap_new2 (w.alloc _) _ _)
  have hsz : W.heap.size = w.heap.size + 3 := by rw [hW]; simp
  obtain ⟨SP, hsp⟩ : ∃ SP, askV n at' = SP := ⟨_, rfl⟩
  rw [hsp]
  have HSP := hid hsp
  have HC := hid (own_any _ _ n W (hn.below hB) hk)
  have HB := hid hB
  have HSZ := hid hsz
  have hlen : n.asks.length ≤ 1000 := hk.1
  clear hn hk hB hsz hsp
  unfold netv
  go_enter Try.func17, Try.ntmps17
  go_wp2_with fail
  rw [← hW]
  clear hW
  refine HC.out.mono ?_
  rintro e w1 ⟨ua, ut, he, hnet, hb⟩
  unfold netv at he
  subst he
  obtain ⟨u0, un, uc, rfl⟩ := Owns.shape hnet.1
  obtain ⟨t0, tn, tc, rfl⟩ : ∃ a n c, ut = .slice a n c := by obtain ⟨_, ms, h, _⟩ := hnet; exact Owns.shape h
  have hs0 := HSZ.out
  have GR := hid (blk_below R0.out hb (blk_lt R0.out))
  have GA := hid (blk_below A0.out hb (blk_lt A0.out))
  have HZ := hid (HB.out.trans (hb.mono HB.out.size))
  have HN := hid (show NetOwn w1 (w.heap.size + 3) (.slice u0 un uc) (.slice t0 tn tc) n by rw [← hs0]; exact hnet)
  have hz1 : w.heap.size + 3 ≤ w1.heap.size := by have := hb.size; omega
  clear hnet hb hs0
  obtain ⟨r0, r1, rf, rl⟩ := blk2 GR.out
  go_wp2_with fail
  clear r0 r1 rf rl
  obtain ⟨W2, hW2⟩ : ∃ W2, W2 = (w1.setCell ⟨w.heap.size + 1, 0, none⟩ (.slice u0 un uc)).setCell ⟨w.heap.size + 1, 1, none⟩ (.slice t0 tn tc) := ⟨_, rfl⟩
  have hz2 : w.heap.size + 3 ≤ W2.heap.size := by rw [hW2]; simpa [World.setCell] using hz1
  have hgr : W2.heap[w.heap.size + 1]? = some (.cells #[.slice u0 un uc, .slice t0 tn tc] 25) := by rw [hW2]; exact blk_set (blk_set GR.out 0 _) 1 _
  have hga : W2.heap[w.heap.size + 2]? = some (.cells #[.int .u8 0, .int .i64 0, .int .i64 0, .int .i64 0, .int .i64 0, .int .i64 0] 27) := by rw [hW2]; exact blk_far (blk_far GA.out (by omega) _) (by omega) _
  have hnw : NetOwn W2 (w.heap.size + 3) (.slice u0 un uc) (.slice t0 tn tc) n := by rw [hW2]; exact (HN.out.other (p := ⟨w.heap.size + 1, 0, none⟩) (by simp) _).other (p := ⟨w.heap.size + 1, 1, none⟩) (by simp) _
  have hzw : Below w.heap.size w W2 := by rw [hW2]; exact (HZ.out.setCell (p := ⟨w.heap.size + 1, 0, none⟩) (by simp) _).setCell (p := ⟨w.heap.size + 1, 1, none⟩) (by simp) _
  rw [← hW2]
  clear hW2 GR GA HN HZ hz1
  have GR := hid hgr
  have GA := hid hga
  have HN := hid hnw
  have HZ := hid hzw
  clear hgr hga hnw hzw
  obtain ⟨ha, ms, ht, hms⟩ := HN.out
  have hlu : un = n.asks.length := owns_len ha
  by_cases hl : n.asks = []
  · have hspec : SP = (n, zeroA, false) := by rw [← HSP.out]; unfold askV; rw [hl]; rfl
    subst hspec
    have hu0 : un = 0 := by rw [hlu, hl]; rfl
    clear hlu
    subst hu0
    clear ha ht hms
    refine (withoutA_none (w.heap.size + 1) u0 uc (.slice t0 tn tc) at' W2 GR.out).mono ?_
    rintro e w3 ⟨rfl, hb⟩
    have R3 := hid (blk_below GR.out hb (blk_lt GR.out))
    have A3 := hid (blk_below GA.out hb (blk_lt GA.out))
    have Z3 : Hid (Below w.heap.size w w3) := hid (HZ.out.trans (hb.mono HZ.out.size))
    have HN3 := hid (HN.out.below hb)
    clear hb
    obtain ⟨r0, r1, rf, rl⟩ := blk2 R3.out
    obtain ⟨x0, x1, x2, x3, x4, x5, xf, xl⟩ := blk6 A3.out
    go_wp2_with fail
    go_region
    go_wp2
    refine bodyPost_ret (res_net_ask rfl rfl rfl rfl (blk_drew (far6 (set2 (far6 R3.out (by omega) _ _ _ _ _ _) _ _) (by omega) _ _ _ _ _ _)) (blk_drew (set6 (far2 (set6 A3.out _ _ _ _ _ _) (by omega) _ _) _ _ _ _ _ _))) rfl ?_
    refine ⟨_, _, rfl, ?_, ?_⟩
    · exact (netown_drew (netown6 (netown2 (netown6 HN3.out (by omega) _ _ _ _ _ _) (by omega) _ _) (by omega) _ _ _ _ _ _)).mono (by omega)
    · exact below_drew (below6 (below2 (below6 Z3.out (by omega) _ _ _ _ _ _) (by omega) _ _) (by omega) _ _ _ _ _ _)
  · have hpos : 0 < n.asks.length := List.length_pos_iff.2 hl
    have hp := (placeN_is at' n.asks.length hpos (by omega)).2
    obtain ⟨x, hx⟩ := get_lt hp
    have hspec : SP = (⟨n.asks.eraseIdx (placeN at' n.asks.length), n.tells⟩, x, true) := by rw [← HSP.out]; unfold askV; rw [hx]
    subst hspec
    subst hlu
    obtain ⟨g, gc, hg⟩ : ∃ g gc, (Value.slice u0 n.asks.length uc) = .slice (some ⟨g, 0, none⟩) n.asks.length gc := by
      rcases Owns.form ha with ⟨_, h0⟩ | ⟨g, gc, hv, _, _⟩
      · exact absurd h0 hl
      · exact ⟨g, gc, hv⟩
    cases hg
    have hgl : (some g : Option Nat) = some g := rfl
    refine (withoutA_some (w.heap.size + 1) (w.heap.size + 3) g uc _ (.slice t0 tn tc) at' x n.asks W2 GR.out ha (by omega) (by omega) (by omega) rfl hx (fun x _ => encA_one x)).mono ?_
    rintro e w3 ⟨rfl, hb3, ho3, hon, hbe⟩
    obtain ⟨cg, hcg⟩ := Owns.typed ha g rfl
    have hgb := (Owns.block ha g rfl).1
    have haw := on_away hon hcg
    have R3 := hid hb3
    have A3 := hid ((hon.block (w.heap.size + 2) ⟨by omega, by omega⟩ (blk_lt GA.out)).trans GA.out)
    have Z3 : Hid (Below w.heap.size w w3) := hid (HZ.out.trans (hbe.mono (by omega)))
    have HN3 : Hid (NetOwn w3 (w.heap.size + 3) (.slice (some ⟨g, 0, none⟩) (n.asks.length - 1) uc) (.slice t0 tn tc) ⟨n.asks.eraseIdx (placeN at' n.asks.length), n.tells⟩) := hid ⟨ho3, ms, Owns.away ht haw (by omega) (by decide), hms.away haw (by omega) (by decide)⟩
    clear hb3 ho3 hon hbe haw hcg ha ht hms
    obtain ⟨r0, r1, rf, rl⟩ := blk2 R3.out
    obtain ⟨x0, x1, x2, x3, x4, x5, xf, xl⟩ := blk6 A3.out
    go_wp2_with fail
    go_region
    go_wp2
    refine bodyPost_ret (res_net_ask rfl rfl rfl rfl (blk_drew (far6 (set2 (far6 R3.out (by omega) _ _ _ _ _ _) _ _) (by omega) _ _ _ _ _ _)) (blk_drew (set6 (far2 (set6 A3.out _ _ _ _ _ _) (by omega) _ _) _ _ _ _ _ _))) rfl ?_
    refine ⟨_, _, rfl, ?_, ?_⟩
    · exact (netown_drew (netown6 (netown2 (netown6 HN3.out (by omega) _ _ _ _ _ _) (by omega) _ _) (by omega) _ _ _ _ _ _)).mono (by omega)
    · exact below_drew (below6 (below2 (below6 Z3.out (by omega) _ _ _ _ _ _) (by omega) _ _) (by omega) _ _ _ _ _ _)

set_option maxHeartbeats 4000000 in
set_option maxRecDepth 100000 in
theorem tell_any (va vt : Value) (n : NetV) (at' : Int) (w : World) (hn : NetIs w va vt n) (hk : netOk n) :
    Calls Try.prog 19 #[netv va vt, .int .i64 at'] w fun e w' => ∃ ua ut s, e = .returned (.tuple #[netv ua ut, tellS (tellV n at').2.1 s, .bool (tellV n at').2.2]) ∧ NetOwn w' w.heap.size ua ut (tellV n at').1 ∧ RowN w' s (tellV n at').2.1.seen ∧ Below w.heap.size w w' := by
  obtain ⟨a0, n0, c0, rfl⟩ : ∃ a n c, va = .slice a n c := shape3 hn.1
  obtain ⟨a1, n1, c1, rfl⟩ : ∃ a n c, vt = .slice a n c := (by obtain ⟨_, ms, h, _⟩ := hn; exact shape3 h)
  obtain ⟨W, hW⟩ : ∃ W, W = ((w.alloc (.cells #[.slice a0 n0 c0, .slice a1 n1 c1] 25)).alloc (.cells #[.slice none 0 0, .slice none 0 0] 25)).alloc (.cells #[.int .i64 0, .int .u8 0, .int .u8 0, .int .i64 0, .slice none 0 0, .bool false] 30) := ⟨_, rfl⟩
  have hB : Below w.heap.size w W := by rw [hW]; exact (((Below.refl _ _).alloc (Nat.le_refl _) _).alloc (by simp) _).alloc (by simp; omega) _
  have R0 : Hid (W.heap[w.heap.size + 1]? = some (.cells #[.slice none 0 0, .slice none 0 0] 25)) := hid (by rw [hW]; exact blk_alloc (heap_new2 _ _ _) _)
  have A0 : Hid (W.heap[w.heap.size + 2]? = some (.cells #[.int .i64 0, .int .u8 0, .int .u8 0, .int .i64 0, .slice none 0 0, .bool false] 30)) := hid (by rw [hW]; simpa using heap_new2 (w.alloc _) _ _)
  have hsz : W.heap.size = w.heap.size + 3 := by rw [hW]; simp
  obtain ⟨SP, hsp⟩ : ∃ SP, tellV n at' = SP := ⟨_, rfl⟩
  rw [hsp]
  have HSP := hid hsp
  have HC := hid (own_any _ _ n W (hn.below hB) hk)
  have HB := hid hB
  have HSZ := hid hsz
  have hlen : n.tells.length ≤ 1000 := hk.2.1
  clear hn hk hB hsz hsp
  unfold netv
  go_enter Try.func19, Try.ntmps19
  go_wp2_with fail
  rw [← hW]
  clear hW
  refine HC.out.mono ?_
  rintro e w1 ⟨ua, ut, he, hnet, hb⟩
  unfold netv at he
  subst he
  obtain ⟨u0, un, uc, rfl⟩ := Owns.shape hnet.1
  obtain ⟨t0, tn, tc, rfl⟩ : ∃ a n c, ut = .slice a n c := by obtain ⟨_, ms, h, _⟩ := hnet; exact Owns.shape h
  have hs0 := HSZ.out
  have GR := hid (blk_below R0.out hb (blk_lt R0.out))
  have GA := hid (blk_below A0.out hb (blk_lt A0.out))
  have HZ := hid (HB.out.trans (hb.mono HB.out.size))
  have HN := hid (show NetOwn w1 (w.heap.size + 3) (.slice u0 un uc) (.slice t0 tn tc) n by rw [← hs0]; exact hnet)
  have hz1 : w.heap.size + 3 ≤ w1.heap.size := by have := hb.size; omega
  clear hnet hb hs0
  obtain ⟨r0, r1, rf, rl⟩ := blk2 GR.out
  go_wp2_with fail
  clear r0 r1 rf rl
  obtain ⟨W2, hW2⟩ : ∃ W2, W2 = (w1.setCell ⟨w.heap.size + 1, 0, none⟩ (.slice u0 un uc)).setCell ⟨w.heap.size + 1, 1, none⟩ (.slice t0 tn tc) := ⟨_, rfl⟩
  have hz2 : w.heap.size + 3 ≤ W2.heap.size := by rw [hW2]; simpa [World.setCell] using hz1
  have hgr : W2.heap[w.heap.size + 1]? = some (.cells #[.slice u0 un uc, .slice t0 tn tc] 25) := by rw [hW2]; exact blk_set (blk_set GR.out 0 _) 1 _
  have hga : W2.heap[w.heap.size + 2]? = some (.cells #[.int .i64 0, .int .u8 0, .int .u8 0, .int .i64 0, .slice none 0 0, .bool false] 30) := by rw [hW2]; exact blk_far (blk_far GA.out (by omega) _) (by omega) _
  have hnw : NetOwn W2 (w.heap.size + 3) (.slice u0 un uc) (.slice t0 tn tc) n := by rw [hW2]; exact (HN.out.other (p := ⟨w.heap.size + 1, 0, none⟩) (by simp) _).other (p := ⟨w.heap.size + 1, 1, none⟩) (by simp) _
  have hzw : Below w.heap.size w W2 := by rw [hW2]; exact (HZ.out.setCell (p := ⟨w.heap.size + 1, 0, none⟩) (by simp) _).setCell (p := ⟨w.heap.size + 1, 1, none⟩) (by simp) _
  rw [← hW2]
  clear hW2 GR GA HN HZ hz1
  have GR := hid hgr
  have GA := hid hga
  have HN := hid hnw
  have HZ := hid hzw
  clear hgr hga hnw hzw
  obtain ⟨ha, ms, ht, hms⟩ := HN.out
  have hlu : tn = ms.length := owns_len ht
  by_cases hl : n.tells = []
  · have hspec : SP = (n, zeroT, false) := by rw [← HSP.out]; unfold tellV; rw [hl]; rfl
    subst hspec
    have hu0 : tn = 0 := by rw [hlu, hms.1, hl]; rfl
    clear hlu
    subst hu0
    clear ha ht hms
    refine (withoutT_none (w.heap.size + 1) t0 tc (.slice u0 un uc) at' W2 GR.out).mono ?_
    rintro e w3 ⟨rfl, hb⟩
    have R3 := hid (blk_below GR.out hb (blk_lt GR.out))
    have A3 := hid (blk_below GA.out hb (blk_lt GA.out))
    have Z3 : Hid (Below w.heap.size w w3) := hid (HZ.out.trans (hb.mono HZ.out.size))
    have HN3 := hid (HN.out.below hb)
    clear hb
    obtain ⟨r0, r1, rf, rl⟩ := blk2 R3.out
    obtain ⟨x0, x1, x2, x3, x4, x5, xf, xl⟩ := blk6 A3.out
    go_wp2_with fail
    go_region
    go_wp2
    refine bodyPost_ret (res_net_tell rfl rfl rfl rfl (blk_drew (far6 (set2 (far6 R3.out (by omega) _ _ _ _ _ _) _ _) (by omega) _ _ _ _ _ _)) (blk_drew (set6 (far2 (set6 A3.out _ _ _ _ _ _) (by omega) _ _) _ _ _ _ _ _))) rfl ?_
    refine ⟨_, _, .slice none 0 0, rfl, ?_, ?_, ?_⟩
    · exact (netown_drew (netown6 (netown2 (netown6 HN3.out (by omega) _ _ _ _ _ _) (by omega) _ _) (by omega) _ _ _ _ _ _)).mono (by omega)
    · exact RowOf.nil
    · exact below_drew (below6 (below2 (below6 Z3.out (by omega) _ _ _ _ _ _) (by omega) _ _) (by omega) _ _ _ _ _ _)
  · have hpos : 0 < n.tells.length := List.length_pos_iff.2 hl
    have hp := (placeN_is at' n.tells.length hpos (by omega)).2
    obtain ⟨x, hx⟩ := get_lt hp
    have hspec : SP = (⟨n.asks, n.tells.eraseIdx (placeN at' n.tells.length)⟩, x, true) := by rw [← HSP.out]; unfold tellV; rw [hx]
    subst hspec
    obtain ⟨xm, hxm⟩ := get_lt (show placeN at' n.tells.length < ms.length by rw [hms.1]; exact hp)
    obtain ⟨hxo, hxv⟩ := hms.2 _ _ _ hxm hx
    obtain ⟨xl, hxl⟩ : ∃ xl, x = xm.val xl := ⟨x.seen, hxv.symm⟩
    subst hxl
    have hxo' : OwnN W2 (w.heap.size + 3) xm.sv xl := hxo
    obtain ⟨sa, sn, sc, hss⟩ := hxo'.shape
    obtain ⟨xcall, xkind, xcode, xid, xsv, xmore⟩ := xm
    simp only at hss
    subst hss
    have hsv : ∃ a n c, (⟨xcall, xkind, xcode, xid, .slice sa sn sc, xmore⟩ : TellM).sv = .slice a n c := ⟨_, _, _, rfl⟩
    have hm1 : ms.length ≤ 1000 := by rw [hms.1]; exact hlen
    have hm2 : 0 < ms.length := by rw [hms.1]; exact hpos
    have hplc : placeN at' ms.length = placeN at' n.tells.length := by rw [hms.1]
    clear hxv hxo
    subst hlu
    obtain ⟨g, gc, hg⟩ : ∃ g gc, (Value.slice t0 ms.length tc) = .slice (some ⟨g, 0, none⟩) ms.length gc := by
      rcases Owns.form ht with ⟨_, h0⟩ | ⟨g, gc, hv, _, _⟩
      · exact absurd (by have := hms.1; rw [h0] at this; exact List.eq_nil_of_length_eq_zero this.symm) hl
      · exact ⟨g, gc, hv⟩
    cases hg
    have hgl : (some g : Option Nat) = some g := rfl
    refine (withoutT_some (w.heap.size + 1) (w.heap.size + 3) g tc _ (.slice u0 un uc) at' ⟨xcall, xkind, xcode, xid, .slice sa sn sc, xmore⟩ ms W2 GR.out ht (by omega) (by omega) (by omega) hplc hxm (tells_one hms) hsv).mono ?_
    rintro e w3 ⟨rfl, hb3, ho3, hon, hbe⟩
    obtain ⟨cg, hcg⟩ := Owns.typed ht g rfl
    have hgb := (Owns.block ht g rfl).1
    have haw := on_away hon hcg
    have R3 := hid hb3
    have A3 := hid ((hon.block (w.heap.size + 2) ⟨by omega, by omega⟩ (blk_lt GA.out)).trans GA.out)
    have Z3 : Hid (Below w.heap.size w w3) := hid (HZ.out.trans (hbe.mono (by omega)))
    have HN3 : Hid (NetOwn w3 (w.heap.size + 3) (.slice u0 un uc) (.slice (some ⟨g, 0, none⟩) (ms.length - 1) tc) ⟨n.asks, n.tells.eraseIdx (placeN at' n.tells.length)⟩) := hid ⟨Owns.away ha haw (by omega) (by decide), _, ho3, (hms.away haw (by omega) (by decide)).erase⟩
    have HX3 := hid (Owns.away hxo' haw (by omega) (by decide))
    clear hb3 ho3 hon hbe haw hcg ha ht hms
    obtain ⟨r0, r1, rf, rl⟩ := blk2 R3.out
    obtain ⟨x0, x1, x2, x3, x4, x5, xf, xl⟩ := blk6 A3.out
    go_wp2_with fail
    go_region
    go_wp2
    refine bodyPost_ret (res_net_tell rfl rfl rfl rfl (blk_drew (far6 (set2 (far6 R3.out (by omega) _ _ _ _ _ _) _ _) (by omega) _ _ _ _ _ _)) (blk_drew (set6 (far2 (set6 A3.out _ _ _ _ _ _) (by omega) _ _) _ _ _ _ _ _))) rfl ?_
    refine ⟨_, _, _, rfl, ?_, ?_, ?_⟩
    · exact (netown_drew (netown6 (netown2 (netown6 HN3.out (by omega) _ _ _ _ _ _) (by omega) _ _) (by omega) _ _ _ _ _ _)).mono (by omega)
    · exact Owns.row (Owns.below (owns6 (owns2 (owns6 HX3.out (by omega) _ _ _ _ _ _) (by omega) _ _) (by omega) _ _ _ _ _ _) (below_drewN (Below.refl _ _) 1)) encN_len (by decide)
    · exact below_drew (below6 (below2 (below6 Z3.out (by omega) _ _ _ _ _ _) (by omega) _ _) (by omega) _ _ _ _ _ _)
end Go.Proofs.Ythnlppbfmmiioaa
