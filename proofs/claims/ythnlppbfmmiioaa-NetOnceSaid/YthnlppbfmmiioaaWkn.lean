/- wakes of herdlaw11. -/
import Derived.Test.YthnlppbfmmiioaaRtw
import Derived.Test.YthnlppbfmmiioaaRgr
namespace Go.Proofs.Ythnlppbfmmiioaa
open Go.RowKit Go.Shelf

/-- A net of the call's own stays, where the memory from its base on stays. -/
theorem TellOwn.on {W W' : World} {base : Nat} {m : TellM} {t : TellV} {S : Nat → Prop} (h : TellOwn W base m t) (hO : On S W W') (hS : ∀ g, base ≤ g → g < W.heap.size → S g) : TellOwn W' base m t :=
  ⟨Owns.on h.1 hO (fun g hg => by have := Owns.block h.1 g hg; exact hS g this.1 this.2), h.2⟩
theorem NetOwn.on {W W' : World} {base : Nat} {va vt : Value} {n : NetV} (h : NetOwn W base va vt n) (hO : On (fun g => base ≤ g ∧ g < W.heap.size) W W') : NetOwn W' base va vt n := by
  obtain ⟨h1, ms, h2, h3⟩ := h
  exact ⟨Owns.on h1 hO (fun g hg => Owns.block h1 g hg), ms, Owns.on h2 hO (fun g hg => Owns.block h2 g hg), h3.1, fun i m t a b => (h3.2 i m t a b).on hO (fun g p q => ⟨p, q⟩)⟩
theorem NetOwn.shape {w : World} {base : Nat} {va vt : Value} {n : NetV} (h : NetOwn w base va vt n) : ∃ a c b d, va = .slice a n.asks.length c ∧ vt = .slice b n.tells.length d := by
  obtain ⟨h1, ms, h2, h3⟩ := h
  obtain ⟨a, k, c, rfl⟩ := h1.shape
  obtain ⟨b, j, d, rfl⟩ := h2.shape
  have e1 := owns_len h1
  have e2 := owns_len h2
  rw [h3.1] at e2
  subst e1 e2
  exact ⟨a, c, b, d, rfl, rfl⟩
theorem NetIs.shape {w : World} {va vt : Value} {n : NetV} (h : NetIs w va vt n) : ∃ a c b d, va = .slice a n.asks.length c ∧ vt = .slice b n.tells.length d := by
  obtain ⟨h1, ms, h2, h3⟩ := h
  obtain ⟨a, c, rfl⟩ := shape_row h1
  obtain ⟨b, d, rfl⟩ := shape_row h2
  rw [h3.1]
  exact ⟨a, c, b, d, rfl, rfl⟩
theorem NetIs.nil (w : World) : NetIs w (.slice none 0 0) (.slice none 0 0) ⟨[], []⟩ := ⟨RowOf.nil, [], RowOf.nil, rfl, fun i m t h => by simp at h⟩

def xw : AskV := ⟨0, 3, 0, 0, 0, 0⟩
def tw : TellV := ⟨9, 0, 0, 0, [], false⟩
set_option maxHeartbeats 4000000 in
set_option maxRecDepth 100000 in
theorem wakes_any (w : World) : Calls Try.prog 9 #[] w fun e w' => e = .returned (.bool true) ∧ Below w.heap.size w w' := by
  have Z : Hid (Below w.heap.size w w) := hid (Below.refl _ _)
  go_enter Try.func9, Try.ntmps9
  go_wp2_with fail
  refine (ask_any (.slice none 0 0) (.slice none 0 0) ⟨[], []⟩ 5 w (NetIs.nil w) ⟨by decide, by decide, fun x h => by revert x h; decide⟩).mono ?_
  rintro e v1 ⟨ua, ut, he, hn, hb⟩
  rw [show askV ⟨[], []⟩ 5 = (⟨[], []⟩, zeroA, false) by first | rfl | (simp [askV, tellV, twiceV, sendV, show placeN 0 1 = 0 by decide +kernel, show placeN (-1) 2 = 1 by decide +kernel]; done)] at he hn
  obtain ⟨a1, c1, b1, d1, rfl, rfl⟩ := hn.shape
  simp only [netv, aggA, zeroA, List.length_nil] at he
  simp only [List.length_nil] at hn
  subst he
  clear hn
  have hzv1 : w.heap.size ≤ v1.heap.size := hb.size
  replace Z := hid (Z.out.trans (hb.mono Z.out.size))
  clear hb
  go_upto_region 2 with fail
  obtain ⟨U1, hU1⟩ : ∃ U, U = ((v1.alloc (.cells #[.slice a1 0 c1, .slice b1 0 d1] 25)).alloc (.cells #[.int .u8 0, .int .i64 0, .int .i64 0, .int .i64 0, .int .i64 0, .int .i64 0] 27)) := ⟨_, rfl⟩
  have hzU1 : v1.heap.size + 2 = U1.heap.size := by rw [hU1]; simp
  replace Z : Hid (Below w.heap.size w U1) := hid (by rw [hU1]; exact ((Z.out).alloc (by have := Z.out.size; simp; omega) _).alloc (by have := Z.out.size; simp; omega) _)
  rw [← hU1]
  clear hU1
  go_wp2_with fail
  refine (send_any (.slice none 0 0) (.slice none 0 0) ⟨[], []⟩ xw _ (NetIs.nil _) ⟨by decide, by decide, fun x h => by revert x h; decide⟩).mono ?_
  rintro e v2 ⟨ua, ut, he, hn, hb⟩
  rw [show sendV ⟨[], []⟩ xw = (⟨[xw], []⟩, 0) by first | rfl | (simp [askV, tellV, twiceV, sendV, show placeN 0 1 = 0 by decide +kernel, show placeN (-1) 2 = 1 by decide +kernel]; done)] at he hn
  obtain ⟨a2, c2, b2, d2, rfl, rfl⟩ := hn.shape
  simp only [netv, xw, List.length_cons, List.length_nil, Nat.zero_add] at he
  simp only [List.length_cons, List.length_nil, Nat.zero_add] at hn
  subst he
  have hzv2 : U1.heap.size ≤ v2.heap.size := hb.size
  replace Z := hid (Z.out.trans (hb.mono Z.out.size))
  have N2 := hid hn
  clear hb hn
  go_upto_region 3 with fail
  obtain ⟨U2, hU2⟩ : ∃ U, U = (v2.alloc (.cells #[.slice a2 1 c2, .slice b2 0 d2] 25)) := ⟨_, rfl⟩
  have hzU2 : v2.heap.size + 1 = U2.heap.size := by rw [hU2]; simp
  have BN : Hid (U2.heap[v2.heap.size]? = some (.cells #[.slice a2 1 c2, .slice b2 0 d2] 25)) := hid (by rw [hU2]; exact heap_new (v2) _)
  replace N2 := hid (NetOwn.on N2.out (show On _ v2 U2 by rw [hU2]; exact ((On.refl _ _).alloc _)))
  replace Z : Hid (Below w.heap.size w U2) := hid (by rw [hU2]; exact (Z.out).alloc (by have := Z.out.size; simp; omega) _)
  rw [← hU2]
  clear hU2
  obtain ⟨bn0, bn1, bnf, bnl⟩ := blk2 BN.out
  go_wp2_with fail
  clear bn0 bn1 bnf bnl
  refine (twiceA_any _ _ ⟨[xw], []⟩ 0 _ N2.out.is ⟨by decide, by decide, fun x h => by revert x h; decide⟩).mono ?_
  rintro e v3 ⟨ua, ut, he, hn, hb⟩
  rw [show twiceV ⟨[xw], []⟩ 0 false = (⟨[xw, xw], []⟩, 0) by first | rfl | (simp [twiceV, sendV, show placeN 0 1 = 0 by decide +kernel]; done)] at he hn
  obtain ⟨a3, c3, b3, d3, rfl, rfl⟩ := hn.shape
  simp only [netv, xw, List.length_cons, List.length_nil, Nat.zero_add, Nat.reduceAdd] at he
  simp only [List.length_cons, List.length_nil, Nat.zero_add, Nat.reduceAdd] at hn
  subst he
  have hzv3 : U2.heap.size ≤ v3.heap.size := hb.size
  replace BN := hid (blk_below BN.out hb (blk_lt BN.out))
  replace N2 := hid (N2.out.below hb)
  replace Z := hid (Z.out.trans (hb.mono Z.out.size))
  have N3 := hid hn
  clear hb hn
  clear N2
  obtain ⟨bn0, bn1, bnf, bnl⟩ := blk2 BN.out
  go_upto_region 4 with fail
  clear bn0 bn1 bnf bnl
  obtain ⟨U3, hU3⟩ : ∃ U, U = ((v3.setCell ⟨v2.heap.size, 0, none⟩ (.slice a3 2 c3)).setCell ⟨v2.heap.size, 1, none⟩ (.slice b3 0 d3)) := ⟨_, rfl⟩
  have hzU3 : v3.heap.size + 0 = U3.heap.size := by rw [hU3]; simp [World.setCell]
  replace BN : Hid (U3.heap[v2.heap.size]? = some (.cells #[.slice a3 2 c3, .slice b3 0 d3] 25)) := hid (by rw [hU3]; exact blk_set (blk_set (BN.out) 0 _) 1 _)
  replace N3 := hid (NetOwn.on N3.out (show On _ v3 U3 by rw [hU3]; exact (((On.refl _ _).setCell (p := ⟨v2.heap.size, 0, none⟩) (by dsimp only; omega) _).setCell (p := ⟨v2.heap.size, 1, none⟩) (by dsimp only; omega) _)))
  replace Z : Hid (Below w.heap.size w U3) := hid (by rw [hU3]; exact ((Z.out).setCell (p := ⟨v2.heap.size, 0, none⟩) (by dsimp only; omega) _).setCell (p := ⟨v2.heap.size, 1, none⟩) (by dsimp only; omega) _)
  rw [← hU3]
  clear hU3
  obtain ⟨bn0, bn1, bnf, bnl⟩ := blk2 BN.out
  go_wp2_with fail
  clear bn0 bn1 bnf bnl
  refine (ask_any _ _ ⟨[xw, xw], []⟩ (-1) _ N3.out.is ⟨by decide, by decide, fun x h => by revert x h; decide⟩).mono ?_
  rintro e v4 ⟨ua, ut, he, hn, hb⟩
  rw [show askV ⟨[xw, xw], []⟩ (-1) = (⟨[xw], []⟩, xw, true) by first | rfl | (simp [askV, show placeN (-1) 2 = 1 by decide +kernel]; done)] at he hn
  obtain ⟨a4, c4, b4, d4, rfl, rfl⟩ := hn.shape
  simp only [netv, aggA, xw, List.length_cons, List.length_nil, Nat.zero_add] at he
  simp only [List.length_cons, List.length_nil, Nat.zero_add] at hn
  subst he
  have hzv4 : U3.heap.size ≤ v4.heap.size := hb.size
  replace BN := hid (blk_below BN.out hb (blk_lt BN.out))
  replace N3 := hid (N3.out.below hb)
  replace Z := hid (Z.out.trans (hb.mono Z.out.size))
  have N4 := hid hn
  clear hb hn
  go_upto_region 5 with fail
  obtain ⟨U4, hU4⟩ : ∃ U, U = ((v4.alloc (.cells #[.slice a4 1 c4, .slice b4 0 d4] 25)).alloc (.cells #[.int .u8 0, .int .i64 3, .int .i64 0, .int .i64 0, .int .i64 0, .int .i64 0] 27)) := ⟨_, rfl⟩
  have hzU4 : v4.heap.size + 2 = U4.heap.size := by rw [hU4]; simp
  replace BN : Hid (U4.heap[v2.heap.size]? = some (.cells #[.slice a3 2 c3, .slice b3 0 d3] 25)) := hid (by rw [hU4]; exact blk_alloc (blk_alloc (BN.out) _) _)
  have BO : Hid (U4.heap[v4.heap.size]? = some (.cells #[.slice a4 1 c4, .slice b4 0 d4] 25)) := hid (by rw [hU4]; exact blk_alloc (heap_new (v4) _) _)
  have BA : Hid (U4.heap[v4.heap.size + 1]? = some (.cells #[.int .u8 0, .int .i64 3, .int .i64 0, .int .i64 0, .int .i64 0, .int .i64 0] 27)) := hid (by rw [hU4]; exact by simpa using heap_new ((v4.alloc (.cells #[.slice a4 1 c4, .slice b4 0 d4] 25))) _)
  replace N3 := hid (NetOwn.on N3.out (show On _ v4 U4 by rw [hU4]; exact (((On.refl _ _).alloc _).alloc _)))
  replace N4 := hid (NetOwn.on N4.out (show On _ v4 U4 by rw [hU4]; exact (((On.refl _ _).alloc _).alloc _)))
  replace Z : Hid (Below w.heap.size w U4) := hid (by rw [hU4]; exact ((Z.out).alloc (by have := Z.out.size; simp; omega) _).alloc (by have := Z.out.size; simp; omega) _)
  rw [← hU4]
  clear hU4
  obtain ⟨bn0, bn1, bnf, bnl⟩ := blk2 BN.out
  go_wp2_with fail
  clear bn0 bn1 bnf bnl
  refine (tell_any _ _ ⟨[xw, xw], []⟩ 0 _ N3.out.is ⟨by decide, by decide, fun x h => by revert x h; decide⟩).mono ?_
  rintro e v5 ⟨ua, ut, s, he, hn, hs, hb⟩
  rw [show tellV ⟨[xw, xw], []⟩ 0 = (⟨[xw, xw], []⟩, zeroT, false) by first | rfl | (simp [askV, tellV, twiceV, sendV, show placeN 0 1 = 0 by decide +kernel, show placeN (-1) 2 = 1 by decide +kernel]; done)] at he hn
  obtain ⟨a5, c5, b5, d5, rfl, rfl⟩ := hn.shape
  simp only [netv, zeroT, tellS, xw, List.length_cons, List.length_nil, Nat.zero_add, Nat.reduceAdd] at he
  simp only [List.length_cons, List.length_nil, Nat.zero_add, Nat.reduceAdd] at hn
  subst he
  obtain ⟨sa, sc, hss⟩ := shape_row hs
  rw [show (tellV ⟨[xw, xw], []⟩ 0).2.1.seen.length = 0 by rfl] at hss
  subst hss
  clear hn hs
  have hzv5 : U4.heap.size ≤ v5.heap.size := hb.size
  replace BN := hid (blk_below BN.out hb (blk_lt BN.out))
  replace BO := hid (blk_below BO.out hb (blk_lt BO.out))
  replace BA := hid (blk_below BA.out hb (blk_lt BA.out))
  replace N3 := hid (N3.out.below hb)
  replace N4 := hid (N4.out.below hb)
  replace Z := hid (Z.out.trans (hb.mono Z.out.size))
  clear hb
  clear N3
  go_upto_region 6 with fail
  obtain ⟨U5, hU5⟩ : ∃ U, U = ((v5.alloc (.cells #[.slice a5 2 c5, .slice b5 0 d5] 25)).alloc (.cells #[.int .i64 0, .int .u8 0, .int .u8 0, .int .i64 0, .slice sa 0 sc, .bool false] 30)) := ⟨_, rfl⟩
  have hzU5 : v5.heap.size + 2 = U5.heap.size := by rw [hU5]; simp
  replace BN : Hid (U5.heap[v2.heap.size]? = some (.cells #[.slice a3 2 c3, .slice b3 0 d3] 25)) := hid (by rw [hU5]; exact blk_alloc (blk_alloc (BN.out) _) _)
  replace BO : Hid (U5.heap[v4.heap.size]? = some (.cells #[.slice a4 1 c4, .slice b4 0 d4] 25)) := hid (by rw [hU5]; exact blk_alloc (blk_alloc (BO.out) _) _)
  replace BA : Hid (U5.heap[v4.heap.size + 1]? = some (.cells #[.int .u8 0, .int .i64 3, .int .i64 0, .int .i64 0, .int .i64 0, .int .i64 0] 27)) := hid (by rw [hU5]; exact blk_alloc (blk_alloc (BA.out) _) _)
  have BT : Hid (U5.heap[v5.heap.size + 1]? = some (.cells #[.int .i64 0, .int .u8 0, .int .u8 0, .int .i64 0, .slice sa 0 sc, .bool false] 30)) := hid (by rw [hU5]; exact by simpa using heap_new ((v5.alloc (.cells #[.slice a5 2 c5, .slice b5 0 d5] 25))) _)
  replace N4 := hid (NetOwn.on N4.out (show On _ v5 U5 by rw [hU5]; exact (((On.refl _ _).alloc _).alloc _)))
  replace Z : Hid (Below w.heap.size w U5) := hid (by rw [hU5]; exact ((Z.out).alloc (by have := Z.out.size; simp; omega) _).alloc (by have := Z.out.size; simp; omega) _)
  rw [← hU5]
  clear hU5
  obtain ⟨bo0, bo1, bof, bol⟩ := blk2 BO.out
  go_wp2_with fail
  clear bo0 bo1 bof bol
  refine (post_any _ _ ⟨[xw], []⟩ 9 0 0 0 none 0 0 false [] _ N4.out.is ⟨by decide, by decide, fun x h => by revert x h; decide⟩ RowOf.nil (by decide)).mono ?_
  rintro e v6 ⟨ua, ut, he, hn, hb⟩
  rw [show postV ⟨[xw], []⟩ ⟨9, 0, 0, 0, [], false⟩ = (⟨[xw], [tw]⟩, 0) by first | rfl | (simp [askV, tellV, twiceV, sendV, show placeN 0 1 = 0 by decide +kernel, show placeN (-1) 2 = 1 by decide +kernel]; done)] at he hn
  obtain ⟨a6, c6, b6, d6, rfl, rfl⟩ := hn.shape
  simp only [netv, xw, tw, List.length_cons, List.length_nil, Nat.zero_add] at he
  simp only [List.length_cons, List.length_nil, Nat.zero_add] at hn
  subst he
  have hzv6 : U5.heap.size ≤ v6.heap.size := hb.size
  replace BN := hid (blk_below BN.out hb (blk_lt BN.out))
  replace BO := hid (blk_below BO.out hb (blk_lt BO.out))
  replace BA := hid (blk_below BA.out hb (blk_lt BA.out))
  replace BT := hid (blk_below BT.out hb (blk_lt BT.out))
  replace N4 := hid (N4.out.below hb)
  replace Z := hid (Z.out.trans (hb.mono Z.out.size))
  have N6 := hid hn
  clear hb hn
  go_upto_region 7 with fail
  obtain ⟨U6, hU6⟩ : ∃ U, U = (v6.alloc (.cells #[.slice a6 1 c6, .slice b6 1 d6] 25)) := ⟨_, rfl⟩
  have hzU6 : v6.heap.size + 1 = U6.heap.size := by rw [hU6]; simp
  replace BN : Hid (U6.heap[v2.heap.size]? = some (.cells #[.slice a3 2 c3, .slice b3 0 d3] 25)) := hid (by rw [hU6]; exact blk_alloc (BN.out) _)
  replace BO : Hid (U6.heap[v4.heap.size]? = some (.cells #[.slice a4 1 c4, .slice b4 0 d4] 25)) := hid (by rw [hU6]; exact blk_alloc (BO.out) _)
  replace BA : Hid (U6.heap[v4.heap.size + 1]? = some (.cells #[.int .u8 0, .int .i64 3, .int .i64 0, .int .i64 0, .int .i64 0, .int .i64 0] 27)) := hid (by rw [hU6]; exact blk_alloc (BA.out) _)
  replace BT : Hid (U6.heap[v5.heap.size + 1]? = some (.cells #[.int .i64 0, .int .u8 0, .int .u8 0, .int .i64 0, .slice sa 0 sc, .bool false] 30)) := hid (by rw [hU6]; exact blk_alloc (BT.out) _)
  have BP : Hid (U6.heap[v6.heap.size]? = some (.cells #[.slice a6 1 c6, .slice b6 1 d6] 25)) := hid (by rw [hU6]; exact heap_new (v6) _)
  replace N4 := hid (NetOwn.on N4.out (show On _ v6 U6 by rw [hU6]; exact ((On.refl _ _).alloc _)))
  replace N6 := hid (NetOwn.on N6.out (show On _ v6 U6 by rw [hU6]; exact ((On.refl _ _).alloc _)))
  replace Z : Hid (Below w.heap.size w U6) := hid (by rw [hU6]; exact (Z.out).alloc (by have := Z.out.size; simp; omega) _)
  rw [← hU6]
  clear hU6
  obtain ⟨bn0, bn1, bnf, bnl⟩ := blk2 BN.out
  obtain ⟨bo0, bo1, bof, bol⟩ := blk2 BO.out
  obtain ⟨ba0, ba1, ba2, ba3, ba4, ba5, baf, bal⟩ := blk6 BA.out
  obtain ⟨bt0, bt1, bt2, bt3, bt4, bt5, btf, btl⟩ := blk6 BT.out
  obtain ⟨bp0, bp1, bpf, bpl⟩ := blk2 BP.out
  go_wp2_with fail
  clear bn0 bn1 bnf bnl
  clear bo0 bo1 bof bol
  clear ba0 ba1 ba2 ba3 ba4 ba5 baf bal
  clear bt0 bt1 bt2 bt3 bt4 bt5 btf btl
  clear bp0 bp1 bpf bpl
  refine (nsame_any _ _ _ _ ⟨[xw], [tw]⟩ ⟨[xw], [tw]⟩ _ N6.out.is N6.out.is ⟨by decide, by decide, fun x h => by revert x h; decide⟩ ⟨by decide, by decide, fun x h => by revert x h; decide⟩).mono ?_
  rintro e v7 ⟨he, hb⟩
  rw [nsameB_self] at he
  subst he
  have hzv7 : U6.heap.size ≤ v7.heap.size := hb.size
  replace BN := hid (blk_below BN.out hb (blk_lt BN.out))
  replace BO := hid (blk_below BO.out hb (blk_lt BO.out))
  replace BA := hid (blk_below BA.out hb (blk_lt BA.out))
  replace BT := hid (blk_below BT.out hb (blk_lt BT.out))
  replace BP := hid (blk_below BP.out hb (blk_lt BP.out))
  replace N4 := hid (N4.out.below hb)
  replace N6 := hid (N6.out.below hb)
  replace Z := hid (Z.out.trans (hb.mono Z.out.size))
  clear hb
  obtain ⟨bn0, bn1, bnf, bnl⟩ := blk2 BN.out
  obtain ⟨bo0, bo1, bof, bol⟩ := blk2 BO.out
  obtain ⟨ba0, ba1, ba2, ba3, ba4, ba5, baf, bal⟩ := blk6 BA.out
  obtain ⟨bt0, bt1, bt2, bt3, bt4, bt5, btf, btl⟩ := blk6 BT.out
  obtain ⟨bp0, bp1, bpf, bpl⟩ := blk2 BP.out
  go_wp2_with fail
  clear bn0 bn1 bnf bnl
  clear bo0 bo1 bof bol
  clear ba0 ba1 ba2 ba3 ba4 ba5 baf bal
  clear bt0 bt1 bt2 bt3 bt4 bt5 btf btl
  clear bp0 bp1 bpf bpl
  refine (nsame_any _ _ _ _ ⟨[xw], []⟩ ⟨[xw], [tw]⟩ _ N4.out.is N6.out.is ⟨by decide, by decide, fun x h => by revert x h; decide⟩ ⟨by decide, by decide, fun x h => by revert x h; decide⟩).mono ?_
  rintro e v8 ⟨he, hb⟩
  rw [show nsameB ⟨[xw], []⟩ ⟨[xw], [tw]⟩ = false by decide] at he
  subst he
  have hzv8 : v7.heap.size ≤ v8.heap.size := hb.size
  replace BN := hid (blk_below BN.out hb (blk_lt BN.out))
  replace BO := hid (blk_below BO.out hb (blk_lt BO.out))
  replace BA := hid (blk_below BA.out hb (blk_lt BA.out))
  replace BT := hid (blk_below BT.out hb (blk_lt BT.out))
  replace BP := hid (blk_below BP.out hb (blk_lt BP.out))
  replace N4 := hid (N4.out.below hb)
  replace N6 := hid (N6.out.below hb)
  replace Z := hid (Z.out.trans (hb.mono Z.out.size))
  clear hb
  go_wp2
  go_ret
  exact ⟨rfl, Z.out⟩
end Go.Proofs.Ythnlppbfmmiioaa
