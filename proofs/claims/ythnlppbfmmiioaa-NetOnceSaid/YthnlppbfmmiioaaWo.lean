/- A thing taken out of a row: net.without. -/
import Derived.Test.YthnlppbfmmiioaaDel
namespace Go.Proofs.Ythnlppbfmmiioaa
open Go.RowKit Go.Shelf

theorem Owns.far {α : Type} {k : Nat} {e : TypeId} {enc : α → List Value} {W : World} {base g n c f j : Nat} {l : List α} (h : Owns k e enc W base (.slice (some ⟨g, 0, none⟩) n c) l) (hf : g ≠ f) (u : Value) : Owns k e enc (W.setCell ⟨f, j, none⟩ u) base (.slice (some ⟨g, 0, none⟩) n c) l :=
  ownsRow_setCell_other h (fun e => hf (by cases e; rfl)) u
theorem on_away {b g : Nat} {t : TypeId} {c : Array Value} {W W' : World} (h : On (fun k => k ≠ b ∧ k ≠ g) W W') (hg : W.heap[g]? = some (.cells c t)) : On (Away b t W) W W' :=
  h.mono fun k hk => ⟨hk.1, fun e => by subst e; exact hk.2 c hg⟩
theorem On.new {S : Nat → Prop} {a w : World} (h : On S a w) {f j : Nat} (hf : a.heap.size ≤ f) (u : Value) : On S a (w.setCell ⟨f, j, none⟩ u) :=
  ⟨by simpa [World.setCell] using h.size, fun k hk hl => (Below.heap_setCell w ⟨f, j, none⟩ u k (by simp; omega)).trans (h.block k hk hl)⟩

theorem res_A_tmp {fn : Func} {tmps : Array Value} {r q : Tmp} {b : Nat} {c0 c1 c2 c3 c4 c5 u : Value} {W : World} (hres : fn.results = #[.cell r 27, .tmp q]) (h : tmps.getD r undef = .pointer (some ⟨b, 0, none⟩)) (hq : tmps.getD q undef = u) (hb : W.heap[b]? = some (.cells #[c0, c1, c2, c3, c4, c5] 27)) :
    (results fn tmps).run Try.prog W = .ok (.tuple #[.agg #[c0, c1, c2, c3, c4, c5], u]) W := by
  obtain ⟨k0, k1, k2, k3, k4, k5, _, _⟩ := blk6 hb
  rw [Array.getD_eq_getD_getElem?] at h hq
  simp [results, hres, go_sem, h, hq, k0, k1, k2, k3, k4, k5]

set_option maxHeartbeats 2000000 in
set_option maxRecDepth 100000 in
theorem withoutA_none (b : Nat) (va : Option Addr) (vc : Nat) (ot : Value) (at' : Int) (w : World) (hb : w.heap[b]? = some (.cells #[.slice va 0 vc, ot] 25)) :
    Calls Try.prog 37 #[.pointer (some ⟨b, 0, none⟩), .int .i64 at'] w fun e w' => e = .returned (.tuple #[.agg #[.int .u8 0, .int .i64 0, .int .i64 0, .int .i64 0, .int .i64 0, .int .i64 0], .bool false]) ∧ Below w.heap.size w w' := by
  obtain ⟨k0, k1, kf, kl⟩ := blk2 hb
  clear hb
  have B0 := hid (heap_new w (.cells #[.int .u8 0, .int .i64 0, .int .i64 0, .int .i64 0, .int .i64 0, .int .i64 0] 27))
  go_enter Try.func37, Try.ntmps37
  go_wp2
  refine wp_scope_jumps 0 (fun a' w' => a' = { tmps := #[.pointer (some ⟨b, 0, none⟩), .int .i64 0, undef, undef, .pointer (some ⟨w.heap.size, 0, none⟩), .bool false, .tuple #[.int .i64 0, .bool false], .pointer (some ⟨b, 0, none⟩), .pointer (some ⟨b, 0, none⟩), .slice va 0 vc, .int .i64 at', .tuple #[.int .i64 0, .bool false], .int .i64 0, .bool false, .bool false, .bool true, undef, undef, undef, undef, undef, undef, undef, undef, undef, undef, undef, undef, undef, undef, undef, undef, undef], defers := [] } ∧ w' = w.alloc (.cells #[.int .u8 0, .int .i64 0, .int .i64 0, .int .i64 0, .int .i64 0, .int .i64 0] 27)) (fun _ _ => 0) rfl ?_ ?_
  · go_wp2_with fail
    refine (placeA_no _ _ _ _).mono ?_
    rintro e w' ⟨rfl, rfl⟩
    go_wp2
    go_step3
    exact ⟨rfl, rfl, rfl⟩
  · rintro a' w' ⟨rfl, rfl⟩
    go_wp2
    simp only [Exit.jump]
    exact bodyPost_ret (res_A_tmp rfl rfl rfl B0.out) rfl ⟨rfl, (Below.refl _ _).alloc (Nat.le_refl _) _⟩

set_option maxHeartbeats 4000000 in
set_option maxRecDepth 100000 in
theorem withoutA_some (b base g c i : Nat) (ot : Value) (at' : Int) (x : AskV) (L : List AskV) (w : World) (hb : w.heap[b]? = some (.cells #[.slice (some ⟨g, 0, none⟩) L.length c, ot] 25)) (hown : OwnA w base (.slice (some ⟨g, 0, none⟩) L.length c) L) (hbb : b < base) (hl : L.length ≤ 1000) (hn0 : 0 < L.length)
    (hi : placeN at' L.length = i) (hx : L[i]? = some x) (hone : ∀ x ∈ L, ∀ u ∈ encA x, u.oneCell' = true) :
    Calls Try.prog 37 #[.pointer (some ⟨b, 0, none⟩), .int .i64 at'] w fun e w' => e = .returned (.tuple #[.agg #[.int .u8 x.kind, .int .i64 x.call, .int .i64 x.a, .int .i64 x.b, .int .i64 x.c, .int .i64 x.d], .bool true]) ∧
      w'.heap[b]? = some (.cells #[.slice (some ⟨g, 0, none⟩) (L.length - 1) c, ot] 25) ∧ OwnA w' base (.slice (some ⟨g, 0, none⟩) (L.length - 1) c) (L.eraseIdx i) ∧ On (fun k => k ≠ b ∧ k ≠ g) w w' ∧ Below b w w' := by
  obtain ⟨k0, k1, kf, kl⟩ := blk2 hb
  have hil : i < L.length := lt_get hx
  have hrow := Owns.row hown encA_len (by decide)
  obtain ⟨va', vc', hde, hl1, hl2, hl3, hop⟩ := hrow.open
  cases hde
  obtain ⟨g', off, hgo, hgl, hrw⟩ := hop (by omega)
  cases hgo
  obtain ⟨g0, g1, g2, g3, g4, g5⟩ := rowA hrw hx
  simp only [Nat.zero_add] at g0 g1 g2 g3 g4 g5
  have HB := hid hb
  have HO := hid hown
  have HI := hid hi
  have HX := hid hx
  have HONE := hid hone
  have hil' : (i : Int) < (L.length : Int) := by omega
  have hgb : base ≤ g := (hown.block g rfl).1
  clear hb hown hrow hop hrw hi hx hone
  have B0 := hid (heap_new w (.cells #[.int .u8 0, .int .i64 0, .int .i64 0, .int .i64 0, .int .i64 0, .int .i64 0] 27))
  go_enter Try.func37, Try.ntmps37
  go_wp2
  refine wp_scope_jumps 0 (fun _ _ => False) (fun _ _ => 0) rfl ?_ (fun _ _ h => h.elim)
  go_wp2_with fail
  refine (placeA_yes _ _ _ _ _ hn0 (by omega)).mono ?_
  rintro e w' ⟨rfl, rfl⟩
  rw [HI.out]
  have X0 := hid (heap_new w (.cells #[.int .u8 x.kind, .int .i64 x.call, .int .i64 x.a, .int .i64 x.b, .int .i64 x.c, .int .i64 x.d] 27))
  have hal : Below w.heap.size w (w.alloc (.cells #[.int .u8 x.kind, .int .i64 x.call, .int .i64 x.a, .int .i64 x.b, .int .i64 x.c, .int .i64 x.d] 27)) := (Below.refl _ _).alloc (Nat.le_refl _) _
  have OA := hid (Owns.below HO.out hal)
  have BA := hid (blk_below HB.out hal (blk_lt HB.out))
  have HAL := hid hal
  clear hal
  go_wp2_with fail
  refine (deleteA_any g c base i L _ OA.out (by omega) (by omega) HONE.out).mono ?_
  rintro e w2 ⟨rfl, ho2, hg2⟩
  have hgb2 : b ≠ g := by omega
  have O2 := hid ho2
  have G2 := hid hg2
  have B2 := hid (blk_grown BA.out hg2 (fun e => by cases e; omega))
  have X2 := hid (blk_grown X0.out hg2 (fun e => by cases e; omega))
  clear ho2 hg2 k0 k1 kf kl g0 g1 g2 g3 g4 g5
  obtain ⟨k0, k1, kf, kl⟩ := blk2 B2.out
  obtain ⟨x0, x1, x2, x3, x4, x5, xf, xl⟩ := blk6 X2.out
  go_wp2
  go_step3
  go_wp2
  simp only [Exit.jump]
  have hwb : w.heap.size ≠ b := by omega
  have hgw : g ≠ w.heap.size := by omega
  refine bodyPost_ret (res_A_tmp rfl rfl rfl (blk_set (blk_set (blk_set (blk_set (blk_set (blk_set (blk_far X2.out hwb _) 0 _) 1 _) 2 _) 3 _) 4 _) 5 _)) rfl ⟨rfl, ?_, ?_, ?_, ?_⟩
  · exact blk_far (blk_far (blk_far (blk_far (blk_far (blk_far (blk_set B2.out 0 _) hwb.symm _) hwb.symm _) hwb.symm _) hwb.symm _) hwb.symm _) hwb.symm _
  · exact ((((((Owns.far O2.out (by omega) _).far hgw _).far hgw _).far hgw _).far hgw _).far hgw _).far hgw _
  · have e1 : On (fun k => k ≠ b ∧ k ≠ g) w (w.alloc (.cells #[.int .u8 x.kind, .int .i64 x.call, .int .i64 x.a, .int .i64 x.b, .int .i64 x.c, .int .i64 x.d] 27)) := on_all HAL.out
    have e2 : On (fun k => k ≠ b ∧ k ≠ g) (w.alloc (.cells #[.int .u8 x.kind, .int .i64 x.call, .int .i64 x.a, .int .i64 x.b, .int .i64 x.c, .int .i64 x.d] 27)) w2 := ⟨G2.out.size, fun k hk hl => G2.out.block k hl (fun e => hk.2 (by cases e; rfl))⟩
    have e3 := (e1.trans e2).setCell (p := ⟨b, 0, none⟩) (fun h => h.1 rfl) (.slice (some ⟨g, 0, none⟩) (L.length - 1) c)
    exact (((((e3.new (Nat.le_refl _) _).new (Nat.le_refl _) _).new (Nat.le_refl _) _).new (Nat.le_refl _) _).new (Nat.le_refl _) _).new (Nat.le_refl _) _
  · have e1 : Below b w (w.alloc (.cells #[.int .u8 x.kind, .int .i64 x.call, .int .i64 x.a, .int .i64 x.b, .int .i64 x.c, .int .i64 x.d] 27)) := HAL.out.mono (by omega)
    have e2 : Below b w w2 := e1.grown G2.out (by simp; omega) (fun r e => by cases e; omega)
    have e3 := e2.setCell (p := ⟨b, 0, none⟩) (Nat.le_refl _) (.slice (some ⟨g, 0, none⟩) (L.length - 1) c)
    have hbw : b ≤ w.heap.size := by omega
    exact (((((e3.setCell (p := ⟨w.heap.size, 0, none⟩) hbw _).setCell (p := ⟨w.heap.size, 1, none⟩) hbw _).setCell (p := ⟨w.heap.size, 2, none⟩) hbw _).setCell (p := ⟨w.heap.size, 3, none⟩) hbw _).setCell (p := ⟨w.heap.size, 4, none⟩) hbw _).setCell (p := ⟨w.heap.size, 5, none⟩) hbw _

theorem res_T_tmp {fn : Func} {tmps : Array Value} {r q : Tmp} {b : Nat} {c0 c1 c2 c3 c4 c5 u : Value} {W : World} (hres : fn.results = #[.cell r 30, .tmp q]) (h : tmps.getD r undef = .pointer (some ⟨b, 0, none⟩)) (hq : tmps.getD q undef = u) (hb : W.heap[b]? = some (.cells #[c0, c1, c2, c3, c4, c5] 30)) :
    (results fn tmps).run Try.prog W = .ok (.tuple #[.agg #[c0, c1, c2, c3, c4, c5], u]) W := by
  obtain ⟨k0, k1, k2, k3, k4, k5, _, _⟩ := blk6 hb
  rw [Array.getD_eq_getD_getElem?] at h hq
  simp [results, hres, go_sem, h, hq, k0, k1, k2, k3, k4, k5]

set_option maxHeartbeats 2000000 in
set_option maxRecDepth 100000 in
theorem withoutT_none (b : Nat) (va : Option Addr) (vc : Nat) (ot : Value) (at' : Int) (w : World) (hb : w.heap[b]? = some (.cells #[ot, .slice va 0 vc] 25)) :
    Calls Try.prog 39 #[.pointer (some ⟨b, 1, none⟩), .int .i64 at'] w fun e w' => e = .returned (.tuple #[.agg #[.int .i64 0, .int .u8 0, .int .u8 0, .int .i64 0, .slice none 0 0, .bool false], .bool false]) ∧ Below w.heap.size w w' := by
  obtain ⟨k0, k1, kf, kl⟩ := blk2 hb
  clear hb
  have B0 := hid (heap_new w (.cells #[.int .i64 0, .int .u8 0, .int .u8 0, .int .i64 0, .slice none 0 0, .bool false] 30))
  go_enter Try.func39, Try.ntmps39
  go_wp2
  refine wp_scope_jumps 0 (fun a' w' => a' = { tmps := #[.pointer (some ⟨b, 1, none⟩), .int .i64 0, undef, undef, .pointer (some ⟨w.heap.size, 0, none⟩), .bool false, .tuple #[.int .i64 0, .bool false], .pointer (some ⟨b, 1, none⟩), .pointer (some ⟨b, 1, none⟩), .slice va 0 vc, .int .i64 at', .tuple #[.int .i64 0, .bool false], .int .i64 0, .bool false, .bool false, .bool true, undef, undef, undef, undef, undef, undef, undef, undef, undef, undef, undef, undef, undef, undef, undef, undef, undef], defers := [] } ∧ w' = w.alloc (.cells #[.int .i64 0, .int .u8 0, .int .u8 0, .int .i64 0, .slice none 0 0, .bool false] 30)) (fun _ _ => 0) rfl ?_ ?_
  · go_wp2_with fail
    refine (placeT_no _ _ _ _).mono ?_
    rintro e w' ⟨rfl, rfl⟩
    go_wp2
    go_step3
    exact ⟨rfl, rfl, rfl⟩
  · rintro a' w' ⟨rfl, rfl⟩
    go_wp2
    simp only [Exit.jump]
    exact bodyPost_ret (res_T_tmp rfl rfl rfl B0.out) rfl ⟨rfl, (Below.refl _ _).alloc (Nat.le_refl _) _⟩

set_option maxHeartbeats 4000000 in
set_option maxRecDepth 100000 in
theorem withoutT_some (b base g c i : Nat) (ot : Value) (at' : Int) (x : TellM) (L : List TellM) (w : World) (hb : w.heap[b]? = some (.cells #[ot, .slice (some ⟨g, 0, none⟩) L.length c] 25)) (hown : OwnT w base (.slice (some ⟨g, 0, none⟩) L.length c) L) (hbb : b < base) (hl : L.length ≤ 1000) (hn0 : 0 < L.length)
    (hi : placeN at' L.length = i) (hx : L[i]? = some x) (hone : ∀ x ∈ L, ∀ u ∈ encT x, u.oneCell' = true) (hsv : ∃ a n c, x.sv = .slice a n c) :
    Calls Try.prog 39 #[.pointer (some ⟨b, 1, none⟩), .int .i64 at'] w fun e w' => e = .returned (.tuple #[.agg #[.int .i64 x.call, .int .u8 x.kind, .int .u8 x.code, .int .i64 x.id, x.sv, .bool x.more], .bool true]) ∧
      w'.heap[b]? = some (.cells #[ot, .slice (some ⟨g, 0, none⟩) (L.length - 1) c] 25) ∧ OwnT w' base (.slice (some ⟨g, 0, none⟩) (L.length - 1) c) (L.eraseIdx i) ∧ On (fun k => k ≠ b ∧ k ≠ g) w w' ∧ Below b w w' := by
  obtain ⟨ca, ki, co, di, xsv, mo⟩ := x
  obtain ⟨xa, xn, xc, hxs⟩ := hsv
  simp only at hxs
  subst hxs
  dsimp only
  obtain ⟨k0, k1, kf, kl⟩ := blk2 hb
  have hil : i < L.length := lt_get hx
  have hrow := Owns.row hown encT_len (by decide)
  obtain ⟨va', vc', hde, hl1, hl2, hl3, hop⟩ := hrow.open
  cases hde
  obtain ⟨g', off, hgo, hgl, hrw⟩ := hop (by omega)
  cases hgo
  obtain ⟨g0, g1, g2, g3, g4, g5⟩ := rowT hrw hx
  simp only [Nat.zero_add] at g0 g1 g2 g3 g4 g5
  have HB := hid hb
  have HO := hid hown
  have HI := hid hi
  have HX := hid hx
  have HONE := hid hone
  have hil' : (i : Int) < (L.length : Int) := by omega
  have hgb : base ≤ g := (hown.block g rfl).1
  clear hb hown hrow hop hrw hi hx hone
  have B0 := hid (heap_new w (.cells #[.int .i64 0, .int .u8 0, .int .u8 0, .int .i64 0, .slice none 0 0, .bool false] 30))
  go_enter Try.func39, Try.ntmps39
  go_wp2
  refine wp_scope_jumps 0 (fun _ _ => False) (fun _ _ => 0) rfl ?_ (fun _ _ h => h.elim)
  go_wp2_with fail
  refine (placeT_yes _ _ _ _ _ hn0 (by omega)).mono ?_
  rintro e w' ⟨rfl, rfl⟩
  rw [HI.out]
  have X0 := hid (heap_new w (.cells #[.int .i64 ca, .int .u8 ki, .int .u8 co, .int .i64 di, .slice xa xn xc, .bool mo] 30))
  have hal : Below w.heap.size w (w.alloc (.cells #[.int .i64 ca, .int .u8 ki, .int .u8 co, .int .i64 di, .slice xa xn xc, .bool mo] 30)) := (Below.refl _ _).alloc (Nat.le_refl _) _
  have OA := hid (Owns.below HO.out hal)
  have BA := hid (blk_below HB.out hal (blk_lt HB.out))
  have HAL := hid hal
  clear hal
  go_wp2_with fail
  refine (deleteT_any g c base i L _ OA.out (by omega) (by omega) HONE.out).mono ?_
  rintro e w2 ⟨rfl, ho2, hg2⟩
  have hgb2 : b ≠ g := by omega
  have O2 := hid ho2
  have G2 := hid hg2
  have B2 := hid (blk_grown BA.out hg2 (fun e => by cases e; omega))
  have X2 := hid (blk_grown X0.out hg2 (fun e => by cases e; omega))
  clear ho2 hg2 k0 k1 kf kl g0 g1 g2 g3 g4 g5
  obtain ⟨k0, k1, kf, kl⟩ := blk2 B2.out
  obtain ⟨x0, x1, x2, x3, x4, x5, xf, xl⟩ := blk6 X2.out
  go_wp2
  go_step3
  go_wp2
  simp only [Exit.jump]
  have hwb : w.heap.size ≠ b := by omega
  have hgw : g ≠ w.heap.size := by omega
  refine bodyPost_ret (res_T_tmp rfl rfl rfl (blk_set (blk_set (blk_set (blk_set (blk_set (blk_set (blk_far X2.out hwb _) 0 _) 1 _) 2 _) 3 _) 4 _) 5 _)) rfl ⟨rfl, ?_, ?_, ?_, ?_⟩
  · exact blk_far (blk_far (blk_far (blk_far (blk_far (blk_far (blk_set B2.out 1 _) hwb.symm _) hwb.symm _) hwb.symm _) hwb.symm _) hwb.symm _) hwb.symm _
  · exact ((((((Owns.far O2.out (by omega) _).far hgw _).far hgw _).far hgw _).far hgw _).far hgw _).far hgw _
  · have e1 : On (fun k => k ≠ b ∧ k ≠ g) w (w.alloc (.cells #[.int .i64 ca, .int .u8 ki, .int .u8 co, .int .i64 di, .slice xa xn xc, .bool mo] 30)) := on_all HAL.out
    have e2 : On (fun k => k ≠ b ∧ k ≠ g) (w.alloc (.cells #[.int .i64 ca, .int .u8 ki, .int .u8 co, .int .i64 di, .slice xa xn xc, .bool mo] 30)) w2 := ⟨G2.out.size, fun k hk hl => G2.out.block k hl (fun e => hk.2 (by cases e; rfl))⟩
    have e3 := (e1.trans e2).setCell (p := ⟨b, 1, none⟩) (fun h => h.1 rfl) (.slice (some ⟨g, 0, none⟩) (L.length - 1) c)
    exact (((((e3.new (Nat.le_refl _) _).new (Nat.le_refl _) _).new (Nat.le_refl _) _).new (Nat.le_refl _) _).new (Nat.le_refl _) _).new (Nat.le_refl _) _
  · have e1 : Below b w (w.alloc (.cells #[.int .i64 ca, .int .u8 ki, .int .u8 co, .int .i64 di, .slice xa xn xc, .bool mo] 30)) := HAL.out.mono (by omega)
    have e2 : Below b w w2 := e1.grown G2.out (by simp; omega) (fun r e => by cases e; omega)
    have e3 := e2.setCell (p := ⟨b, 1, none⟩) (Nat.le_refl _) (.slice (some ⟨g, 0, none⟩) (L.length - 1) c)
    have hbw : b ≤ w.heap.size := by omega
    exact (((((e3.setCell (p := ⟨w.heap.size, 0, none⟩) hbw _).setCell (p := ⟨w.heap.size, 1, none⟩) hbw _).setCell (p := ⟨w.heap.size, 2, none⟩) hbw _).setCell (p := ⟨w.heap.size, 3, none⟩) hbw _).setCell (p := ⟨w.heap.size, 4, none⟩) hbw _).setCell (p := ⟨w.heap.size, 5, none⟩) hbw _
end Go.Proofs.Ythnlppbfmmiioaa
