import Derived.Test.YtljmhmdpihpafaaDoorCln
import Derived.Test.YtljmhmdpihpafaaDoorOwn2
import Derived.Deep.RegionLaw
/- slices.IndexFunc, DeleteFunc of calls, by a function that only looks. -/
namespace Go.Proofs.YtljmhmdpihpafaaDoor
open Go.RowKit Go.Shelf

/-- The first place of which it is so; -1: nowhere. -/
def idxC (L : List CallV) (f : CallV → Bool) : Int := match L.findIdx? f with
  | some i => i
  | none => -1
theorem idxC_at {L : List CallV} {f : CallV → Bool} {k : Nat} {x : CallV} (hx : L[k]? = some x) (ht : f x = true) (h : ∀ y ∈ L.take k, f y = false) : idxC L f = k := by
  have : L.findIdx? f = some k := by
    rw [List.findIdx?_eq_some_iff_getElem]
    obtain ⟨hk, hx'⟩ := List.getElem?_eq_some_iff.1 hx
    refine ⟨hk, by simp [hx', ht], fun j hj => ?_⟩
    have : L[j] ∈ L.take k := by
      refine List.mem_of_getElem? (i := j) ?_
      rw [List.getElem?_take, if_pos hj, List.getElem?_eq_getElem (by omega)]
    simpa using h _ this
  simp [idxC, this]
theorem idxC_no {L : List CallV} {f : CallV → Bool} (h : ∀ y ∈ L, f y = false) : idxC L f = -1 := by
  have : L.findIdx? f = none := by
    rw [List.findIdx?_eq_none_iff]
    intro x hx
    simpa using h x hx
  simp [idxC, this]
theorem idx_next {L : List CallV} {f : CallV → Bool} {k : Nat} {x : CallV} (hx : L[k]? = some x) (h : ∀ y ∈ L.take k, f y = false) (hne : f x = false) : ∀ y ∈ L.take (k + 1), f y = false := by
  rw [take_snoc L k x hx]
  intro y hy
  rcases List.mem_append.1 hy with h1 | h1
  · exact h y h1
  · simp at h1; rw [h1]; exact hne

/-- What a function that only looks says of calls, in all worlds that have kept what lay below a block. -/
def Looks (gs : Nat) (cap : Array Value) (f : CallV → Bool) (base : Nat) (w : World) : Prop :=
  ∀ (W' : World) (x : CallV), Below base w W' → Calls Tryd.prog gs (#[encS x] ++ cap) W' fun e W'' => e = .returned (.bool (f x)) ∧ Below W'.heap.size W' W''

set_option maxHeartbeats 1000000 in
set_option maxRecDepth 100000 in
theorem indexC_any (gs : Nat) (cap : Array Value) (f : CallV → Bool) (base : Nat) (s : Value) (L : List CallV) (w : World) (hs : Row12 w s L) (hL : L.length ≤ 1000000) (hb0 : base ≤ w.heap.size) (hso : Looks gs cap f base w)
    (he : ∀ args w, (callFunc gs args).run Tryd.prog w = .ok (.enter gs args) w) :
    Calls Tryd.prog 40 #[s, .func (.func gs) #[] cap] w fun e w' => e = .returned (.int .i64 (idxC L f)) ∧ Below w.heap.size w w' := by
  obtain ⟨a, c, rfl, hl1, hl2, hl3, hop⟩ := hs.open
  have HOP := hid hop
  have HSO := hid hso
  clear hop hs hso
  go_enter Tryd.func40, Tryd.ntmps40
  go_wp2
  go_loopw [8] (fun i wr => ∃ k : Nat, k ≤ L.length ∧ i = .int .i64 k ∧ (∀ y ∈ L.take k, f y = false) ∧ Below w.heap.size w wr) (fun i _ => L.length - (intOf i).toNat)
  case atStart => exact ⟨0, Nat.zero_le _, rfl, by simp, Below.refl _ _⟩
  case round =>
    obtain ⟨k, hk, rfl, htk, hB⟩ := hrel
    have HT := hid htk
    clear htk
    have hsz := hB.size
    by_cases hlt : k < L.length
    · obtain ⟨b1, o1, rfl, hb1, hr1⟩ := HOP.out (by omega)
      obtain ⟨x, hx⟩ := get_lt hlt
      obtain ⟨g0, g1, g2, g3⟩ := row4 (hr1.below hB hb1) hx
      have HX := hid hx
      have HB := hid hB
      have hkL : (k : Int) < (L.length : Int) := by omega
      have HC := HSO.out wr x (hB.mono hb0)
      obtain ⟨fx, hfx⟩ : ∃ fx, f x = fx := ⟨_, rfl⟩
      rw [hfx] at HC
      have HC := hid HC
      have HFX := hid hfx
      clear hx hB hfx
      go_wp2_with fail
      refine HC.out.mono ?_
      rintro e w2 ⟨rfl, hb⟩
      have HB2 := hid (HB.out.trans (hb.mono hsz))
      clear hb
      cases fx with
      | true =>
        go_wp2
        go_ret
        exact ⟨by rw [idxC_at HX.out HFX.out HT.out]; rfl, HB2.out⟩
      | false =>
        go_wp2
        go_roundw
        case rel => exact ⟨k + 1, by omega, by go_num, idx_next HX.out HT.out HFX.out, HB2.out⟩
        case measure => simp [intOf]; omega
    · obtain rfl : k = L.length := by omega
      go_wp2
      go_ret
      exact ⟨by rw [idxC_no (fun y hy => HT.out y (by rw [List.take_length]; exact hy))]; rfl, hB⟩
end Go.Proofs.YtljmhmdpihpafaaDoor

/- slices.DeleteFunc of calls in a row of the call's own. -/
namespace Go.Proofs.YtljmhmdpihpafaaDoor
open Go.RowKit Go.Shelf

theorem run_clear_rows' {P : Program} (w : World) (t e : TypeId) (z : Value) (k : Nat) (ht : P.underlying t = some (.slice e)) (hv : ∀ w, (zeroValue e).run P w = .ok z w) (hz : z.cells.size = k) (h1 : ∀ u ∈ z.cells.toList, u.oneCell' = true) (b o n c : Nat)
    (hc : ∀ j, j < n * k → (w.cell? ⟨b, o + j, none⟩).isSome = true) (hf : ∀ j, j < n * k → w.frozen? ⟨b, o + j, none⟩ = false) :
    ∃ vs : List Value, (∀ ty, (Builtin.clear_ #[t] ty #[.slice (some ⟨b, o, none⟩) n c]).run P w = .ok (.tuple #[]) (w.setCells b o vs)) ∧ vs.length ≤ n * k := by
  obtain ⟨vs, h2, h3⟩ := run_clear_rows w t e 0 z k ht hv hz h1 b o n c hc hf
  exact ⟨vs, fun ty => h2, h3⟩

/-- What a row holds while things are struck out of it: those that stay ahead, at a place; what is still to be looked at, behind another. -/
def Struck (L : List CallV) (f : CallV → Bool) (i j : Nat) (R : List CallV) : Prop := R.length = L.length ∧ i < j ∧ j ≤ L.length ∧ R.take i = (L.take j).filter (fun x => !f x) ∧ R.drop j = L.drop j
theorem Struck.at {L R : List CallV} {f : CallV → Bool} {i j : Nat} (h : Struck L f i j R) {x : CallV} (hx : L[j]? = some x) : R[j]? = some x := by
  obtain ⟨h1, h2, h3, h4, h5⟩ := h
  have e1 : R[j]? = (R.drop j)[0]? := by simp
  have e2 : L[j]? = (L.drop j)[0]? := by simp
  rw [e1, h5, ← e2, hx]
theorem Struck.skip {L R : List CallV} {f : CallV → Bool} {i j : Nat} (h : Struck L f i j R) {x : CallV} (hx : L[j]? = some x) (hf : f x = true) : Struck L f i (j + 1) R := by
  obtain ⟨h1, h2, h3, h4, h5⟩ := h
  have := lt_get hx
  refine ⟨h1, by omega, by omega, ?_, ?_⟩
  · rw [h4, take_snoc L j x hx, List.filter_append]; simp [hf]
  · rw [← List.drop_drop, ← List.drop_drop, h5]
theorem Struck.keep {L R : List CallV} {f : CallV → Bool} {i j : Nat} (h : Struck L f i j R) {x : CallV} (hx : L[j]? = some x) (hf : f x = false) : Struck L f (i + 1) (j + 1) (R.take i ++ [x] ++ R.drop (i + 1)) := by
  obtain ⟨h1, h2, h3, h4, h5⟩ := h
  have := lt_get hx
  have hti : (R.take i).length = i := by rw [List.length_take]; omega
  refine ⟨by simp; omega, by omega, by omega, ?_, ?_⟩
  · rw [List.take_append_of_le_length (by simp; omega), List.take_of_length_le (by simp; omega), h4, take_snoc L j x hx, List.filter_append]; simp [hf]
  · rw [List.drop_append, List.drop_of_length_le (by simp; omega), List.nil_append, List.length_append, hti, List.length_singleton, List.drop_drop]
    rw [show i + 1 + (j + 1 - (i + 1)) = j + 1 by omega, ← List.drop_drop, ← List.drop_drop, h5]
theorem Struck.done {L R : List CallV} {f : CallV → Bool} {i : Nat} (h : Struck L f i L.length R) : R.take i = L.filter (fun x => !f x) := by
  have := h.2.2.2.1
  rwa [List.take_length] at this
theorem Struck.start {L : List CallV} {f : CallV → Bool} {i : Nat} {x : CallV} (hx : L[i]? = some x) (hf : f x = true) (h : ∀ y ∈ L.take i, f y = false) : Struck L f i (i + 1) L := by
  refine ⟨rfl, by omega, lt_get hx, ?_, rfl⟩
  rw [take_snoc L i x hx, List.filter_append]
  have : (L.take i).filter (fun x => !f x) = L.take i := by
    rw [List.filter_eq_self]
    intro y hy
    simp [h y hy]
  rw [this]; simp [hf]
theorem set_row {W : World} {g o : Nat} (x : CallV) : W.setCells g o (encC x) = (((W.setCell ⟨g, o, none⟩ (.int .i64 x.id)).setCell ⟨g, o + 1, none⟩ (.int .u8 x.kind)).setCell ⟨g, o + 1 + 1, none⟩ (.int .i64 x.key)).setCell ⟨g, o + 1 + 1 + 1, none⟩ (.int .i64 x.sent) := rfl
theorem Owns.put {w : World} {base g n c : Nat} {l : List CallV} (h : Own12 w base (.slice (some ⟨g, 0, none⟩) n c) l) (i : Nat) (x : CallV) (hi : i < l.length) :
    Own12 (w.setCells g (i * 4) (encC x)) base (.slice (some ⟨g, 0, none⟩) n c) (l.take i ++ [x] ++ l.drop (i + 1)) := by
  have := Owns.write encC_len h i [x] (by simp; omega)
  simpa using this
theorem set_below {B : Nat} {a W : World} {g : Nat} (h : Below B a W) (hg : B ≤ g) (hs : B ≤ W.heap.size) (o : Nat) (vs : List Value) : Below B a (W.setCells g o vs) := by
  have q := setCells_grown g o vs W
  exact h.grown q hs (fun k e => by cases e; exact hg)

set_option maxHeartbeats 2000000 in
set_option maxRecDepth 100000 in
theorem deleteF_any (gs : Nat) (cap : Array Value) (f : CallV → Bool) (base g c : Nat) (L : List CallV) (w : World) (hown : Own12 w base (.slice (some ⟨g, 0, none⟩) L.length c) L) (hL : L.length ≤ 100000) (hb0 : base ≤ w.heap.size) (hso : Looks gs cap f base w)
    (he : ∀ args w, (callFunc gs args).run Tryd.prog w = .ok (.enter gs args) w) :
    Calls Tryd.prog 27 #[.slice (some ⟨g, 0, none⟩) L.length c, .func (.func gs) #[] cap] w fun e w' => ∃ v, e = .returned v ∧ Own12 w' base v (L.filter (fun x => !f x)) ∧ Below base w w' := by
  have HSO := hid hso
  have HI := hid (indexC_any gs cap f base (.slice (some ⟨g, 0, none⟩) L.length c) L w (hown.row encC_len (by decide)) (by omega) hb0 hso he)
  have HO := hid hown
  have hgb := hown.block g rfl
  have hcm := hown.cells.2.2.2.2
  have hcc := hown.cells.2.2.2.1
  unfold maxLen at hcm
  clear hso hown
  go_enter Tryd.func27, Tryd.ntmps27
  go_wp2_with fail
  refine HI.out.mono ?_
  rintro e w1 ⟨rfl, hb1⟩
  have hO1 := hid (HO.out.below hb1)
  have HB1 := hid (hb1.mono hb0)
  have hz1 := hb1.size
  clear hb1
  cases hfi : L.findIdx? f with
  | none =>
    have hno : ∀ y ∈ L, f y = false := by simpa [List.findIdx?_eq_none_iff] using hfi
    have e1 : idxC L f = -1 := idxC_no hno
    have e2 : L.filter (fun x => !f x) = L := by
      rw [List.filter_eq_self]; intro y hy; simp [hno y hy]
    rw [e1]
    have E2 := hid e2
    clear hno e1 e2 hfi
    go_wp2
    go_ret
    exact ⟨_, rfl, by rw [E2.out]; exact hO1.out, HB1.out⟩
  | some i =>
    obtain ⟨hil, hif, hin⟩ := List.findIdx?_eq_some_iff_getElem.1 hfi
    have hx0 : L[i]? = some L[i] := List.getElem?_eq_getElem hil
    have hst : Struck L f i (i + 1) L := Struck.start hx0 hif (by
      intro y hy
      obtain ⟨j, hj⟩ := List.getElem?_of_mem hy
      rw [List.getElem?_take] at hj
      split at hj
      · rename_i hji
        obtain ⟨hjl, rfl⟩ := List.getElem?_eq_some_iff.1 hj
        simpa using hin j hji
      · cases hj)
    have e1 : idxC L f = (i : Int) := by simp [idxC, hfi]
    have e3 : ((i : Int) == -1) = false := by simp
    rw [e1]
    have HST := hid hst
    clear hin hif hx0 hst e1 hfi
    go_wp2
    go_loopw [5, 6] (fun a b wr => ∃ i j R, a = .int .i64 (i : Nat) ∧ b = .int .i64 (j : Nat) ∧ Struck L f i j R ∧ Own12 wr base (.slice (some ⟨g, 0, none⟩) L.length c) R ∧ Below base w wr ∧ base ≤ wr.heap.size) (fun _ b _ => L.length - (intOf b).toNat)
    case atStart => exact ⟨i, i + 1, L, rfl, by first | rfl | go_num, HST.out, hO1.out, HB1.out, by omega⟩
    case round =>
      clear e3
      obtain ⟨i, j, R, rfl, rfl, hS, hO, hB, hsz⟩ := hrel
      have HS := hid hS
      have HO2 := hid hO
      have HB := hid hB
      have hRl := hS.1
      have hij := hS.2.1
      have hjl := hS.2.2.1
      have hgz := (hO.block g rfl).2
      obtain ⟨a', c', hde, _, _, _, hop⟩ := (hO.row encC_len (by decide)).open
      have hcell := hO.cells
      clear hS hB
      by_cases hlt : j < L.length
      · obtain ⟨b', o', ha', hb', hrow⟩ := hop (by omega)
        subst ha'
        simp only [Value.slice.injEq, Option.some.injEq, Addr.mk.injEq, and_true] at hde
        obtain ⟨⟨rfl, rfl⟩, -, rfl⟩ := hde
        obtain ⟨x, hx⟩ := get_lt hlt
        obtain ⟨y, hy⟩ := get_lt (l := R) (k := i) (by omega)
        obtain ⟨g0, g1, g2, g3⟩ := row4 hrow (HS.out.at hx)
        have hjL : (j : Int) < (L.length : Int) := by omega
        have hiL : (i : Int) < (L.length : Int) := by omega
        obtain ⟨fx, hfx⟩ : ∃ fx, f x = fx := ⟨_, rfl⟩
        have hC := HSO.out (wr.alloc (.cells #[.int .i64 x.id, .int .u8 x.kind, .int .i64 x.key, .int .i64 x.sent] 45)) x (HB.out.alloc (by omega) _)
        rw [hfx] at hC
        have HC := hid hC
        have HX := hid hx
        have HY := hid hy
        have HFX := hid hfx
        have HR := hid hrow
        clear hC hx hy hfx hrow hcell hop hO
        rw [Nat.zero_add] at g0 g1 g2 g3
        go_wp2_with fail
        refine HC.out.mono ?_
        rintro e w2 ⟨rfl, hb2⟩
        have hba : Below wr.heap.size wr w2 := ((Below.refl _ _).alloc (Nat.le_refl _) _).trans (hb2.mono (by simp))
        have hz2 := hba.size
        have hbx := blk_below (heap_new wr (.cells #[.int .i64 x.id, .int .u8 x.kind, .int .i64 x.key, .int .i64 x.sent] 45)) hb2 (by simp)
        have HO3 := hid (HO2.out.below hba)
        have HB3 := hid (HB.out.trans (hba.mono hsz))
        cases fx with
        | true =>
          clear hb2 hba hbx
          go_wp2
          go_roundw
          case rel => exact ⟨i, j + 1, R, rfl, by go_num, HS.out.skip HX.out HFX.out, HO3.out, HB3.out, by omega⟩
          case measure => simp [intOf]; omega
        | false =>
          obtain ⟨k0, k1, k2, k3, kf, kl⟩ := blk4 hbx
          obtain ⟨m0, m1, m2, m3⟩ := row4 (HR.out.below hba hgz) HY.out
          rw [Nat.zero_add] at m0 m1 m2 m3
          have hfz := HO3.out.cells.2.1
          have hgw : g < w2.heap.size := by omega
          clear hb2 hba hbx
          go_wp2
          go_roundw
          case rel =>
            refine ⟨i + 1, j + 1, _, by go_num, by go_num, HS.out.keep HX.out HFX.out, ?_, ?_, by simp [World.setCell]; omega⟩
            · have := Owns.put HO3.out i x (by omega)
              rw [set_row] at this
              exact this
            · have := set_below HB3.out (show base ≤ g by omega) (show base ≤ w2.heap.size by omega) (i * 4) (encC x)
              rw [set_row] at this
              exact this
          case measure => simp [intOf]; omega
      · obtain rfl : j = L.length := by omega
        have hcc1 := hcell.1
        have hcf1 := hcell.2.1
        obtain ⟨vs, hclr, hvs⟩ := run_clear_rows' (P := Tryd.prog) wr 31 45 (.agg #[.int .i64 0, .int .u8 0, .int .i64 0, .int .i64 0]) 4 Tryd.underlying31 (fun w => by kernel_rfl) rfl (by decide) g (i * 4) (L.length - i) (c - i) (fun j hj => hcc1 _ (by omega)) (fun j hj => hcf1 _)
        have hic : i ≤ c := by omega
        have hiL : (i : Int) ≤ (L.length : Int) := by omega
        have hcne : ¬ c = i := by omega
        have HE := hid HS.out.done
        clear hop hde hcell hcc1 hcf1 hO
        go_wp2
        go_ret
        refine ⟨_, rfl, ?_, set_below HB.out (by omega) hsz _ _⟩
        rw [← HE.out]
        exact Owns.beyond encC_len (Owns.cut encC_len HO2.out i (by omega)) _ _ (Nat.le_refl _)
end Go.Proofs.YtljmhmdpihpafaaDoor
