/- A part of the proofs about open calls: contracts of functions, or plain facts that they want. -/
import Derived.Test.YtljmhmdpihpafaaDoorOpo
namespace Go.Proofs.YtljmhmdpihpafaaDoor
open Go.RowKit Go.Shelf

theorem openErr_cases (c : CallsV) (k key now : Int) : openErr c k key now = 0 ∨ openErr c k key now = 2 ∨ openErr c k key now = 241 := by
  unfold openErr; split
  · split
    · exact .inl rfl
    · exact .inr (.inr rfl)
  · exact .inr (.inl rfl)

/-- What Open's closure leaves behind, in one word. -/
def OpenR (n : Nat) (W : World) (T : Nat) (ep nx : Int) (s : Value) (kd ky now : Int) (L : List CallV) (w' : World) : Prop :=
  ∃ v', OB n w' ep nx s kd ky now (openC ⟨ep, nx, L⟩ kd ky now).next v' (openId ⟨ep, nx, L⟩ kd ky now) ∧ Own12 w' (n + 6) v' (openC ⟨ep, nx, L⟩ kd ky now).opens ∧ Below n W w' ∧ w'.heap[T]? = W.heap[T]?

theorem open1_any (n : Nat) (ep nx kd ky now : Int) (s v : Value) (L : List CallV) (W : World) (hn : L.length ≤ 900000) (hs : Row12 W s L) (ob : OB n W ep nx s kd ky now nx v 0) (hv : Own12 W (n + 6) v L)
    (T : Nat) (hT : n + 6 ≤ T) (hTW : T < W.heap.size) (hTv : v.ownBlock ≠ some T) :
    Calls Tryd.prog 32 #[.pointer (some ⟨n, 0, none⟩), .pointer (some ⟨n + 1, 0, none⟩), .pointer (some ⟨n + 2, 0, none⟩), .pointer (some ⟨n + 3, 0, none⟩), .pointer (some ⟨n + 5, 0, none⟩), .pointer (some ⟨n + 4, 0, none⟩)] W
      fun e w' => EndsBy (decide (openErr ⟨ep, nx, L⟩ kd ky now = 0)) (openErr ⟨ep, nx, L⟩ kd ky now) e ∧ OpenR n W T ep nx s kd ky now L w' := by
  by_cases h : openErr ⟨ep, nx, L⟩ kd ky now = 0
  · refine (open1_ok n ep nx kd ky now s v L W hn hs ob hv h T hT hTW hTv).mono ?_
    rintro e w' ⟨rfl, v', h1, h2, h3, h4⟩
    refine ⟨by rw [decide_eq_true h]; rfl, v', ?_, ?_, h3, h4⟩
    · simpa [openC, openId, h] using h1
    · simpa [openC, h] using h2
  · refine (open1_fail n ep nx kd ky now s v L W (by omega) hs ob h).mono ?_
    rintro e w' ⟨rfl, h1⟩
    refine ⟨by rw [decide_eq_false h]; rfl, v, ?_, ?_, h1.mono (by have := ob.size; omega), h1.block T hTW⟩
    · simpa [openC, openId, h] using ob.below h1 ob.size
    · simpa [openC, h] using hv.below h1

theorem res_calls_two {fn : Func} {tmps : Array Value} {r q p : Tmp} {b d : Nat} {x y z u t : Value} {W : World} (hres : fn.results = #[.cell r 33, .cell q 3, .tmp p]) (h : tmps.getD r undef = .pointer (some ⟨b, 0, none⟩)) (hq : tmps.getD q undef = .pointer (some ⟨d, 0, none⟩)) (hp : tmps.getD p undef = t)
    (hb : W.heap[b]? = some (.cells #[x, y, z] 33)) (hd : W.heap[d]? = some (.cells #[u] 3)) :
    (results fn tmps).run Tryd.prog W = .ok (.tuple #[.agg #[x, y, z], u, t]) W := by
  obtain ⟨k0, k1, k2, _, _⟩ := blk3 hb
  obtain ⟨m0, _, _⟩ := blk1 hd
  rw [Array.getD_eq_getD_getElem?] at h hq hp
  simp [results, hres, go_sem, h, hq, hp, k0, k1, k2, m0]

theorem owns_apart {α : Type} {k : Nat} {e t : TypeId} {enc : α → List Value} {W : World} {base T : Nat} {v : Value} {l : List α} {c : Array Value} (h : Owns k e enc W base v l) (hT : W.heap[T]? = some (.cells c t)) (hne : e ≠ t) (u : Value) : Owns k e enc (W.setCell ⟨T, 0, none⟩ u) base v l := by
  refine ownsRow_setCell_other h (fun e' => ?_) u
  obtain ⟨_, ⟨rfl, _⟩ | ⟨g, cap, cur, rfl, _, hgc, _⟩⟩ := h
  · cases e'
  · have e'' : g = T := by cases e'; rfl
    subst e''
    rw [hgc] at hT; cases hT; exact hne rfl

set_option maxHeartbeats 1000000 in
set_option maxRecDepth 10000 in
theorem open_any (ep nx kd ky now : Int) (s : Value) (L : List CallV) (w : World) (hn : L.length ≤ 900000) (hs : Row12 w s L) :
    Calls Tryd.prog 23 #[calls ep nx s, .int .u8 kd, .int .i64 ky, .int .i64 now] w fun e w' => ∃ v, e = .returned (.tuple #[calls ep (openC ⟨ep, nx, L⟩ kd ky now).next v, .int .i64 (openId ⟨ep, nx, L⟩ kd ky now), .int .i64 (openErr ⟨ep, nx, L⟩ kd ky now)]) ∧
      Own12 w' w.heap.size v (openC ⟨ep, nx, L⟩ kd ky now).opens ∧ Below w.heap.size w w' := by
  have hmf := mkfunc
  obtain ⟨sa, sc, rfl, _, _, _, _⟩ := hs.open
  obtain ⟨W, hW⟩ : ∃ W, W = (((((w.alloc (.cells #[.int .i64 ep, .int .i64 nx, .slice sa L.length sc] 33)).alloc (.cells #[.int .u8 kd] 5)).alloc (.cells #[.int .i64 ky] 3)).alloc (.cells #[.int .i64 now] 3)).alloc (.cells #[.int .i64 ep, .int .i64 nx, .slice sa L.length sc] 33)).alloc (.cells #[.int .i64 0] 3) := ⟨_, rfl⟩
  have hB : Below w.heap.size w W := by rw [hW]; exact ((((((Below.refl _ _).alloc (Nat.le_refl _) _).alloc (by simp) _).alloc (by simp; omega) _).alloc (by simp; omega) _).alloc (by simp; omega) _).alloc (by simp; omega) _
  have hz : W.heap.size = w.heap.size + 6 := by rw [hW]; simp
  have hob : OB w.heap.size W ep nx (.slice sa L.length sc) kd ky now nx (.slice sa L.length sc) 0 := by
    rw [hW]
    refine ⟨?_, ?_, ?_, ?_, ?_, ?_⟩
    · exact blk_alloc (blk_alloc (blk_alloc (blk_alloc (blk_alloc (heap_new _ _) _) _) _) _) _
    · exact blk_alloc (blk_alloc (blk_alloc (blk_alloc (heap_new2 _ _ _) _) _) _) _
    · exact blk_alloc (blk_alloc (blk_alloc (by simpa using heap_new2 (w.alloc _) _ _) _) _) _
    · exact blk_alloc (blk_alloc (by simpa using heap_new2 ((w.alloc _).alloc _) _ _) _) _
    · exact blk_alloc (by simpa using heap_new2 (((w.alloc _).alloc _).alloc _) _ _) _
    · simpa using heap_new2 ((((w.alloc _).alloc _).alloc _).alloc _) _ _
  have HCL := hid (clone_any _ L W (by omega) (hs.below hB))
  have HB := hid hB
  have HZ := hid hz
  have HOB := hid hob
  have HS := hid (hs.below hB)
  have HS0 := hid hs
  clear hs hB hz hob
  obtain ⟨er, her⟩ : ∃ er, openErr ⟨ep, nx, L⟩ kd ky now = er := ⟨_, rfl⟩
  obtain ⟨di, hdi⟩ : ∃ di, openId ⟨ep, nx, L⟩ kd ky now = di := ⟨_, rfl⟩
  obtain ⟨C, hC⟩ : ∃ C, openC ⟨ep, nx, L⟩ kd ky now = C := ⟨_, rfl⟩
  rw [her, hdi, hC]
  have HER := hid her
  have HDI := hid hdi
  have HCC := hid hC
  clear her hdi hC
  unfold calls
  go_enter Tryd.func23, Tryd.ntmps23
  go_wp2_with fail
  subst hW
  refine HCL.out.mono ?_
  rintro e w1 ⟨v, rfl, hown, hb1⟩
  obtain ⟨v1, v2, v3, rfl⟩ := hown.shape
  have hz1 := hb1.size
  have hzz := HZ.out
  have ob1 := HOB.out.below hb1 (by omega)
  obtain ⟨p0, p1, p2, pf, l4⟩ := blk3 ob1.b4
  have OB1 := hid ob1
  have HO := hid hown
  have HB1 := hid hb1
  clear ob1 hown hb1
  obtain ⟨W1, hW1⟩ : ∃ W1, W1 = w1.setCell ⟨w.heap.size + 4, 2, none⟩ (.slice v1 v2 v3) := ⟨_, rfl⟩
  have hs1 : W1.heap.size = w1.heap.size := by rw [hW1]; simp [World.setCell]
  have hbB : Below w.heap.size w W1 := by rw [hW1]; exact (HB.out.trans (HB1.out.mono (by omega))).setCell (p := ⟨w.heap.size + 4, 2, none⟩) (by simp) _
  have hrow : Row12 W1 (.slice sa L.length sc) L := by
    have h0 : Row12 w (.slice sa L.length sc) L := HS0.out
    exact h0.below hbB
  have obT : OB w.heap.size (toldW W1) ep nx (.slice sa L.length sc) kd ky now nx (.slice v1 v2 v3) 0 := by
    have o := OB1.out
    rw [hW1]
    exact ⟨blk_alloc (blk_other o.b0 (p := ⟨w.heap.size + 4, 2, none⟩) (by simp) _) _, blk_alloc (blk_other o.b1 (p := ⟨w.heap.size + 4, 2, none⟩) (by simp) _) _, blk_alloc (blk_other o.b2 (p := ⟨w.heap.size + 4, 2, none⟩) (by simp) _) _,
      blk_alloc (blk_other o.b3 (p := ⟨w.heap.size + 4, 2, none⟩) (by simp) _) _, blk_alloc (blk_set o.b4 2 _) _, blk_alloc (blk_other o.b5 (p := ⟨w.heap.size + 4, 2, none⟩) (by simp) _) _⟩
  have hownT : Own12 (toldW W1) (w.heap.size + 6) (.slice v1 v2 v3) L := by
    rw [hW1]
    exact World.ownsRow.alloc (Owns.other (Owns.mono HO.out (by omega)) (p := ⟨w.heap.size + 4, 2, none⟩) (by simp) _) _
  have hTn : (toldW W1).heap[W1.heap.size]? = some (.cells #[.int .i64 0] 61) := heap_new _ _
  have hTv : (Value.slice v1 v2 v3).ownBlock ≠ some W1.heap.size := by
    intro e'
    have := (Owns.block HO.out W1.heap.size e').2
    omega
  have hbT : Below W1.heap.size W1 (toldW W1) := (Below.refl _ _).alloc (Nat.le_refl _) _
  have hOpen := open1_any w.heap.size ep nx kd ky now (.slice sa L.length sc) (.slice v1 v2 v3) L (toldW W1) hn (hrow.below hbT) obT hownT W1.heap.size (by omega) (by simp [toldW]) hTv
  have hTold := told_any 32 _ (decide (openErr ⟨ep, nx, L⟩ kd ky now = 0)) (openErr ⟨ep, nx, L⟩ kd ky now) (OpenR w.heap.size (toldW W1) W1.heap.size ep nx (.slice sa L.length sc) kd ky now L) W1 (enters_of Tryd.func32 (by kernel_rfl) rfl) (by
    rintro w' ⟨v', _, _, _, h4⟩
    rw [hTn] at h4
    exact ⟨blk_cell h4 0, blk_free h4 0⟩) hOpen
  have hTold2 : Calls Tryd.prog 31 #[.func (.func 32) #[] #[.pointer (some ⟨w.heap.size, 0, none⟩), .pointer (some ⟨w.heap.size + 1, 0, none⟩), .pointer (some ⟨w.heap.size + 2, 0, none⟩), .pointer (some ⟨w.heap.size + 3, 0, none⟩), .pointer (some ⟨w.heap.size + 5, 0, none⟩), .pointer (some ⟨w.heap.size + 4, 0, none⟩)]] W1
      fun e w2 => e = .returned (.int .i64 er) ∧ ∃ v', w2.heap[w.heap.size + 4]? = some (.cells #[.int .i64 ep, .int .i64 C.next, v'] 33) ∧ w2.heap[w.heap.size + 5]? = some (.cells #[.int .i64 di] 3) ∧ Own12 w2 (w.heap.size + 6) v' C.opens ∧ Below w.heap.size w w2 := by
    refine hTold.mono ?_
    rintro e w2 ⟨rfl, w3, ⟨v', o1, o2, o3, o4⟩, rfl⟩
    rw [hTn] at o4
    rw [HDI.out, HCC.out] at o1
    rw [HCC.out] at o2
    rw [HER.out]
    refine ⟨?_, v', blk_other o1.b4 (p := ⟨W1.heap.size, 0, none⟩) (by simp; omega) _, blk_other o1.b5 (p := ⟨W1.heap.size, 0, none⟩) (by simp; omega) _, owns_apart o2 o4 (by decide) _, ?_⟩
    · by_cases h : er = 0 <;> simp [h]
    · exact ((hbB.trans (hbT.mono (by omega))).trans o3).setCell (p := ⟨W1.heap.size, 0, none⟩) (by simp; omega) _
  have HT := hid hTold2
  have HW1 := hid hW1
  clear hTold hOpen hTold2 obT hownT hTn hTv hbT hrow hbB hs1 hz1 hzz
  go_wp2_with fail
  subst hW1
  refine HT.out.mono ?_
  rintro e w2 ⟨rfl, v', c4, c5, hown, hbl⟩
  obtain ⟨y1, y2, y3, rfl⟩ := hown.shape
  obtain ⟨p0', p1', p2', pf', l4'⟩ := blk3 c4
  obtain ⟨q0', qf', l5'⟩ := blk1 c5
  have C4 := hid c4
  have C5 := hid c5
  have HO2 := hid hown
  clear c4 c5 hown p0 p1 p2 pf l4
  go_wp2
  go_region
  all_goals go_wp2
  refine bodyPost_ret (res_calls_two (b := w.heap.size + 4) (d := w.heap.size + 5) (x := .int .i64 ep) (y := .int .i64 C.next) (z := .slice y1 y2 y3) (u := .int .i64 di) rfl rfl rfl rfl ?_ ?_) rfl ⟨.slice y1 y2 y3, rfl, ?_, ?_⟩
  · exact blk_other (blk_set (blk_set (blk_set C4.out 0 _) 1 _) 2 _) (p := ⟨w.heap.size + 5, 0, none⟩) (by simp) _
  · exact blk_set (blk_other (blk_other (blk_other C5.out (p := ⟨w.heap.size + 4, 0, none⟩) (by simp) _) (p := ⟨w.heap.size + 4, 1, none⟩) (by simp) _) (p := ⟨w.heap.size + 4, 2, none⟩) (by simp) _) 0 _
  · exact Owns.mono ((((HO2.out.other (p := ⟨w.heap.size + 4, 0, none⟩) (by simp) _).other (p := ⟨w.heap.size + 4, 1, none⟩) (by simp) _).other (p := ⟨w.heap.size + 4, 2, none⟩) (by simp) _).other (p := ⟨w.heap.size + 5, 0, none⟩) (by simp) _) (by omega)
  · exact ((((hbl.setCell (p := ⟨w.heap.size + 4, 0, none⟩) (by simp) _).setCell (p := ⟨w.heap.size + 4, 1, none⟩) (by simp) _).setCell (p := ⟨w.heap.size + 4, 2, none⟩) (by simp) _).setCell (p := ⟨w.heap.size + 5, 0, none⟩) (by simp) _).drew
end Go.Proofs.YtljmhmdpihpafaaDoor
