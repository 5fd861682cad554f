/- A part of the proofs about open calls: contracts of functions, or plain facts that they want. -/
import Derived.Test.YtmphehlpakoheaaCal
namespace Go.Proofs.Ytmphehlpakoheaa
open Go.RowKit Go.Shelf

/-- What Late leaves. -/
def lateL (c : CallsV) (now tm : Int) : List CallV := if numB now && numB tm then keptL c (fun x => decide (now < wrap64 (x.sent + tm))) else c.opens

theorem keptL_all (c : CallsV) : keptL c (fun _ => true) = c.opens := by unfold keptL; split <;> simp

set_option maxHeartbeats 1000000 in
theorem late_any (ep nx now tm : Int) (s : Value) (L : List CallV) (w : World) (hn : L.length ≤ 1000000) (hs : Row12 w s L) :
    Calls Try.prog 23 #[calls ep nx s, .int .i64 now, .int .i64 tm] w fun e w' => ∃ v, e = .returned (calls ep nx v) ∧ Own12 w' w.heap.size v (lateL ⟨ep, nx, L⟩ now tm) ∧ Below w.heap.size w w' := by
  have hmf := mkfunc
  obtain ⟨W, hW⟩ : ∃ W, W = (((w.alloc (.cells #[.int .i64 ep, .int .i64 nx, s] 24)).alloc (.cells #[.int .i64 now] 3)).alloc (.cells #[.int .i64 tm] 3)).alloc (.cells #[.int .i64 0, .int .i64 0, .slice none 0 0] 24) := ⟨_, rfl⟩
  have hB : Below w.heap.size w W := by rw [hW]; exact ((((Below.refl _ _).alloc (Nat.le_refl _) _).alloc (by simp) _).alloc (by simp; omega) _).alloc (by simp; omega) _
  have q0 : W.heap[w.heap.size]? = some (.cells #[.int .i64 ep, .int .i64 nx, s] 24) := by rw [hW]; exact blk_alloc (blk_alloc (blk_alloc (heap_new _ _) _) _) _
  have q1 : W.heap[w.heap.size + 1]? = some (.cells #[.int .i64 now] 3) := by rw [hW]; exact blk_alloc (blk_alloc (heap_new2 _ _ _) _) _
  have q2 : W.heap[w.heap.size + 2]? = some (.cells #[.int .i64 tm] 3) := by rw [hW]; exact blk_alloc (by simpa using heap_new2 (w.alloc _) _ _) _
  have q3 : W.heap[w.heap.size + 3]? = some (.cells #[.int .i64 0, .int .i64 0, .slice none 0 0] 24) := by rw [hW]; simpa using heap_new2 ((w.alloc _).alloc _) _ _
  have hz : W.heap.size = w.heap.size + 4 := by rw [hW]; simp
  have hT := told_below 41 #[.pointer (some ⟨w.heap.size + 1, 0, none⟩), .pointer (some ⟨w.heap.size + 2, 0, none⟩)] (numB now && numB tm) 2 W (enters_of Try.func41 (by kernel_rfl) rfl)
    (late1_any (w.heap.size + 1) (w.heap.size + 2) now tm (toldW W) (blk_cell (blk_alloc q1 _) 0) (blk_cell (blk_alloc q2 _) 0))
  have hK1 : ∀ w1, Below W.heap.size W w1 → Calls Try.prog 28 #[calls ep nx s, .func (.func 42) #[] #[]] w1 fun e w' => ∃ v, e = .returned (calls ep nx v) ∧ Own12 w' w1.heap.size v L ∧ Below w1.heap.size w1 w' := by
    intro w1 h1
    refine (kept_any ep nx s L 42 #[] (fun _ => true) w1 hn (hs.below (hB.trans (h1.mono (by omega)))) (enters_of Try.func42 (by kernel_rfl) rfl) (fun W' x _ => late2_any x W')).mono ?_
    rintro e w' ⟨v, h, ho, hb⟩
    rw [keptL_all] at ho
    exact ⟨v, h, ho, hb⟩
  have hK2 : ∀ w1, Below W.heap.size W w1 → Calls Try.prog 28 #[calls ep nx s, .func (.func 43) #[] #[.pointer (some ⟨w.heap.size + 1, 0, none⟩), .pointer (some ⟨w.heap.size + 2, 0, none⟩)]] w1 fun e w' => ∃ v, e = .returned (calls ep nx v) ∧ Own12 w' w1.heap.size v (keptL ⟨ep, nx, L⟩ (fun x => decide (now < wrap64 (x.sent + tm)))) ∧ Below w1.heap.size w1 w' := by
    intro w1 h1
    have hz1 := h1.size
    exact kept_any ep nx s L 43 _ (fun x => decide (now < wrap64 (x.sent + tm))) w1 hn (hs.below (hB.trans (h1.mono (by omega)))) (enters_of Try.func43 (by kernel_rfl) rfl)
      (fun W' x hO => late3_any x _ _ now tm W' ((hO.cell 0 (by show _ < _; omega) (by omega)).trans (blk_cell (blk_below q1 h1 (by omega)) 0)) ((hO.cell 0 (by show _ < _; omega) (by omega)).trans (blk_cell (blk_below q2 h1 (by omega)) 0)))
  have hfin : ∀ (w1 w2 : World) (v1 : Option Addr) (v2 v3 : Nat) (R : List CallV), Below W.heap.size W w1 → Below w1.heap.size w1 w2 → Own12 w2 w1.heap.size (.slice v1 v2 v3) R →
      (∃ v, Ending.returned (.agg #[.int .i64 ep, .int .i64 nx, .slice v1 v2 v3]) = .returned (calls ep nx v) ∧ Own12 (((w2.setCell ⟨w.heap.size + 3, 0, none⟩ (.int .i64 ep)).setCell ⟨w.heap.size + 3, 1, none⟩ (.int .i64 nx)).setCell ⟨w.heap.size + 3, 2, none⟩ (.slice v1 v2 v3)) w.heap.size v R ∧
        Below w.heap.size w (((w2.setCell ⟨w.heap.size + 3, 0, none⟩ (.int .i64 ep)).setCell ⟨w.heap.size + 3, 1, none⟩ (.int .i64 nx)).setCell ⟨w.heap.size + 3, 2, none⟩ (.slice v1 v2 v3))) := by
    intro w1 w2 v1 v2 v3 R h1 h2 ho
    have hz1 := h1.size
    refine ⟨_, rfl, Owns.mono (((ho.other (p := ⟨w.heap.size + 3, 0, none⟩) (by simp; omega) _).other (p := ⟨w.heap.size + 3, 1, none⟩) (by simp; omega) _).other (p := ⟨w.heap.size + 3, 2, none⟩) (by simp; omega) _) (by omega), ?_⟩
    exact ((((hB.trans (h1.mono (by omega))).trans (h2.mono (by omega))).setCell (p := ⟨w.heap.size + 3, 0, none⟩) (by simp) _).setCell (p := ⟨w.heap.size + 3, 1, none⟩) (by simp) _).setCell (p := ⟨w.heap.size + 3, 2, none⟩) (by simp) _
  have HT := hid hT
  have HK1 := hid hK1
  have HK2 := hid hK2
  have FIN := hid hfin
  have Q0 := hid q0
  have Q3 := hid q3
  have HZ := hid hz
  clear hT hK1 hK2 hfin q0 q1 q2 q3 hz hs hB
  obtain ⟨bb, hbb⟩ : ∃ bb, (numB now && numB tm) = bb := ⟨_, rfl⟩
  have hl : lateL ⟨ep, nx, L⟩ now tm = if bb then keptL ⟨ep, nx, L⟩ (fun x => decide (now < wrap64 (x.sent + tm))) else L := by unfold lateL; rw [hbb]
  rw [hl]
  rw [hbb] at HT
  clear hl hbb
  unfold calls at HK1 HK2 FIN ⊢
  go_enter Try.func23, Try.ntmps23
  go_wp2_with fail
  subst hW
  refine HT.out.mono ?_
  rintro e w1 ⟨rfl, hb1⟩
  have hz1 := hb1.size
  have hzz := HZ.out
  obtain ⟨k0, k1, k2, kf, kl⟩ := blk3 (blk_below Q0.out hb1 (by omega))
  have P3 := hid (blk_below Q3.out hb1 (by omega))
  clear hzz
  cases bb with
  | false =>
    simp only [Bool.false_eq_true, if_false]
    go_wp2_with fail
    refine (HK1.out w1 hb1).mono ?_
    rintro e w2 ⟨v, rfl, hown, hb2⟩
    obtain ⟨v1, v2, v3, rfl⟩ := hown.shape
    have hlt : w.heap.size + 3 < w1.heap.size := blk_lt P3.out
    obtain ⟨m0, m1, m2, mf, ml⟩ := blk3 (blk_below P3.out hb2 hlt)
    have HO := hid hown
    clear hown
    go_wp2
    refine bodyPost_ret (res_calls rfl rfl (blk_set (blk_set (blk_set (blk_below P3.out hb2 hlt) 0 _) 1 _) 2 _)) rfl ?_
    exact FIN.out w1 w2 v1 v2 v3 _ hb1 hb2 HO.out
  | true =>
    simp only [if_true]
    go_wp2_with fail
    refine (HK2.out w1 hb1).mono ?_
    rintro e w2 ⟨v, rfl, hown, hb2⟩
    obtain ⟨v1, v2, v3, rfl⟩ := hown.shape
    have hlt : w.heap.size + 3 < w1.heap.size := blk_lt P3.out
    obtain ⟨m0, m1, m2, mf, ml⟩ := blk3 (blk_below P3.out hb2 hlt)
    have HO := hid hown
    clear hown
    go_wp2
    refine bodyPost_ret (res_calls rfl rfl (blk_set (blk_set (blk_set (blk_below P3.out hb2 hlt) 0 _) 1 _) 2 _)) rfl ?_
    exact FIN.out w1 w2 v1 v2 v3 _ hb1 hb2 HO.out

end Go.Proofs.Ytmphehlpakoheaa
