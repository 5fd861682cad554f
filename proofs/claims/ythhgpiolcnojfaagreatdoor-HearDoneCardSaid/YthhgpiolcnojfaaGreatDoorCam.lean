import Derived.Test.YthhgpiolcnojfaaGreatDoorIsm
import Derived.Test.YthhgpiolcnojfaaGreatDoorClg
import Derived.Test.YthhgpiolcnojfaaGreatDoorItf
/- A part of the proofs about open calls: contracts of functions, or plain facts that they want. -/
namespace Go.Proofs.YthhgpiolcnojfaaGreatDoor
open Go.RowKit Go.Shelf

end Go.Proofs.YthhgpiolcnojfaaGreatDoor

/- A part of the proofs about open calls: contracts of functions, or plain facts that they want. -/
namespace Go.Proofs.YthhgpiolcnojfaaGreatDoor
open Go.RowKit Go.Shelf

end Go.Proofs.YthhgpiolcnojfaaGreatDoor

/- A part of the proofs about open calls: contracts of functions, or plain facts that they want. -/
namespace Go.Proofs.YthhgpiolcnojfaaGreatDoor
open Go.RowKit Go.Shelf

theorem res_calls {fn : Func} {tmps : Array Value} {r : Tmp} {b : Nat} {x y z : Value} {W : World} (hres : fn.results = #[.cell r 33]) (h : tmps.getD r undef = .pointer (some ⟨b, 0, none⟩)) (hb : W.heap[b]? = some (.cells #[x, y, z] 33)) :
  (results fn tmps).run Tryz.prog W = .ok (.agg #[x, y, z]) W := by
 obtain ⟨k0, k1, k2, _, _⟩ := blk3 hb
 rw [Array.getD_eq_getD_getElem?] at h
 simp [results, hres, go_sem, h, k0, k1, k2]

def keptL (c : CallsV) (f : CallV → Bool) : List CallV := if crightB c then c.opens.filter f else c.opens

set_option maxHeartbeats 1000000 in
set_option maxRecDepth 10000 in
theorem kept_any (ep nx : Int) (s : Value) (L : List CallV) (gs : Nat) (cap : Array Value) (f : CallV → Bool) (w : World) (hn : L.length ≤ 1000000) (hs : Row12 w s L)
  (he : ∀ args w, (callFunc gs args).run Tryz.prog w = .ok (.enter gs args) w)
  (hso : ∀ (W' : World) (x : CallV), On (fun k => k < w.heap.size) w W' → Calls Tryz.prog gs (#[encS x] ++ cap) W' fun e W'' => e = .returned (.bool (f x)) ∧ Below W'.heap.size W' W'') :
  Calls Tryz.prog 72 #[calls ep nx s, .func (.func gs) #[] cap] w fun e w' => ∃ v, e = .returned (calls ep nx v) ∧ Own12 w' w.heap.size v (keptL ⟨ep, nx, L⟩ f) ∧ Below w.heap.size w w' := by
 have HR := fun W h => hid (cright_any ep nx s L W hn (hs.below h))
 have HSO := hid hso
 have HS := hid hs
 clear hso
 obtain ⟨bb, hbb⟩ : ∃ bb, crightB ⟨ep, nx, L⟩ = bb := ⟨_, rfl⟩
 have hk : keptL ⟨ep, nx, L⟩ f = if bb then L.filter f else L := by rw [← hbb]; rfl
 rw [hk]
 have HBB := hid hbb
 clear hk hbb
 have hB2 : Below w.heap.size w ((w.alloc (.cells #[.int .i64 ep, .int .i64 nx, s] 33)).alloc (.cells #[.int .i64 0, .int .i64 0, .slice none 0 0] 33)) := ((Below.refl _ _).alloc (Nat.le_refl _) _).alloc (by simp) _
 have HR2 := HR _ hB2
 rw [HBB.out] at HR2
 clear HR hs
 unfold calls
 go_enter Tryz.func72, Tryz.ntmps72
 go_wp2_with fail
 refine HR2.out.mono ?_
 rintro e w1 ⟨rfl, hb1⟩
 have hz1 := hb1.size
 simp only [World.size_alloc] at hz1
 have p1 := hid (blk_below (blk_alloc (heap_new w (.cells #[.int .i64 ep, .int .i64 nx, s] 33)) (.cells #[.int .i64 0, .int .i64 0, .slice none 0 0] 33)) hb1 (by simp; omega))
 have p2 := hid (blk_below (heap_new2 w (.cells #[.int .i64 ep, .int .i64 nx, s] 33) (.cells #[.int .i64 0, .int .i64 0, .slice none 0 0] 33)) hb1 (by simp))
 have hB3 : Below w.heap.size w w1 := hB2.trans (hb1.mono hB2.size)
 have n1 : ¬ (w.heap.size = w.heap.size + 1) := by omega
 have fin : ∀ (w2 : World) (v1 : Option Addr) (v2 v3 : Nat) (R : List CallV), Below w1.heap.size w1 w2 → Own12 w2 w1.heap.size (.slice v1 v2 v3) R →
   ∃ v, Ending.returned (calls ep nx (.slice v1 v2 v3)) = .returned (calls ep nx v) ∧ Own12 ((((w2.setCell ⟨w.heap.size, 2, none⟩ (.slice v1 v2 v3)).setCell ⟨w.heap.size + 1, 0, none⟩ (.int .i64 ep)).setCell ⟨w.heap.size + 1, 1, none⟩ (.int .i64 nx)).setCell ⟨w.heap.size + 1, 2, none⟩ (.slice v1 v2 v3)) w.heap.size v R ∧
    Below w.heap.size w ((((w2.setCell ⟨w.heap.size, 2, none⟩ (.slice v1 v2 v3)).setCell ⟨w.heap.size + 1, 0, none⟩ (.int .i64 ep)).setCell ⟨w.heap.size + 1, 1, none⟩ (.int .i64 nx)).setCell ⟨w.heap.size + 1, 2, none⟩ (.slice v1 v2 v3)) := by
  intro w2 v1 v2 v3 R h1 h2
  refine ⟨_, rfl, Owns.mono ((((h2.other (p := ⟨w.heap.size, 2, none⟩) (by simp; omega) _).other (p := ⟨w.heap.size + 1, 0, none⟩) (by simp; omega) _).other (p := ⟨w.heap.size + 1, 1, none⟩) (by simp; omega) _).other (p := ⟨w.heap.size + 1, 2, none⟩) (by simp; omega) _) (by omega), ?_⟩
  exact ((((hB3.trans (h1.mono (by omega))).setCell (p := ⟨w.heap.size, 2, none⟩) (by simp) _).setCell (p := ⟨w.heap.size + 1, 0, none⟩) (by simp) _).setCell (p := ⟨w.heap.size + 1, 1, none⟩) (by simp) _).setCell (p := ⟨w.heap.size + 1, 2, none⟩) (by simp) _
 have FIN := hid fin
 clear fin
 obtain ⟨k0, k1, k2, kf, kl⟩ := blk3 p1.out
 cases bb with
 | false =>
  have HCL := hid (clone_any s L w1 hn (HS.out.below hB3))
  go_wp2_with fail
  refine HCL.out.mono ?_
  rintro e w2 ⟨v, rfl, hown, hb2⟩
  obtain ⟨v1, v2, v3, rfl⟩ := hown.shape
  clear k0 k1 k2 kf kl
  obtain ⟨k0, k1, k2, kf, kl⟩ := blk3 (blk_below p1.out hb2 (by omega))
  obtain ⟨m0, m1, m2, mf, ml⟩ := blk3 (blk_below p2.out hb2 (by omega))
  have HO := hid hown
  clear hown
  go_wp2
  refine bodyPost_ret (res_calls rfl rfl (blk_set (blk_set (blk_set (blk_other (blk_below p2.out hb2 (by omega)) (p := ⟨w.heap.size, 2, none⟩) (by simp) _) 0 _) 1 _) 2 _)) rfl ?_
  exact FIN.out w2 v1 v2 v3 L hb2 HO.out
 | true =>
  go_wp2_with fail
  refine (those_any ep nx s gs cap w1).mono ?_
  rintro e w2 ⟨rfl, hw2⟩
  have hb2 : Below w1.heap.size w1 w2 := by rw [hw2]; exact ((Below.refl _ _).alloc (Nat.le_refl _) _).alloc (by simp) _
  have q1 : w2.heap[w1.heap.size]? = some (.cells #[.int .i64 ep, .int .i64 nx, s] 33) := by rw [hw2]; exact blk_alloc (heap_new _ _) _
  have q2 : w2.heap[w1.heap.size + 1]? = some (.cells #[.func (.func gs) #[] cap] 130) := by rw [hw2]; exact heap_new2 _ _ _
  have hz2 : w2.heap.size = w1.heap.size + 2 := by rw [hw2]; simp
  have Q1 := hid q1
  have Q2 := hid q2
  have HZ2 := hid hz2
  clear q1 q2 hz2 hw2 k0 k1 k2 kf kl
  have hB4 : Below w.heap.size w w2 := hB3.trans (hb2.mono (by omega))
  have hO4 : On (fun k => k < w.heap.size) w w2 := On.of_below hB4 (fun k h => h)
  have HSTOPS := hid (those_stops 3 (by omega) w1.heap.size (w1.heap.size + 1) gs (fun k => k < w2.heap.size) cap f s L w2 he (fun k h => h)
   (fun W' x hO => HSO.out W' x (hO4.trans (hO.mono (fun k h => Nat.lt_of_lt_of_le h hO4.size))))
   (by have := HZ2.out; omega) (by have := HZ2.out; omega) (blk_cell Q1.out 2) (blk_cell Q2.out 0) (HS.out.below hB4) (fun b off l c hv hl => by
    rcases HS.out.below hB4 with ⟨a', c', he', _, _, _⟩ | ⟨_, b', off', c', he', _, _, hb', _⟩
    ·rw [he'] at hv; cases hv; omega
    ·rw [he'] at hv; cases hv; exact hb'))
  have HCOL := hid (collect_any 83 #[.pointer (some ⟨w1.heap.size, 0, none⟩), .pointer (some ⟨w1.heap.size + 1, 0, none⟩)] (fun k => k < w2.heap.size) _ _ L.length w2 hn (fun k h => h) (enters_of Tryz.func83 (by kernel_rfl) rfl) HSTOPS.out)
  clear HSTOPS
  go_wp2_with fail
  refine HCOL.out.mono ?_
  rintro e w3 ⟨v, xs, rfl, rfl, hown, hb3⟩
  obtain ⟨v1, v2, v3, rfl⟩ := hown.shape
  have hz12 := hb2.size
  obtain ⟨k0, k1, k2, kf, kl⟩ := blk3 (blk_below (blk_below p1.out hb2 (by omega)) hb3 (by omega))
  obtain ⟨m0, m1, m2, mf, ml⟩ := blk3 (blk_below (blk_below p2.out hb2 (by omega)) hb3 (by omega))
  have HO := hid hown
  clear hown
  go_wp2
  refine bodyPost_ret (res_calls rfl rfl (blk_set (blk_set (blk_set (blk_other (blk_below (blk_below p2.out hb2 (by omega)) hb3 (by omega)) (p := ⟨w.heap.size, 2, none⟩) (by simp) _) 0 _) 1 _) 2 _)) rfl ?_
  exact FIN.out w3 v1 v2 v3 (L.filter f) (hb2.trans (hb3.mono hz12)) (HO.out.mono hz12)
end Go.Proofs.YthhgpiolcnojfaaGreatDoor

/- A part of the proofs about open calls: contracts of functions, or plain facts that they want. -/
namespace Go.Proofs.YthhgpiolcnojfaaGreatDoor
open Go.RowKit Go.Shelf

set_option maxHeartbeats 400000 in
theorem close1_any (x : CallV) (p : Nat) (id : Int) (W : World) (h : W.cell? ⟨p, 0, none⟩ = some (.int .i64 id)) :
  Calls Tryz.prog 73 (#[encS x] ++ #[.pointer (some ⟨p, 0, none⟩)]) W fun e W' => e = .returned (.bool (x.id != id)) ∧ Below W.heap.size W W' := by
 have hp := lt_of_cell h
 simp only [encS, List.append_toArray, List.nil_append, List.cons_append]
 go_enter Tryz.func73, Tryz.ntmps73
 go_wp2
 go_ret
 exact ⟨rfl, (Below.refl _ _).alloc (Nat.le_refl _) _⟩

set_option maxHeartbeats 1000000 in
theorem close_any (ep nx id : Int) (s : Value) (L : List CallV) (w : World) (hn : L.length ≤ 1000000) (hs : Row12 w s L) :
  Calls Tryz.prog 39 #[calls ep nx s, .int .i64 id] w fun e w' => ∃ v, e = .returned (calls ep nx v) ∧ Own12 w' w.heap.size v (keptL ⟨ep, nx, L⟩ (fun x => x.id != id)) ∧ Below w.heap.size w w' := by
 have hmf := mkfunc
 obtain ⟨W, hW⟩ : ∃ W, W = ((w.alloc (.cells #[.int .i64 ep, .int .i64 nx, s] 33)).alloc (.cells #[.int .i64 id] 3)).alloc (.cells #[.int .i64 0, .int .i64 0, .slice none 0 0] 33) := ⟨_, rfl⟩
 have hB : Below w.heap.size w W := by rw [hW]; exact (((Below.refl _ _).alloc (Nat.le_refl _) _).alloc (by simp) _).alloc (by simp; omega) _
 have q1 : W.heap[w.heap.size + 1]? = some (.cells #[.int .i64 id] 3) := by rw [hW]; exact blk_alloc (heap_new2 _ _ _) _
 have q2 : W.heap[w.heap.size + 2]? = some (.cells #[.int .i64 0, .int .i64 0, .slice none 0 0] 33) := by rw [hW]; simpa using heap_new2 (w.alloc _) _ _
 have hz : W.heap.size = w.heap.size + 3 := by rw [hW]; simp
 have hK := kept_any ep nx s L 73 #[.pointer (some ⟨w.heap.size + 1, 0, none⟩)] (fun x => x.id != id) W hn (hs.below hB) (enters_of Tryz.func73 (by kernel_rfl) rfl)
  (fun W' x hO => close1_any x _ id W' ((hO.cell 0 (by show _ < _; omega) (by omega)).trans (blk_cell q1 0)))
 have HK := hid hK
 have Q2 := hid q2
 have HZ := hid hz
 have HB := hid hB
 clear hK q1 q2 hz hB hs
 unfold calls at HK ⊢
 go_enter Tryz.func39, Tryz.ntmps39
 go_wp2_with fail
 subst hW
 refine HK.out.mono ?_
 rintro e w1 ⟨v, rfl, hown, hb1⟩
 obtain ⟨v1, v2, v3, rfl⟩ := hown.shape
 obtain ⟨m0, m1, m2, mf, ml⟩ := blk3 (blk_below Q2.out hb1 (by have := HZ.out; omega))
 have HO := hid hown
 clear hown
 go_wp2
 refine bodyPost_ret (res_calls rfl rfl (blk_set (blk_set (blk_set (blk_below Q2.out hb1 (by have := HZ.out; omega)) 0 _) 1 _) 2 _)) rfl ?_
 have hz := HZ.out
 refine ⟨_, rfl, Owns.mono (((HO.out.other (p := ⟨w.heap.size + 2, 0, none⟩) (by simp) _).other (p := ⟨w.heap.size + 2, 1, none⟩) (by simp) _).other (p := ⟨w.heap.size + 2, 2, none⟩) (by simp) _) (by omega), ?_⟩
 exact (((HB.out.trans (hb1.mono (by omega))).setCell (p := ⟨w.heap.size + 2, 0, none⟩) (by simp) _).setCell (p := ⟨w.heap.size + 2, 1, none⟩) (by simp) _).setCell (p := ⟨w.heap.size + 2, 2, none⟩) (by simp) _
end Go.Proofs.YthhgpiolcnojfaaGreatDoor
