/- Deeds that change a brain's numbers alone. -/
import Derived.Test.YtgcajfglidflnaaGreatDoorClm
namespace Go.Proofs.YtgcajfglidflnaaGreatDoor
open Go.RowKit Go.Shelf
section
variable {base : World} {b : Nat} {B : BrainV} {mv iv kv : Value} {W : World}
set_option maxHeartbeats 1000000 in
theorem d1_any (s : Value) (h : BO base b B mv iv kv W) : Calls Tryz.prog 73 #[.pointer (some ⟨b, 0, none⟩), s] W fun e W' => DeedEnd base b W (bootB B) e W' := by
 have c0 := h.cell 0 (.int .i64 (B.f 0)) rfl
 have f0 := h.free 0
 have hlt := h.lt
 have H := hid h
 clear h
 unfold bootB
 by_cases hq : B.f 0 < 1099511627776
 ·rw [if_pos hq]
  go_enter Tryz.func73, Tryz.ntmps73
  go_wp2
  go_end0
  exact ⟨rfl, ⟨_, _, _, H.out.set 0 _ rfl⟩, (KeepsX.refl _ _).set _ _⟩
 ·rw [if_neg hq]
  go_enter Tryz.func73, Tryz.ntmps73
  go_wp2
  go_end0
  exact ⟨rfl, ⟨_, _, _, H.out⟩, KeepsX.refl _ _⟩
set_option maxHeartbeats 1000000 in
theorem d7_any (s : Value) (h : BO base b B mv iv kv W) : Calls Tryz.prog 87 #[.pointer (some ⟨b, 0, none⟩), s] W fun e W' => DeedEnd base b W (cancelB B) e W' := by
 have c20 := h.cell 20 (.int .u8 (B.f 20)) rfl
 have c24 := h.cell 24 (.bool (B.g 24)) rfl
 have f20 := h.free 20
 have f24 := h.free 24
 have hlt := h.lt
 have H := hid h
 clear h
 go_enter Tryz.func87, Tryz.ntmps87
 go_wp2
 go_end0
 exact ⟨rfl, ⟨_, _, _, (H.out.set (f' := upd B.f 20 3) (g' := B.g) 20 _ rfl).set 24 _ rfl⟩, ((KeepsX.refl _ _).set _ _).set _ _⟩
set_option maxHeartbeats 1000000 in
theorem d8_any (s : Value) (h : BO base b B mv iv kv W) : Calls Tryz.prog 88 #[.pointer (some ⟨b, 0, none⟩), s] W fun e W' => DeedEnd base b W (rollB B) e W' := by
 have c21 := h.cell 21 (.int .i64 (B.f 21)) rfl
 have c22 := h.cell 22 (.int .i64 (B.f 22)) rfl
 have f21 := h.free 21
 have f22 := h.free 22
 have hlt := h.lt
 have H := hid h
 clear h
 go_enter Tryz.func88, Tryz.ntmps88
 go_wp2
 go_end0
 exact ⟨rfl, ⟨_, _, _, H.out.set 22 _ rfl⟩, (KeepsX.refl _ _).set _ _⟩
set_option maxHeartbeats 1000000 in
theorem d10_any (s : Value) (h : BO base b B mv iv kv W) : Calls Tryz.prog 90 #[.pointer (some ⟨b, 0, none⟩), s] W fun e W' => DeedEnd base b W (goB B) e W' := by
 have c23 := h.cell 23 (.int .i64 (B.f 23)) rfl
 have c24 := h.cell 24 (.bool (B.g 24)) rfl
 have f23 := h.free 23
 have f24 := h.free 24
 have hlt := h.lt
 have H := hid h
 clear h
 unfold goB
 cases hq : B.g 24 with
 | true =>
  rw [hq] at c24
  rw [if_pos rfl]
  go_enter Tryz.func90, Tryz.ntmps90
  go_wp2
  go_end0
  exact ⟨rfl, ⟨_, _, _, (H.out.set (f' := B.f) (g' := upd B.g 24 false) 24 _ rfl).set 23 _ rfl⟩, ((KeepsX.refl _ _).set _ _).set _ _⟩
 | false =>
  rw [hq] at c24
  rw [if_neg (by decide)]
  go_enter Tryz.func90, Tryz.ntmps90
  go_wp2
  go_end0
  exact ⟨rfl, ⟨_, _, _, H.out⟩, KeepsX.refl _ _⟩
set_option maxHeartbeats 1000000 in
theorem d11_any (s : Value) (h : BO base b B mv iv kv W) : Calls Tryz.prog 91 #[.pointer (some ⟨b, 0, none⟩), s] W fun e W' => DeedEnd base b W (doneB B) e W' := by
 have c15 := h.cell 15 (.int .i64 (B.f 15)) rfl
 have c20 := h.cell 20 (.int .u8 (B.f 20)) rfl
 have c22 := h.cell 22 (.int .i64 (B.f 22)) rfl
 have c24 := h.cell 24 (.bool (B.g 24)) rfl
 have f15 := h.free 15
 have f20 := h.free 20
 have f22 := h.free 22
 have f24 := h.free 24
 have hlt := h.lt
 have H := hid h
 clear h
 go_enter Tryz.func91, Tryz.ntmps91
 go_wp2
 go_end0
 exact ⟨rfl, ⟨_, _, _, ((H.out.set (f' := upd B.f 20 2) (g' := B.g) 20 _ rfl).set (f' := upd B.f 20 2) (g' := upd B.g 24 false) 24 _ rfl).set 15 _ rfl⟩, (((KeepsX.refl _ _).set _ _).set _ _).set _ _⟩
set_option maxHeartbeats 1000000 in
theorem fail_any (s : Value) (h : BO base b B mv iv kv W) : Calls Tryz.prog 86 #[.pointer (some ⟨b, 0, none⟩), s] W fun e W' => DeedEnd base b W (failB B) e W' := by
 have c13 := h.cell 13 (.int .i64 (B.f 13)) rfl
 have c21 := h.cell 21 (.int .i64 (B.f 21)) rfl
 have c22 := h.cell 22 (.int .i64 (B.f 22)) rfl
 have c26 := h.cell 26 (.int .i64 (B.f 26)) rfl
 have f13 := h.free 13
 have f21 := h.free 21
 have f22 := h.free 22
 have f26 := h.free 26
 have hlt := h.lt
 have H := hid h
 clear h
 unfold failB
 by_cases hq : B.f 13 ≤ wrap64 (B.f 26 + 1)
 ·rw [if_pos hq]
  go_enter Tryz.func86, Tryz.ntmps86
  go_wp2
  go_quiet (fail)
  go_wp2
  go_end0
  exact ⟨rfl, ⟨_, _, _, ((H.out.set (f' := upd B.f 26 (wrap64 (B.f 26 + 1))) (g' := B.g) 26 _ rfl).drew _).set (f' := upd (upd B.f 26 (wrap64 (B.f 26 + 1))) 22 (B.f 21)) (g' := B.g) 22 _ rfl |>.set 26 _ rfl⟩, ((((KeepsX.refl _ _).set _ _).drew _).set _ _).set _ _⟩
 ·rw [if_neg hq]
  go_enter Tryz.func86, Tryz.ntmps86
  go_wp2
  go_quiet (fail)
  go_wp2
  go_end0
  exact ⟨rfl, ⟨_, _, _, (H.out.set (f' := upd B.f 26 (wrap64 (B.f 26 + 1))) (g' := B.g) 26 _ rfl).drew _⟩, ((KeepsX.refl _ _).set _ _).drew _⟩
set_option maxHeartbeats 1000000 in
theorem d9_any (s : Value) (L : List Int) (hs : RowOf 1 encI base s L) (hL : L.length = 1) (h : BO base b B mv iv kv W) : Calls Tryz.prog 89 #[.pointer (some ⟨b, 0, none⟩), s] W fun e W' => DeedEnd base b W (pauseB B (L.getD 0 0)) e W' := by
 obtain ⟨sa, sc, rfl, hs1, hs2, hs3, hop⟩ := hs.open
 obtain ⟨b1, o1, rfl, hb1, hr1⟩ := hop (by omega)
 obtain ⟨x0, hx0⟩ := get_lt (l := L) (k := 0) (by omega)
 have g0 := rowN1 (hr1.below h.bel hb1) hx0
 have e0 : L.getD 0 0 = x0 := by rw [List.getD_eq_getElem?_getD, hx0]; rfl
 simp only [Nat.add_zero] at g0
 have hbw : b1 < W.heap.size := Nat.lt_of_lt_of_le hb1 h.bel.size
 have hLI : (L.length : Int) = 1 := by omega
 have c24 := h.cell 24 (.bool (B.g 24)) rfl
 have c25 := h.cell 25 (.int .i64 (B.f 25)) rfl
 have f24 := h.free 24
 have f25 := h.free 25
 rw [e0]
 have hlt := h.lt
 have H := hid h
 clear h hs hop hr1 hx0 e0
 unfold pauseB
 cases hq : B.g 24 with
 | true =>
  rw [hq] at c24
  rw [if_pos rfl]
  go_enter Tryz.func89, Tryz.ntmps89
  go_wp2
  go_end0
  exact ⟨rfl, ⟨_, _, _, H.out⟩, KeepsX.refl _ _⟩
 | false =>
  rw [hq] at c24
  rw [if_neg (by decide)]
  go_enter Tryz.func89, Tryz.ntmps89
  go_wp2
  go_end0
  exact ⟨rfl, ⟨_, _, _, (H.out.set (f' := B.f) (g' := upd B.g 24 true) 24 _ rfl).set 25 _ rfl⟩, ((KeepsX.refl _ _).set _ _).set _ _⟩
set_option maxHeartbeats 1000000 in
theorem d6_any (s : Value) (L : List Int) (hs : RowOf 1 encI base s L) (hL : L.length = 2) (h : BO base b B mv iv kv W) : Calls Tryz.prog 84 #[.pointer (some ⟨b, 0, none⟩), s] W fun e W' => DeedEnd base b W (startB B (L.getD 0 0) (L.getD 1 0)) e W' := by
 obtain ⟨sa, sc, rfl, hs1, hs2, hs3, hop⟩ := hs.open
 obtain ⟨b1, o1, rfl, hb1, hr1⟩ := hop (by omega)
 obtain ⟨x0, hx0⟩ := get_lt (l := L) (k := 0) (by omega)
 have g0 := rowN1 (hr1.below h.bel hb1) hx0
 have e0 : L.getD 0 0 = x0 := by rw [List.getD_eq_getElem?_getD, hx0]; rfl
 obtain ⟨x1, hx1⟩ := get_lt (l := L) (k := 1) (by omega)
 have g1 := rowN1 (hr1.below h.bel hb1) hx1
 have e1 : L.getD 1 0 = x1 := by rw [List.getD_eq_getElem?_getD, hx1]; rfl
 simp only [Nat.add_zero] at g0
 have hbw : b1 < W.heap.size := Nat.lt_of_lt_of_le hb1 h.bel.size
 have hLI : (L.length : Int) = 2 := by omega
 have c2 := h.cell 2 (.bool (B.g 2)) rfl
 have c15 := h.cell 15 (.int .i64 (B.f 15)) rfl
 have c20 := h.cell 20 (.int .u8 (B.f 20)) rfl
 have c21 := h.cell 21 (.int .i64 (B.f 21)) rfl
 have c22 := h.cell 22 (.int .i64 (B.f 22)) rfl
 have c23 := h.cell 23 (.int .i64 (B.f 23)) rfl
 have c24 := h.cell 24 (.bool (B.g 24)) rfl
 have c25 := h.cell 25 (.int .i64 (B.f 25)) rfl
 have c26 := h.cell 26 (.int .i64 (B.f 26)) rfl
 have f2 := h.free 2
 have f15 := h.free 15
 have f20 := h.free 20
 have f21 := h.free 21
 have f22 := h.free 22
 have f23 := h.free 23
 have f24 := h.free 24
 have f25 := h.free 25
 have f26 := h.free 26
 rw [e0, e1]
 have hlt := h.lt
 have H := hid h
 clear h hs hop hr1 hx0 e0 hx1 e1
 unfold startB
 cases hq : B.g 2 with
 | false =>
  rw [hq] at c2
  rw [if_neg (by simp)]
  go_enter Tryz.func84, Tryz.ntmps84
  go_wp2
  go_end0
  exact ⟨rfl, ⟨_, _, _, H.out⟩, KeepsX.refl _ _⟩
 | true =>
  rw [hq] at c2
  by_cases h20 : B.f 20 = 1
  ·have h20q : (B.f 20 != 1) = false := by simp [h20]
   rw [if_neg (by simp [h20])]
   clear h20
   go_enter Tryz.func84, Tryz.ntmps84
   go_wp2
   go_end0
   exact ⟨rfl, ⟨_, _, _, H.out⟩, KeepsX.refl _ _⟩
  ·have h20q : (B.f 20 != 1) = true := by simp [h20]
   by_cases hx : 1 ≤ x0
   ·rw [if_pos ⟨rfl, h20, hx⟩]
    clear h20
    go_enter Tryz.func84, Tryz.ntmps84
    go_wp2
    go_region
    all_goals
     go_wp2
     go_end0
     refine ⟨rfl, ⟨mv, iv, kv, BO.drew1 ?_⟩, KeepsX.drew1 ?_⟩
     ·exact ((((((H.out.set (f' := upd B.f 20 1) (g' := B.g) 20 _ rfl).set (f' := upd (upd B.f 20 1) 21 (B.f 15)) (g' := B.g) 21 _ rfl).set (f' := upd (upd (upd B.f 20 1) 21 (B.f 15)) 22 x0) (g' := B.g) 22 _ rfl).set (f' := upd (upd (upd (upd B.f 20 1) 21 (B.f 15)) 22 x0) 23 0) (g' := B.g) 23 _ rfl).set (f' := upd (upd (upd (upd B.f 20 1) 21 (B.f 15)) 22 x0) 23 0) (g' := upd B.g 24 false) 24 _ rfl).set (f' := upd (upd (upd (upd (upd B.f 20 1) 21 (B.f 15)) 22 x0) 23 0) 25 x1) (g' := upd B.g 24 false) 25 _ rfl).set 26 _ rfl
     ·exact (((((((KeepsX.refl _ _).set _ _).set _ _).set _ _).set _ _).set _ _).set _ _).set _ _
   ·rw [if_neg (by simp [hx])]
    clear h20
    go_enter Tryz.func84, Tryz.ntmps84
    go_wp2
    go_end0
    exact ⟨rfl, ⟨_, _, _, H.out⟩, KeepsX.refl _ _⟩
end
end Go.Proofs.YtgcajfglidflnaaGreatDoor
