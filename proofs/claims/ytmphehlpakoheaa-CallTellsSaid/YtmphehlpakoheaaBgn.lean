/- A part of the proofs about open calls: contracts of functions, or plain facts that they want. -/
import Derived.Test.YtmphehlpakoheaaKpt
namespace Go.Proofs.Ytmphehlpakoheaa
open Go.RowKit Go.Shelf

theorem res_calls_int {fn : Func} {tmps : Array Value} {r q : Tmp} {b : Nat} {x y z u : Value} {W : World} (hres : fn.results = #[.cell r 24, .tmp q]) (h : tmps.getD r undef = .pointer (some ⟨b, 0, none⟩)) (hq : tmps.getD q undef = u) (hb : W.heap[b]? = some (.cells #[x, y, z] 24)) :
    (results fn tmps).run Try.prog W = .ok (.tuple #[.agg #[x, y, z], u]) W := by
  obtain ⟨k0, k1, k2, _, _⟩ := blk3 hb
  rw [Array.getD_eq_getD_getElem?] at h hq
  simp [results, hres, go_sem, h, hq, k0, k1, k2]

def beginV (epoch : Int) : Int × Int × Int := if epoch < 0 ∨ 524288 < epoch then (0, 0, 2) else (epoch, 1, 0)

set_option maxHeartbeats 1000000 in
theorem begin_any (epoch : Int) (w : World) :
    Calls Try.prog 18 #[.int .i64 epoch] w fun e w' => e = .returned (.tuple #[calls (beginV epoch).1 (beginV epoch).2.1 (.slice none 0 0), .int .i64 (beginV epoch).2.2]) ∧ Below w.heap.size w w' := by
  unfold calls
  by_cases h1 : epoch < 0
  · have e0 : beginV epoch = (0, 0, 2) := by simp [beginV, h1]
    rw [e0]
    have d1 : decide (epoch < 0) = true := by simpa using h1
    go_enter Try.func18, Try.ntmps18
    go_wp2
    refine bodyPost_ret (res_calls_int rfl rfl rfl (heap_new w _)) rfl ⟨rfl, (Below.refl _ _).alloc (Nat.le_refl _) _⟩
  · by_cases h2 : 524288 < epoch
    · have e0 : beginV epoch = (0, 0, 2) := by simp [beginV, h2]
      rw [e0]
      have d1 : decide (epoch < 0) = false := by simpa using h1
      have d2 : decide (524288 < epoch) = true := by simpa using h2
      go_enter Try.func18, Try.ntmps18
      go_wp2
      refine bodyPost_ret (res_calls_int rfl rfl rfl (heap_new w _)) rfl ⟨rfl, (Below.refl _ _).alloc (Nat.le_refl _) _⟩
    · have e0 : beginV epoch = (epoch, 1, 0) := by simp [beginV, h1, h2]
      rw [e0]
      have d1 : decide (epoch < 0) = false := by simpa using h1
      have d2 : decide (524288 < epoch) = false := by simpa using h2
      go_enter Try.func18, Try.ntmps18
      go_wp2
      refine bodyPost_ret (res_calls_int rfl rfl rfl (heap_new w _)) rfl ⟨rfl, (Below.refl _ _).alloc (Nat.le_refl _) _⟩

/-- Are calls the same? -/
def sameV (a b : CallsV) : Bool := decide (a.epoch = b.epoch) && decide (a.next = b.next) && decide (a.opens = b.opens)

set_option maxHeartbeats 1000000 in
theorem same_any (ep nx ep' nx' : Int) (s s' : Value) (L M : List CallV) (w : World) (hs : Row12 w s L) (hs' : Row12 w s' M) (hL : L.length ≤ 1000000) (hM : M.length ≤ 1000000) :
    Calls Try.prog 25 #[calls ep nx s, calls ep' nx' s'] w fun e w' => e = .returned (.bool (sameV ⟨ep, nx, L⟩ ⟨ep', nx', M⟩)) ∧ Below w.heap.size w w' := by
  have hB : Below w.heap.size w ((w.alloc (.cells #[.int .i64 ep, .int .i64 nx, s] 24)).alloc (.cells #[.int .i64 ep', .int .i64 nx', s'] 24)) := ((Below.refl _ _).alloc (Nat.le_refl _) _).alloc (by simp) _
  have HB := hid hB
  have HE := hid (equal_any s s' L M _ (hs.below hB) (hs'.below hB) hL hM)
  clear hB
  unfold calls
  by_cases h1 : ep = ep'
  · subst h1
    by_cases h2 : nx = nx'
    · subst h2
      have hsv : sameV ⟨ep, nx, L⟩ ⟨ep, nx, M⟩ = decide (L = M) := by simp [sameV]
      rw [hsv]
      clear hs hs' hsv
      have d1 : (ep == ep) = true := by simp
      have d2 : (nx == nx) = true := by simp
      generalize decide (L = M) = bb at HE ⊢
      go_enter Try.func25, Try.ntmps25
      go_wp2_with fail
      refine HE.out.mono ?_
      rintro e w1 ⟨rfl, hb⟩
      go_wp2
      go_ret
      exact ⟨rfl, HB.out.trans (hb.mono HB.out.size)⟩
    · have hsv : sameV ⟨ep, nx, L⟩ ⟨ep, nx', M⟩ = false := by simp [sameV, h2]
      rw [hsv]
      clear hs hs' hsv
      have d1 : (ep == ep) = true := by simp
      have d2 : (nx == nx') = false := by simpa using h2
      go_enter Try.func25, Try.ntmps25
      go_wp2
      go_ret
      exact ⟨rfl, HB.out⟩
  · have hsv : sameV ⟨ep, nx, L⟩ ⟨ep', nx', M⟩ = false := by simp [sameV, h1]
    rw [hsv]
    clear hs hs' hsv
    have d1 : (ep == ep') = false := by simpa using h1
    go_enter Try.func25, Try.ntmps25
    go_wp2
    go_ret
    exact ⟨rfl, HB.out⟩
end Go.Proofs.Ytmphehlpakoheaa
