/- duty.ask, duty.Ask, great. -/
import Derived.Test.YtljmhmdpihpafaaDoorAkb
import Derived.Test.YtljmhmdpihpafaaDoorEqu
namespace Go.Proofs.YtljmhmdpihpafaaDoor
open Go.RowKit Go.Shelf
attribute [-go_sem] loadVar
attribute [local go_sem] load_other

theorem ask_any (cs : Array Value) (iv kv : Value) (hcs : BC cs iv kv) (I : List IntentV) (d : DutyV) (id : Int) (w : World) (hl1 : I.length ≤ 1000) (hI : RowOf 4 encIn w iv I) (hok : askOk I d) :
    Calls Tryd.prog 24 #[.agg cs, encDv d, .int .i64 id] w fun e w' => e = .returned (encAv (askV I d id)) ∧ Below w.heap.size w w' := by
  by_cases hk : d.kind = 1
  · obtain ⟨k, x, h1, h2, h3⟩ := hok hk
    obtain ⟨kd, ky⟩ := d
    simp only at hk h2 h3
    subst hk
    have e : askV I ⟨1, ky⟩ id = ⟨1, id, ky, x.version, x.zone, if x.warm then 1 else 0⟩ := by simp [askV, h3]
    rw [e]
    exact ask_launch cs iv kv hcs I ky id w hl1 hI k x h1 h2 _ rfl
  · have e : askV I d id = ⟨d.kind, id, d.key, 0, 0, 0⟩ := by simp [askV, hk]
    rw [e]
    exact ask_other cs d id w hk

/-- A duty of a brain can be asked. -/
theorem askOk_of {I : List IntentV} {K : List KeptV} {d : DutyV} (h : d ∈ dutiesL I K) : askOk I d := by
  intro hk
  rcases List.mem_append.1 h with h | h
  · obtain ⟨x, hx, rfl⟩ := List.mem_map.1 h
    exact tok_find ⟨x, hx, rfl⟩
  · obtain ⟨x, hx, hd⟩ := List.mem_flatMap.1 h
    unfold keptD at hd
    split at hd
    · simp at hd
      subst hd
      rename_i hb
      simp only at hk
      unfold askedK at hk
      split at hk
      · omega
      · split at hk
        · omega
        · split at hk
          · omega
          · split at hk <;> omega
    · cases hd

set_option maxHeartbeats 1000000 in
set_option maxRecDepth 100000 in
theorem great_any (cs : Array Value) (iv kv : Value) (hcs : BC cs iv kv) (ia : Option Addr) (n c : Nat) (ka : Option Addr) (m d : Nat) (hiv : iv = .slice ia n c) (hkv : kv = .slice ka m d) (ep nx : Int) (sa : Option Addr) (l sc : Nat) (w : World) :
    Calls Tryd.prog 6 #[.agg cs, calls ep nx (.slice sa l sc)] w fun e w' => e = .returned (.bool (decide ((40 : Int) < (m : Int)) || (decide ((40 : Int) < (n : Int)) || decide ((60 : Int) < (l : Int))))) ∧ Below w.heap.size w w' := by
  have Z : Below w.heap.size w ((w.alloc (.cells cs 30)).alloc (.cells #[.int .i64 ep, .int .i64 nx, .slice sa l sc] 33)) := ((Below.refl _ _).alloc (Nat.le_refl _) _).alloc (by simp) _
  obtain ⟨-, e1, e2⟩ := hcs
  subst hiv
  subst hkv
  have HZ := hid Z
  clear Z
  unfold calls
  by_cases h1 : 40 < m
  · have d1 : decide ((40 : Int) < (m : Int)) = true := by simp; omega
    rw [d1]
    go_enter Tryd.func6, Tryd.ntmps6
    go_wp2
    go_ret
    exact ⟨rfl, HZ.out⟩
  · have d1 : decide ((40 : Int) < (m : Int)) = false := by simp; omega
    rw [d1]
    by_cases h2 : 40 < n
    · have d2 : decide ((40 : Int) < (n : Int)) = true := by simp; omega
      rw [d2]
      go_enter Tryd.func6, Tryd.ntmps6
      go_wp2
      go_ret
      exact ⟨rfl, HZ.out⟩
    · have d2 : decide ((40 : Int) < (n : Int)) = false := by simp; omega
      rw [d2]
      go_enter Tryd.func6, Tryd.ntmps6
      go_wp2
      go_ret
      exact ⟨rfl, HZ.out⟩

set_option maxHeartbeats 1000000 in
set_option maxRecDepth 100000 in
/-- Ask of what is no duty. -/
theorem asku_none (cs : Array Value) (iv kv : Value) (hcs : BC cs iv kv) (I : List IntentV) (K : List KeptV) (d : DutyV) (id : Int) (w : World) (hl1 : I.length ≤ 1000) (hl2 : K.length ≤ 1000) (hwf : ∀ x ∈ K, in8 x.phase)
    (hA : Asked w) (hI : RowOf 4 encIn w iv I) (hK : RowOf 8 encKp w kv K) (hno : decide (d ∈ dutiesL I K) = false) :
    Calls Tryd.prog 20 #[.agg cs, encDv d, .int .i64 id] w fun e w' => e = .returned (.tuple #[encAv ⟨0, 0, 0, 0, 0, 0⟩, .int .i64 191]) ∧ Below w.heap.size w w' := by
  obtain ⟨W, hW⟩ : ∃ W, W = ((w.alloc (.cells cs 30)).alloc (.cells #[.int .u8 d.kind, .int .i64 d.key] 47)).alloc (.cells #[.int .u8 0, .int .i64 0, .int .i64 0, .int .i64 0, .int .i64 0, .int .i64 0] 52) := ⟨_, rfl⟩
  have hB : Below w.heap.size w W := by rw [hW]; exact (((Below.refl _ _).alloc (Nat.le_refl _) _).alloc (by simp) _).alloc (by simp; omega) _
  have B2 := hid (show W.heap[w.heap.size + 1 + 1]? = some (.cells #[.int .u8 0, .int .i64 0, .int .i64 0, .int .i64 0, .int .i64 0, .int .i64 0] 52) by rw [hW]; simpa using heap_new ((w.alloc (.cells cs 30)).alloc (.cells #[.int .u8 d.kind, .int .i64 d.key] 47)) (.cells #[.int .u8 0, .int .i64 0, .int .i64 0, .int .i64 0, .int .i64 0, .int .i64 0] 52))
  have hz : W.heap.size = w.heap.size + 3 := by rw [hW]; simp
  have hload := (show BB W w.heap.size cs by rw [hW]; exact blk_alloc (blk_alloc (heap_new _ _) _) _).load hcs
  rw [hW] at hload
  have HC := is_any cs iv kv hcs I K d W hl1 hl2 hwf (hA.below hB) (hI.below hB) (hK.below hB)
  rw [hno] at HC
  have HC := hid HC
  have HB := hid hB
  have HW := hid hW
  clear hB hA hI hK hwf hcs hno hW
  unfold encDv at HC ⊢
  go_enter Tryd.func20, Tryd.ntmps20
  go_wp2_with fail
  rw [← HW.out]
  refine HC.out.mono ?_
  rintro e w1 ⟨rfl, hb⟩
  have C2 := hid (blk_below B2.out hb (by omega))
  have HE := hid (HB.out.trans (hb.mono HB.out.size))
  have hz1 := hb.size
  clear hb hload
  obtain ⟨q0, q1, q2, q3, q4, q5, qf, ql⟩ := blk6 C2.out
  go_wp2
  refine bodyPost_ret (show (results _ _).run Tryd.prog _ = _ from ?_) rfl ⟨rfl, six_below HE.out (by omega) _ _ _ _ _ _⟩
  have h6 := six_set C2.out (.int .u8 0) (.int .i64 0) (.int .i64 0) (.int .i64 0) (.int .i64 0) (.int .i64 0)
  obtain ⟨k0, k1, k2, k3, k4, k5, _, _⟩ := blk6 h6
  simp [results, Tryd.f20, go_sem, k0, k1, k2, k3, k4, k5, encAv]
end Go.Proofs.YtljmhmdpihpafaaDoor
