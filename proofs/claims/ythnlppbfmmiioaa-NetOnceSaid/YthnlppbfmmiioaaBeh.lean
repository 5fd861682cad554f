/- A thing put behind a row, if there is room: net.behind. -/
import Derived.Test.YthnlppbfmmiioaaPl
import Derived.Deep.RegionLaw
namespace Go.Proofs.Ythnlppbfmmiioaa
open Go.RowKit Go.Shelf

theorem on_all {w w' : World} {S : Nat → Prop} (h : Below w.heap.size w w') : On S w w' := ⟨h.size, fun k _ hl => h.block k hl⟩

set_option maxHeartbeats 1000000 in
set_option maxRecDepth 100000 in
theorem behindA_full (b : Nat) (va : Option Addr) (vn vc : Nat) (ot : Value) (x : AskV) (w : World) (hb : w.heap[b]? = some (.cells #[.slice va vn vc, ot] 25)) (hl : 60 ≤ vn) (hv : vn ≤ 1000000) :
    Calls Try.prog 26 #[.pointer (some ⟨b, 0, none⟩), aggA x] w fun e w' => e = .returned (.int .i64 110) ∧ Below w.heap.size w w' := by
  obtain ⟨k0, k1, kf, kl⟩ := blk2 hb
  have d1 : decide ((60 : Int) ≤ (vn : Int)) = true := by simp; omega
  clear hb
  unfold aggA
  go_enter Try.func26, Try.ntmps26
  go_wp2
  go_ret
  exact ⟨rfl, (Below.refl _ _).alloc (Nat.le_refl _) _⟩
set_option maxHeartbeats 2000000 in
set_option maxRecDepth 100000 in
theorem behindA_room (b base : Nat) (va : Option Addr) (vn vc : Nat) (ot : Value) (x : AskV) (L : List AskV) (w : World) (hb : w.heap[b]? = some (.cells #[.slice va vn vc, ot] 25)) (hown : OwnA w base (.slice va vn vc) L) (hbb : b < base) (hbw : base ≤ w.heap.size) (hl : L.length < 60) :
    Calls Try.prog 26 #[.pointer (some ⟨b, 0, none⟩), aggA x] w fun e w' => e = .returned (.int .i64 0) ∧ ∃ v', w'.heap[b]? = some (.cells #[v', ot] 25) ∧ OwnA w' base v' (L ++ [x]) ∧ On (Away b 27 w) w w' ∧ Below b w w' := by
  obtain ⟨i0, hi, hz0, hz1, hz2⟩ := info_parts infoA
  obtain ⟨k0, k1, kf, kl⟩ := blk2 hb
  have hvn : vn = L.length := by
    obtain ⟨_, ⟨h1, h2⟩ | ⟨g, cap, cur, h1, _⟩⟩ := hown
    · cases h1; exact h2.symm
    · cases h1; rfl
  subst hvn
  have d1 : decide ((60 : Int) ≤ (L.length : Int)) = false := by simp; omega
  have hll : (L.length : Int) ≤ 60 := by omega
  have hB := hid hb
  have HO := hid hown
  have hw1 : Below w.heap.size w (w.alloc (.cells #[.int .u8 x.kind, .int .i64 x.call, .int .i64 x.a, .int .i64 x.b, .int .i64 x.c, .int .i64 x.d] 27)) := (Below.refl _ _).alloc (Nat.le_refl _) _
  have c1 : L.length + 1 ≤ maxLen := by unfold maxLen; omega
  have c2 : (L.length + 1) * 48 ≤ 140737488355328 := by omega
  have c3 : ∀ o o', base ≤ ((w.alloc o).alloc o').heap.size := fun o o' => by simp; omega
  have HC3 := hid c3
  clear hb hown c3 hw1
  unfold aggA
  go_enter Try.func26, Try.ntmps26
  go_wp2_with fail
  obtain ⟨wo, hwo⟩ : ∃ wo : World, wo = w.alloc (.cells #[.int .u8 x.kind, .int .i64 x.call, .int .i64 x.a, .int .i64 x.b, .int .i64 x.c, .int .i64 x.d] 27) := ⟨_, rfl⟩
  have hq : Below w.heap.size w wo := by rw [hwo]; exact (Below.refl _ _).alloc (Nat.le_refl _) _
  have hx : wo.heap[w.heap.size]? = some (.cells #[.int .u8 x.kind, .int .i64 x.call, .int .i64 x.a, .int .i64 x.b, .int .i64 x.c, .int .i64 x.d] 27) := by rw [hwo]; exact heap_new w _
  have hs : wo.heap.size = w.heap.size + 1 := by rw [hwo]; simp
  have X0 := hid hx
  have HQ := hid hq
  have HS := hid hs
  obtain ⟨x0, x1, x2, x3, x4, x5, xf, xl⟩ := blk6 hx
  have B1 := hid (blk_below hB.out hq (blk_lt hB.out))
  have O1 : Hid (OwnA (wo.drew.alloc (.cells #[.int .u8 x.kind, .int .i64 x.call, .int .i64 x.a, .int .i64 x.b, .int .i64 x.c, .int .i64 x.d] 27)) base (.slice va L.length vc) L) := hid (World.ownsRow.alloc (Owns.below (Owns.below HO.out hq) (below_drewN (Below.refl _ _) 1)) _)
  rw [← hwo]
  clear hwo hq hx hs k0 k1 kf kl
  obtain ⟨k0, k1, kf, kl⟩ := blk2 B1.out
  go_region_law (refine step_append_one rfl _ _ 22 rfl base 27 i0 _ 48 Try.underlying22 hi hz0 hz1 hz2 rfl (by decide) encA_len _ L rfl O1.out ⟨wo.heap.size, 0, none⟩ x rfl (encA_one x) (new_cells' wo.drew #[.int .u8 x.kind, .int .i64 x.call, .int .i64 x.a, .int .i64 x.b, .int .i64 x.c, .int .i64 x.d] _) c1 c2 (by have := HS.out; simp; omega) ?_; intro lv w3 hown3 hbw3 hgr3; obtain ⟨la, ln, lc, rfl⟩ := hown3.shape; have HO3 := hid hown3; have HB3 := hid hbw3; have HG3 := hid hgr3; clear hown3 hbw3 hgr3; have B3 := hid (blk_below (blk_alloc (show wo.drew.heap[b]? = _ from B1.out) (.cells #[.int .u8 x.kind, .int .i64 x.call, .int .i64 x.a, .int .i64 x.b, .int .i64 x.c, .int .i64 x.d] 27)) HB3.out hbb); obtain ⟨r0, r1, rf, rl⟩ := blk2 B3.out)
  all_goals
    go_wp2
    go_ret
    have hs := HS.out
    refine ⟨rfl, _, blk_set B3.out 0 _, Owns.other HO3.out (p := ⟨b, 0, none⟩) hbb _, ?_, ?_⟩
    · have e1 : On (Away b 27 w) w (wo.drew.alloc (.cells #[.int .u8 x.kind, .int .i64 x.call, .int .i64 x.a, .int .i64 x.b, .int .i64 x.c, .int .i64 x.d] 27)) := (on_all (HQ.out.trans (below_drewN (Below.refl _ _) 1))).alloc _
      have e2 : On (Away b 27 (wo.drew.alloc (.cells #[.int .u8 x.kind, .int .i64 x.call, .int .i64 x.a, .int .i64 x.b, .int .i64 x.c, .int .i64 x.d] 27))) (wo.drew.alloc (.cells #[.int .u8 x.kind, .int .i64 x.call, .int .i64 x.a, .int .i64 x.b, .int .i64 x.c, .int .i64 x.d] 27)) w3 := away_grown HG3.out (fun r e => Owns.typed O1.out r e)
      exact (e1.away_trans e2).setCell (fun h => h.1 rfl) _
    · have e3 : Below b w wo.drew := (HQ.out.mono (by omega)).trans (below_drewN (Below.refl _ _) 1)
      have e4 : Below b w (wo.drew.alloc (.cells #[.int .u8 x.kind, .int .i64 x.call, .int .i64 x.a, .int .i64 x.b, .int .i64 x.c, .int .i64 x.d] 27)) := e3.alloc (by have := HQ.out.size; show b ≤ wo.heap.size; omega) _
      have e5 : Below b w w3 := e4.trans (HB3.out.mono (by omega))
      exact e5.setCell (p := ⟨b, 0, none⟩) (Nat.le_refl _) _

set_option maxHeartbeats 1000000 in
set_option maxRecDepth 100000 in
theorem behindT_full (b : Nat) (va : Option Addr) (vn vc : Nat) (ot : Value) (ca ki co di : Int) (a : Option Addr) (n c : Nat) (mo : Bool) (w : World) (hb : w.heap[b]? = some (.cells #[ot, .slice va vn vc] 25)) (hl : 60 ≤ vn) (hv : vn ≤ 1000000) :
    Calls Try.prog 27 #[.pointer (some ⟨b, 1, none⟩), .agg #[.int .i64 ca, .int .u8 ki, .int .u8 co, .int .i64 di, .slice a n c, .bool mo]] w fun e w' => e = .returned (.int .i64 110) ∧ Below w.heap.size w w' := by
  obtain ⟨k0, k1, kf, kl⟩ := blk2 hb
  have d1 : decide ((60 : Int) ≤ (vn : Int)) = true := by simp; omega
  clear hb
  go_enter Try.func27, Try.ntmps27
  go_wp2
  go_ret
  exact ⟨rfl, (Below.refl _ _).alloc (Nat.le_refl _) _⟩
set_option maxHeartbeats 2000000 in
set_option maxRecDepth 100000 in
theorem behindT_room (b base : Nat) (va : Option Addr) (vn vc : Nat) (ot : Value) (ca ki co di : Int) (a : Option Addr) (n c : Nat) (mo : Bool) (L : List TellM) (w : World) (hb : w.heap[b]? = some (.cells #[ot, .slice va vn vc] 25)) (hown : OwnT w base (.slice va vn vc) L) (hbb : b < base) (hbw : base ≤ w.heap.size) (hl : L.length < 60) :
    Calls Try.prog 27 #[.pointer (some ⟨b, 1, none⟩), .agg #[.int .i64 ca, .int .u8 ki, .int .u8 co, .int .i64 di, .slice a n c, .bool mo]] w fun e w' => e = .returned (.int .i64 0) ∧ ∃ v', w'.heap[b]? = some (.cells #[ot, v'] 25) ∧ OwnT w' base v' (L ++ [⟨ca, ki, co, di, .slice a n c, mo⟩]) ∧ On (Away b 30 w) w w' ∧ Below b w w' := by
  obtain ⟨i0, hi, hz0, hz1, hz2⟩ := info_parts infoT
  obtain ⟨k0, k1, kf, kl⟩ := blk2 hb
  have hvn : vn = L.length := by
    obtain ⟨_, ⟨h1, h2⟩ | ⟨g, cap, cur, h1, _⟩⟩ := hown
    · cases h1; exact h2.symm
    · cases h1; rfl
  subst hvn
  have d1 : decide ((60 : Int) ≤ (L.length : Int)) = false := by simp; omega
  have hll : (L.length : Int) ≤ 60 := by omega
  have hB := hid hb
  have HO := hid hown
  have hw1 : Below w.heap.size w (w.alloc (.cells #[.int .i64 ca, .int .u8 ki, .int .u8 co, .int .i64 di, .slice a n c, .bool mo] 30)) := (Below.refl _ _).alloc (Nat.le_refl _) _
  have c1 : L.length + 1 ≤ maxLen := by unfold maxLen; omega
  have c2 : (L.length + 1) * 56 ≤ 140737488355328 := by omega
  have c3 : ∀ o o', base ≤ ((w.alloc o).alloc o').heap.size := fun o o' => by simp; omega
  have HC3 := hid c3
  clear hb hown c3 hw1
  go_enter Try.func27, Try.ntmps27
  go_wp2_with fail
  obtain ⟨wo, hwo⟩ : ∃ wo : World, wo = w.alloc (.cells #[.int .i64 ca, .int .u8 ki, .int .u8 co, .int .i64 di, .slice a n c, .bool mo] 30) := ⟨_, rfl⟩
  have hq : Below w.heap.size w wo := by rw [hwo]; exact (Below.refl _ _).alloc (Nat.le_refl _) _
  have hx : wo.heap[w.heap.size]? = some (.cells #[.int .i64 ca, .int .u8 ki, .int .u8 co, .int .i64 di, .slice a n c, .bool mo] 30) := by rw [hwo]; exact heap_new w _
  have hs : wo.heap.size = w.heap.size + 1 := by rw [hwo]; simp
  have X0 := hid hx
  have HQ := hid hq
  have HS := hid hs
  obtain ⟨x0, x1, x2, x3, x4, x5, xf, xl⟩ := blk6 hx
  have B1 := hid (blk_below hB.out hq (blk_lt hB.out))
  have O1 : Hid (OwnT (wo.drew.alloc (.cells #[.int .i64 ca, .int .u8 ki, .int .u8 co, .int .i64 di, .slice a n c, .bool mo] 30)) base (.slice va L.length vc) L) := hid (World.ownsRow.alloc (Owns.below (Owns.below HO.out hq) (below_drewN (Below.refl _ _) 1)) _)
  rw [← hwo]
  clear hwo hq hx hs k0 k1 kf kl
  obtain ⟨k0, k1, kf, kl⟩ := blk2 B1.out
  go_region_law (refine step_append_one rfl _ _ 23 rfl base 30 i0 _ 56 Try.underlying23 hi hz0 hz1 hz2 rfl (by decide) encT_len _ L rfl O1.out ⟨wo.heap.size, 0, none⟩ ⟨ca, ki, co, di, .slice a n c, mo⟩ rfl (encT_one ⟨ca, ki, co, di, .slice a n c, mo⟩ rfl) (new_cells' wo.drew #[.int .i64 ca, .int .u8 ki, .int .u8 co, .int .i64 di, .slice a n c, .bool mo] _) c1 c2 (by have := HS.out; simp; omega) ?_; intro lv w3 hown3 hbw3 hgr3; obtain ⟨la, ln, lc, rfl⟩ := hown3.shape; have HO3 := hid hown3; have HB3 := hid hbw3; have HG3 := hid hgr3; clear hown3 hbw3 hgr3; have B3 := hid (blk_below (blk_alloc (show wo.drew.heap[b]? = _ from B1.out) (.cells #[.int .i64 ca, .int .u8 ki, .int .u8 co, .int .i64 di, .slice a n c, .bool mo] 30)) HB3.out hbb); obtain ⟨r0, r1, rf, rl⟩ := blk2 B3.out)
  all_goals
    go_wp2
    go_ret
    have hs := HS.out
    refine ⟨rfl, _, blk_set B3.out 1 _, Owns.other HO3.out (p := ⟨b, 1, none⟩) hbb _, ?_, ?_⟩
    · have e1 : On (Away b 30 w) w (wo.drew.alloc (.cells #[.int .i64 ca, .int .u8 ki, .int .u8 co, .int .i64 di, .slice a n c, .bool mo] 30)) := (on_all (HQ.out.trans (below_drewN (Below.refl _ _) 1))).alloc _
      have e2 : On (Away b 30 (wo.drew.alloc (.cells #[.int .i64 ca, .int .u8 ki, .int .u8 co, .int .i64 di, .slice a n c, .bool mo] 30))) (wo.drew.alloc (.cells #[.int .i64 ca, .int .u8 ki, .int .u8 co, .int .i64 di, .slice a n c, .bool mo] 30)) w3 := away_grown HG3.out (fun r e => Owns.typed O1.out r e)
      exact (e1.away_trans e2).setCell (fun h => h.1 rfl) _
    · have e3 : Below b w wo.drew := (HQ.out.mono (by omega)).trans (below_drewN (Below.refl _ _) 1)
      have e4 : Below b w (wo.drew.alloc (.cells #[.int .i64 ca, .int .u8 ki, .int .u8 co, .int .i64 di, .slice a n c, .bool mo] 30)) := e3.alloc (by have := HQ.out.size; show b ≤ wo.heap.size; omega) _
      have e5 : Below b w w3 := e4.trans (HB3.out.mono (by omega))
      exact e5.setCell (p := ⟨b, 1, none⟩) (Nat.le_refl _) _
end Go.Proofs.Ythnlppbfmmiioaa
