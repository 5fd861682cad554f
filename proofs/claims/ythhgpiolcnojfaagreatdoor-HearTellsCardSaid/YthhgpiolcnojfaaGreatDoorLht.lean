import Derived.Test.YthhgpiolcnojfaaGreatDoorRhr
import Derived.Test.YthhgpiolcnojfaaGreatDoorWh
import Derived.Test.YthhgpiolcnojfaaGreatDoorHg
import Derived.Deep.RegionHeld3
/- HearTells: whose answer it is, what it says, what comes of it. Printed by gn_lht.py. -/
namespace Go.Proofs.YthhgpiolcnojfaaGreatDoor
open Go.RowKit Go.Shelf
attribute [-go_sem] loadVar storeVar Instr.buildSlice
attribute [local go_sem] load_other

/-- A record in memory, its cells as one array. -/
def RecA (W : World) (rv : Array Value) (k : Int) (l : List Int) : Prop := ∃ sl, rv = #[.int .u8 k, sl] ∧ RowOf 1 encI W sl l
theorem RecA.below {W W' : World} {rv : Array Value} {k : Int} {l : List Int} (h : RecA W rv k l) (hb : Below W.heap.size W W') : RecA W' rv k l := by
  obtain ⟨sl, h1, h2⟩ := h
  exact ⟨sl, h1, h2.below hb⟩
theorem RecA.cells {W : World} {rv : Array Value} {k : Int} {l : List Int} (h : RecA W rv k l) : rv.size = 2 ∧ rv.all (·.oneCell') = true := by
  obtain ⟨sl, rfl, h2⟩ := h
  obtain ⟨a, c, rfl, _⟩ := h2.open
  exact ⟨rfl, by simp [Value.oneCell']⟩
theorem SEnd.one {r : Option (Int × List Int)} {w w' : World} {e : Ending} (h : SEnd r w e w') : ∃ rv, e = .returned (.tuple #[.agg rv, .bool r.isSome]) ∧ RecA w' rv (r.getD (0, [])).1 (r.getD (0, [])).2 ∧ Below w.heap.size w w' := by
  rcases h with ⟨rfl, rfl, hb⟩ | ⟨k, l, v, rfl, rfl, ho, hb⟩
  · exact ⟨_, rfl, ⟨_, rfl, row_nil w'⟩, hb⟩
  · exact ⟨_, rfl, ⟨_, rfl, ho.row (fun _ => rfl) (by decide)⟩, hb⟩
theorem rec_store {W y : World} {T : Nat} {c rv : Array Value} {k : Int} {l : List Int} (hT : W.heap[T]? = some (.cells c 44)) (hc : c.size = 2) (h : RecA y rv k l) :
    (storeVar 44 ⟨T, 0, none⟩ (.agg rv)).run Tryz.prog W = .ok () (W.setRow T rv) :=
  run_storeVar_row W T 44 44 c rv hT (by rw [h.cells.1]; kernel_rfl) (by rw [hc, h.cells.1]) h.cells.2
theorem rec_store_new {y y' : World} {rv : Array Value} {k : Int} {l : List Int} (h : RecA y' rv k l) : (storeVar 44 ⟨y.heap.size, 0, none⟩ (.agg rv)).run Tryz.prog (y.alloc (.cells #[.int .u8 0, .slice none 0 0] 44)) = .ok () (y.alloc (.cells rv 44)) := by
  rw [rec_store (heap_new y _) rfl h, World.setRow_alloc_new]
theorem store_otherR (t : TypeId) (a : Addr) (v : Value) (_h : t ≠ 44) (h0 : ∀ w, (sizeOf t).run Tryz.prog w = .ok v.cells.size w) (w : World) : (storeVar t a v).run Tryz.prog w = (storeCells a v.cells.toList).run Tryz.prog w := by
  unfold storeVar
  simp [h0]
theorem row_far {y : World} {T : Nat} {sl : Value} {l : List Int} {rv : Array Value} (hz : y.heap[T]? = some (.cells #[.int .u8 0, .slice none 0 0] 44)) (h : RowOf 1 encI y sl l) : RowOf 1 encI (y.setRow T rv) sl l := by
  rcases h with h | ⟨h0, b, off, cc, rfl, h1, h2, hb, hr⟩
  · exact .inl h
  · have hne : b ≠ T := by
      intro e
      subst e
      obtain ⟨x, hx⟩ := get_lt h0
      have h3 := hr 0 x hx 0 _ rfl
      rw [blk_cell hz] at h3
      rcases hq : off + 0 * 1 + 0 with _ | _ | q
      · rw [hq] at h3; simp at h3
      · rw [hq] at h3; simp at h3
      · rw [hq] at h3; simp at h3
    refine .inr ⟨h0, b, off, cc, rfl, h1, h2, Nat.lt_of_lt_of_le hb (below_setRow (Below.refl 0 y) (Nat.zero_le T) rv).size, fun i x hx j' v hj => ?_⟩
    rw [World.cell?_of_block (setRow_other y T b rv hne)]
    exact hr i x hx j' v hj
theorem hearL_small (B : BrainV) (C : CallsV) (c k d i now : Int) : (hearL B C c k d i now).length ≤ 1 ∧ ∀ p ∈ hearL B C c k d i now, p.2.length ≤ 3 := by
  unfold hearL
  split
  · unfold countsL
    split
    · simp
    · rename_i r hr
      split
      · exact ⟨by simp, fun p hp => by simp only [List.mem_singleton] at hp; rw [hp]; exact says_len (kk := r.1) (L := r.2) hr⟩
      · simp
  · simp
/-- Records that are the same. -/
theorem recs_is {l : List (Int × List Int)} {u v : Value} {w : World} (h : RecsL w l u) (h' : RecsL w l v) (h1 : l.length ≤ 1) (h3 : ∀ p ∈ l, p.2.length ≤ 3) :
    Calls Tryz.prog 16 #[u, v] w fun e w' => e = .returned (.bool true) ∧ Below w.heap.size w w' := by
  obtain ⟨R, hR, hr⟩ := h
  obtain ⟨S, hS, hs⟩ := h'
  refine recs_any R S u v w hr hs (by rw [hR, hS]) (fun r hm => ?_) ?_
  · have := h3 (r.k, r.L) (by rw [← hR]; exact List.mem_map_of_mem hm)
    dsimp only at this
    omega
  · have := congrArg List.length hR
    rw [List.length_map] at this
    omega
theorem RecsL.shape {w : World} {l : List (Int × List Int)} {v : Value} (h : RecsL w l v) : ∃ a n c, v = .slice a n c := by
  obtain ⟨R, _, h1, _⟩ := h
  obtain ⟨a, c, rfl, _⟩ := h1.open
  exact ⟨a, _, c, rfl⟩
/-- Behind a region that says. -/
structure RxX (W X : World) (T : Nat) (rv : Array Value) (k : Int) (l : List Int) : Prop where
  box : X.heap[T]? = some (.cells rv 44)
  bel : Below W.heap.size W X
  row : RecA X rv k l
theorem rxA {W y : World} {rv : Array Value} {k : Int} {l : List Int} (hy : Below W.heap.size W y) (hp : RecA y rv k l) : RxX W (y.alloc (.cells rv 44)) y.heap.size rv k l :=
  ⟨heap_new _ _, hy.trans (((Below.refl _ _).alloc (Nat.le_refl _) _).mono hy.size), hp.below ((Below.refl _ _).alloc (Nat.le_refl _) _)⟩
theorem rxB {W y : World} {T : Nat} {rv : Array Value} {k : Int} {l : List Int} (hT : W.heap.size ≤ T) (hy : Below W.heap.size W y) (hz : y.heap[T]? = some (.cells #[.int .u8 0, .slice none 0 0] 44)) (hp : RecA y rv k l) :
    RxX W (y.setRow T rv) T rv k l := by
  obtain ⟨sl, rfl, h2⟩ := hp
  exact ⟨setRow_heap y T _ _ _ _ hz, below_setRow hy hT _, sl, rfl, row_far hz h2⟩
attribute [local go_sem] store_otherR

set_option maxRecDepth 100000 in
set_option maxHeartbeats 8000000 in
theorem htells_law (B : BrainV) (bv : Array Value) (C : CallsV) (c k i now : Int) (dn : Nat) (s : Value) (sa : Option Addr) (sn sc : Nat) (m : Bool) (w : World) (hB : BrIs w B (.agg bv)) (hs : Row12 w s C.opens) (hwf : ∀ x ∈ C.opens, x.wf) (hph : ∀ x ∈ B.K, in8 x.phase) (h8 : dn ≤ 255) (hlM : B.M.length ≤ 17592186043904)
    (hA : Asked w) (hC : Changes w) (hL : Limits w) :
    Calls Tryz.prog 3 #[.agg bv, calls C.epoch C.next s, tellT c k dn i (.slice sa sn sc) m, .int .i64 now] w fun e w' => e = .returned (.bool true) ∧ Below w.heap.size w w' := by
  obtain ⟨va, vc, rfl, hv1, hv2, hv3, hop⟩ := hs.open
  obtain ⟨W1, hW1⟩ : ∃ W1, W1 = ((w.alloc (.cells bv 30)).alloc (.cells #[.int .i64 C.epoch, .int .i64 C.next, .slice va C.opens.length vc] 33)).alloc (.cells #[.int .i64 c, .int .u8 k, .int .u8 dn, .int .i64 i, .slice sa sn sc, .bool m] 36) := ⟨_, rfl⟩
  have hb1 : Below w.heap.size w W1 := by rw [hW1]; exact (((Below.refl _ _).alloc (Nat.le_refl _) _).alloc (by simp) _).alloc (by simp; omega) _
  have n0 : BB W1 w.heap.size bv := by rw [hW1]; exact blk_alloc (blk_alloc (heap_new _ _) _) _
  have n1 : W1.heap[w.heap.size + 1]? = some (.cells #[.int .i64 C.epoch, .int .i64 C.next, .slice va C.opens.length vc] 33) := by rw [hW1]; exact blk_alloc (heap_new2 _ _ _) _
  have n2 : W1.heap[w.heap.size + 1 + 1]? = some (.cells #[.int .i64 c, .int .u8 k, .int .u8 dn, .int .i64 i, .slice sa sn sc, .bool m] 36) := by rw [hW1]; simpa using heap_new2 (w.alloc _) _ _
  obtain ⟨mv, iv, kv, e, h1, h2, h3⟩ := hB
  have V1 := hid (show VarIs W1 w.heap.size B (.agg bv) from by cases e; exact ⟨mv, iv, kv, rfl, n0, h1.below hb1, h2.below hb1, h3.below hb1⟩)
  have HB1 := hid hb1
  have N1 := hid n1
  have M1 := hid n2
  have R1 := hid (hs.below hb1)
  have HOP := hid hop
  have HWF := hid hwf
  have HPH := hid hph
  have HA := hid hA
  have HC := hid hC
  have HL := hid hL
  clear e h1 h2 h3 n0 n1 n2 hb1 hs hwf hph hA hC hL hop
  unfold calls tellT
  go_enter Tryz.func3, Tryz.ntmps3
  go_upto_region 1 with (fail)
  rw [← hW1]
  clear hW1
  have hld := V1.out.load
  have k0 : W1.cell? ⟨w.heap.size + 1, 0, none⟩ = some (.int .i64 C.epoch) := blk_cell N1.out 0
  have k1 : W1.cell? ⟨w.heap.size + 1, 1, none⟩ = some (.int .i64 C.next) := blk_cell N1.out 1
  have k2 : W1.cell? ⟨w.heap.size + 1, 2, none⟩ = some (.slice va C.opens.length vc) := blk_cell N1.out 2
  have kl := blk_lt N1.out
  have t0 : W1.cell? ⟨w.heap.size + 1 + 1, 0, none⟩ = some (.int .i64 c) := blk_cell M1.out 0
  have t1 : W1.cell? ⟨w.heap.size + 1 + 1, 1, none⟩ = some (.int .u8 k) := blk_cell M1.out 1
  have t2 : W1.cell? ⟨w.heap.size + 1 + 1, 2, none⟩ = some (.int .u8 dn) := blk_cell M1.out 2
  have t3 : W1.cell? ⟨w.heap.size + 1 + 1, 3, none⟩ = some (.int .i64 i) := blk_cell M1.out 3
  have t4 : W1.cell? ⟨w.heap.size + 1 + 1, 4, none⟩ = some (.slice sa sn sc) := blk_cell M1.out 4
  have t5 : W1.cell? ⟨w.heap.size + 1 + 1, 5, none⟩ = some (.bool m) := blk_cell M1.out 5
  have tl := blk_lt M1.out
  go_wp2_with fail
  clear hld k0 k1 k2 kl t0 t1 t2 t3 t4 t5 tl
  refine (hgreat_any B bv C.epoch C.next c k dn i (.slice va C.opens.length vc) C.opens sa sn sc m W1 V1.out.is R1.out).mono ?_
  rintro e W2 ⟨q, rfl, hq, hb⟩
  have HB2 := hid (HB1.out.trans (hb.mono HB1.out.size))
  have V2 := hid (V1.out.below hb)
  have N2 := hid (blk_below N1.out hb (blk_lt N1.out))
  have M2 := hid (blk_below M1.out hb (blk_lt M1.out))
  have R2 := hid (R1.out.below hb)
  have HQ := hid hq
  clear hb hq
  cases q with
  | true =>
    go_wp2_with fail
    refine (wakes_any W2 (HA.out.below HB2.out) (HC.out.below HB2.out) (HL.out.below HB2.out)).mono ?_
    rintro e Ww ⟨rfl, hb⟩
    have HBw := hid (HB2.out.trans (hb.mono HB2.out.size))
    clear hb
    go_wp2
    go_ret
    exact ⟨rfl, HBw.out⟩
  | false =>
    obtain ⟨g1, g2, g3, g4⟩ := HQ.out rfl
    have G1 := hid g1
    have G2 := hid g2
    have G3 := hid g3
    have G4 := hid hlM
    have HFI := hid (show Fine B 900 from ⟨by omega, by omega, HPH.out⟩)
    clear g1 g2 g3 g4 HQ
    obtain ⟨⟨y, ok⟩, hy⟩ : ∃ r, heardL C.opens c k = r := ⟨_, rfl⟩
    have HH := hid (heard_any C.epoch C.next c k dn i (.slice va C.opens.length vc) C.opens sa sn sc m W2 (by have := G3.out; omega) R2.out)
    unfold calls tellT at HH
    rw [hy] at HH
    have hld := V2.out.load
    have k0 : W2.cell? ⟨w.heap.size + 1, 0, none⟩ = some (.int .i64 C.epoch) := blk_cell N2.out 0
    have k1 : W2.cell? ⟨w.heap.size + 1, 1, none⟩ = some (.int .i64 C.next) := blk_cell N2.out 1
    have k2 : W2.cell? ⟨w.heap.size + 1, 2, none⟩ = some (.slice va C.opens.length vc) := blk_cell N2.out 2
    have kl := blk_lt N2.out
    have t0 : W2.cell? ⟨w.heap.size + 1 + 1, 0, none⟩ = some (.int .i64 c) := blk_cell M2.out 0
    have t1 : W2.cell? ⟨w.heap.size + 1 + 1, 1, none⟩ = some (.int .u8 k) := blk_cell M2.out 1
    have t2 : W2.cell? ⟨w.heap.size + 1 + 1, 2, none⟩ = some (.int .u8 dn) := blk_cell M2.out 2
    have t3 : W2.cell? ⟨w.heap.size + 1 + 1, 3, none⟩ = some (.int .i64 i) := blk_cell M2.out 3
    have t4 : W2.cell? ⟨w.heap.size + 1 + 1, 4, none⟩ = some (.slice sa sn sc) := blk_cell M2.out 4
    have t5 : W2.cell? ⟨w.heap.size + 1 + 1, 5, none⟩ = some (.bool m) := blk_cell M2.out 5
    have tl := blk_lt M2.out
    go_wp2_with fail
    refine HH.out.mono ?_
    clear hld k0 k1 k2 kl t0 t1 t2 t3 t4 t5 tl
    rintro e X3 ⟨rfl, hb0⟩
    obtain ⟨W3, hW⟩ : ∃ W, W = X3.alloc (.cells #[.int .i64 y.id, .int .u8 y.kind, .int .i64 y.key, .int .i64 y.sent] 40) := ⟨_, rfl⟩
    have hb : Below W2.heap.size W2 W3 := hb0.trans (by rw [hW]; exact ((Below.refl _ _).alloc (Nat.le_refl _) _).mono hb0.size)
    have HB3 := hid (HB2.out.trans (hb.mono HB2.out.size))
    have V3 := hid (V2.out.below hb)
    have N3 := hid (blk_below N2.out hb (blk_lt N2.out))
    have M3 := hid (blk_below M2.out hb (blk_lt M2.out))
    have R3 := hid (R2.out.below hb)
    have Y0 : W3.heap[X3.heap.size]? = some (.cells #[.int .i64 y.id, .int .u8 y.kind, .int .i64 y.key, .int .i64 y.sent] 40) := by rw [hW]; exact heap_new _ _
    clear hb hb0 HH
    unfold encS
    go_upto_region 4 with (fail)
    rw [← hW]
    obtain ⟨T9, hT9⟩ : ∃ T, X3.heap.size = T := ⟨_, rfl⟩
    have Y3 := hid Y0
    rw [hT9] at Y3 ⊢
    clear hW hT9 Y0
    have HH := hid (rheard_any C.epoch C.next c k dn i (.slice va C.opens.length vc) C.opens sa sn sc m W3 (by have := G3.out; omega) R3.out)
    unfold calls tellT at HH
    rw [hy] at HH
    clear hy
    have hld := V3.out.load
    have k0 : W3.cell? ⟨w.heap.size + 1, 0, none⟩ = some (.int .i64 C.epoch) := blk_cell N3.out 0
    have k1 : W3.cell? ⟨w.heap.size + 1, 1, none⟩ = some (.int .i64 C.next) := blk_cell N3.out 1
    have k2 : W3.cell? ⟨w.heap.size + 1, 2, none⟩ = some (.slice va C.opens.length vc) := blk_cell N3.out 2
    have kl := blk_lt N3.out
    have t0 : W3.cell? ⟨w.heap.size + 1 + 1, 0, none⟩ = some (.int .i64 c) := blk_cell M3.out 0
    have t1 : W3.cell? ⟨w.heap.size + 1 + 1, 1, none⟩ = some (.int .u8 k) := blk_cell M3.out 1
    have t2 : W3.cell? ⟨w.heap.size + 1 + 1, 2, none⟩ = some (.int .u8 dn) := blk_cell M3.out 2
    have t3 : W3.cell? ⟨w.heap.size + 1 + 1, 3, none⟩ = some (.int .i64 i) := blk_cell M3.out 3
    have t4 : W3.cell? ⟨w.heap.size + 1 + 1, 4, none⟩ = some (.slice sa sn sc) := blk_cell M3.out 4
    have t5 : W3.cell? ⟨w.heap.size + 1 + 1, 5, none⟩ = some (.bool m) := blk_cell M3.out 5
    have tl := blk_lt M3.out
    go_wp2_with fail
    refine HH.out.mono ?_
    clear hld k0 k1 k2 kl t0 t1 t2 t3 t4 t5 tl
    rintro e X4 ⟨rfl, hb0⟩
    obtain ⟨W4, hW⟩ : ∃ W, W = X4.alloc (.cells #[.int .i64 y.id, .int .u8 y.kind, .int .i64 y.key, .int .i64 y.sent] 40) := ⟨_, rfl⟩
    have hb : Below W3.heap.size W3 W4 := hb0.trans (by rw [hW]; exact ((Below.refl _ _).alloc (Nat.le_refl _) _).mono hb0.size)
    have HB4 := hid (HB3.out.trans (hb.mono HB3.out.size))
    have V4 := hid (V3.out.below hb)
    have N4 := hid (blk_below N3.out hb (blk_lt N3.out))
    have M4 := hid (blk_below M3.out hb (blk_lt M3.out))
    have R4 := hid (R3.out.below hb)
    have Y0 : W4.heap[X4.heap.size]? = some (.cells #[.int .i64 y.id, .int .u8 y.kind, .int .i64 y.key, .int .i64 y.sent] 40) := by rw [hW]; exact heap_new _ _
    have Y4 := hid (blk_below Y3.out hb (blk_lt Y3.out))
    clear hb hb0 HH
    unfold encS
    go_upto_region 5 with (fail)
    rw [← hW]
    obtain ⟨T11, hT11⟩ : ∃ T, X4.heap.size = T := ⟨_, rfl⟩
    have Z4 := hid Y0
    rw [hT11] at Z4 ⊢
    clear hW hT11 Y0
    obtain ⟨y0, y1, y2, y3, yf, yl⟩ := blk4 Y4.out
    obtain ⟨u0, u1, u2, u3, uf, ul⟩ := blk4 Z4.out
    have hne := neq_run y y
    rw [show sameX y y = true from sameX_iff.2 rfl] at hne
    have hok : (ok != ok) = false := by cases ok <;> rfl
    go_wp2_with fail
    clear y0 y1 y2 y3 yf yl u0 u1 u2 u3 uf ul hne hok
    go_loopw [13] (fun iv wr => ∃ n : Nat, n ≤ C.opens.length ∧ iv = .int .i64 n ∧ Below W4.heap.size W4 wr) (fun iv _ => C.opens.length - (intOf iv).toNat)
    case atStart => exact ⟨0, Nat.zero_le _, rfl, Below.refl _ _⟩
    case round =>
      obtain ⟨n, hn, rfl, hb⟩ := hrel
      obtain ⟨W5, hW5⟩ : ∃ W : World, W = wr := ⟨_, rfl⟩
      rw [← hW5] at hb ⊢
      clear hW5
      have HBL := hid hb
      have HB5 := hid (HB4.out.trans (hb.mono HB4.out.size))
      have V5 := hid (V4.out.below hb)
      have N5 := hid (blk_below N4.out hb (blk_lt N4.out))
      have M5 := hid (blk_below M4.out hb (blk_lt M4.out))
      have R5 := hid (R4.out.below hb)
      clear hb
      obtain ⟨k0, k1, k2, kf, kl⟩ := blk3 N5.out
      by_cases hlt : n < C.opens.length
      · obtain ⟨x, hx⟩ := get_lt hlt
        have hnL : (n : Int) < (C.opens.length : Int) := by omega
        obtain ⟨b1, o1, rfl, hb1, hr1⟩ := HOP.out (by omega)
        obtain ⟨g0, g1, g2, g3⟩ := row4 (hr1.below HB5.out hb1) hx
        obtain ⟨t0, t1, t2, t3, t4, t5⟩ : W5.cell? ⟨w.heap.size + 1 + 1, 0, none⟩ = some (.int .i64 c) ∧ W5.cell? ⟨w.heap.size + 1 + 1, 1, none⟩ = some (.int .u8 k) ∧ W5.cell? ⟨w.heap.size + 1 + 1, 2, none⟩ = some (.int .u8 dn) ∧ W5.cell? ⟨w.heap.size + 1 + 1, 3, none⟩ = some (.int .i64 i) ∧ W5.cell? ⟨w.heap.size + 1 + 1, 4, none⟩ = some (.slice sa sn sc) ∧ W5.cell? ⟨w.heap.size + 1 + 1, 5, none⟩ = some (.bool m) := ⟨blk_cell M5.out 0, blk_cell M5.out 1, blk_cell M5.out 2, blk_cell M5.out 3, blk_cell M5.out 4, blk_cell M5.out 5⟩
        have HJ := hid (show ∀ X, Below W5.heap.size W5 X → (X.cell? ⟨w.heap.size + 1, 2, none⟩ = some (.slice (some ⟨b1, o1, none⟩) C.opens.length vc) ∧ X.cell? ⟨b1, o1 + n * 4, none⟩ = some (.int .i64 x.id) ∧ X.cell? ⟨b1, o1 + n * 4 + 1, none⟩ = some (.int .u8 x.kind) ∧ X.cell? ⟨b1, o1 + n * 4 + 2, none⟩ = some (.int .i64 x.key) ∧ X.cell? ⟨b1, o1 + n * 4 + 3, none⟩ = some (.int .i64 x.sent) ∧ X.cell? ⟨w.heap.size + 1 + 1, 0, none⟩ = some (.int .i64 c) ∧ X.cell? ⟨w.heap.size + 1 + 1, 1, none⟩ = some (.int .u8 k) ∧ X.cell? ⟨w.heap.size + 1 + 1, 2, none⟩ = some (.int .u8 dn) ∧ X.cell? ⟨w.heap.size + 1 + 1, 3, none⟩ = some (.int .i64 i) ∧ X.cell? ⟨w.heap.size + 1 + 1, 4, none⟩ = some (.slice sa sn sc) ∧ X.cell? ⟨w.heap.size + 1 + 1, 5, none⟩ = some (.bool m)) from fun X hb => ⟨cell_below k2 hb, cell_below g0 hb, cell_below g1 hb, cell_below g2 hb, cell_below g3 hb, cell_below t0 hb, cell_below t1 hb, cell_below t2 hb, cell_below t3 hb, cell_below t4 hb, cell_below t5 hb⟩)
        obtain ⟨r, hr⟩ : ∃ r, saysL x.kind dn x.key i now = r := ⟨_, rfl⟩
        obtain ⟨pk, hpk⟩ : ∃ q, (r.getD (0, [])).1 = q := ⟨_, rfl⟩
        obtain ⟨pl, hpl⟩ : ∃ q, (r.getD (0, [])).2 = q := ⟨_, rfl⟩
        obtain ⟨rb, hrb⟩ : ∃ q, r.isSome = q := ⟨_, rfl⟩
        have HPL := hid (show pl.length ≤ 3 by rw [← hpl]; cases r with
          | none => simp
          | some q => exact says_len (k := x.kind) (d := dn) (key := x.key) (id := i) (now := now) (kk := q.1) (L := q.2) hr)
        have HS1 := hid (fun W => (says_any x c k i now dn sa sn sc m W h8).mono fun e w' h => SEnd.one h)
        have HS2 := hid (fun W => (rsays_any x c k dn i now sa sn sc m W).mono fun e w' h => SEnd.one h)
        rw [hr, hpk, hpl, hrb] at HS1 HS2
        unfold encS tellT at HS1 HS2
        clear hx hr hpk hpl hrb hr1 g0 g1 g2 g3 t0 t1 t2 t3 t4 t5 k0 k1 k2 kf kl
        obtain ⟨k0, g0, g1, g2, g3, t0, t1, t2, t3, t4, t5⟩ := HJ.out W5 (Below.refl _ _)
        go_upto_region 10 with (fail)
        clear k0 g0 g1 g2 g3 t0 t1 t2 t3 t4 t5
        have Q0 := hid (HJ.out W5.drew (below_drewN (Below.refl _ _) 1))
        have Q1 := hid (HJ.out (W5.drew.alloc (.cells #[.int .u8 0, .slice none 0 0] 44)) ((below_drewN (Below.refl W5.heap.size W5) 1).alloc (Nat.le_refl _) _))
        go_region_held3 (fun w' => w'.cell? ⟨w.heap.size + 1, 2, none⟩ = some (.slice (some ⟨b1, o1, none⟩) C.opens.length vc) ∧ w'.cell? ⟨b1, o1 + n * 4, none⟩ = some (.int .i64 x.id) ∧ w'.cell? ⟨b1, o1 + n * 4 + 1, none⟩ = some (.int .u8 x.kind) ∧ w'.cell? ⟨b1, o1 + n * 4 + 2, none⟩ = some (.int .i64 x.key) ∧ w'.cell? ⟨b1, o1 + n * 4 + 3, none⟩ = some (.int .i64 x.sent) ∧ w'.cell? ⟨w.heap.size + 1 + 1, 0, none⟩ = some (.int .i64 c) ∧ w'.cell? ⟨w.heap.size + 1 + 1, 1, none⟩ = some (.int .u8 k) ∧ w'.cell? ⟨w.heap.size + 1 + 1, 2, none⟩ = some (.int .u8 dn) ∧ w'.cell? ⟨w.heap.size + 1 + 1, 3, none⟩ = some (.int .i64 i) ∧ w'.cell? ⟨w.heap.size + 1 + 1, 4, none⟩ = some (.slice sa sn sc) ∧ w'.cell? ⟨w.heap.size + 1 + 1, 5, none⟩ = some (.bool m)) (first | exact Q0.out | exact Q1.out | exact Q2.out | exact Q3.out | exact Q4.out | exact Q5.out) ((go_at_call 11; refine (HS1.out _).mono ?_; rintro e yw ⟨rv, rfl, hra, hby⟩; have HRA := hid hra; have hst1 := rec_store_new (y := yw) hra; have HBD := hid (show Below W5.heap.size W5 yw from by first | exact (below_drewN (Below.refl _ _) 1).trans hby | exact ((below_drewN (Below.refl W5.heap.size W5) 1).alloc (Nat.le_refl _) _).trans (hby.mono (by simp))); have Q2 := hid (HJ.out yw HBD.out); have Q3 := hid (HJ.out (yw.alloc (.cells #[.int .u8 0, .slice none 0 0] 44)) (HBD.out.alloc HBD.out.size _)); have Q4 := hid (HJ.out (yw.alloc (.cells rv 44)) (HBD.out.alloc HBD.out.size _)); try (have z := blk_below (heap_new W5.drew (.cells #[.int .u8 0, .slice none 0 0] 44)) hby (by simp); have hst2 := rec_store (show yw.heap[W5.heap.size]? = _ from z) rfl hra; have ZZ := hid z; have zl : W5.heap.size < yw.heap.size := blk_lt z; have Q5 := hid (HJ.out (yw.setRow W5.heap.size rv) (below_setRow HBD.out (Nat.le_refl _) rv)); clear z); clear hra hby))
        all_goals
          first
            | (obtain ⟨W6, hX⟩ : ∃ X, X = yw.setRow W5.heap.size rv := ⟨_, rfl⟩
               have hx : RxX W5 W6 W5.heap.size rv pk pl := by rw [hX]; exact rxB (Nat.le_refl _) HBD.out ZZ.out HRA.out
               rw [← hX]
               obtain ⟨T14, hT⟩ : ∃ T, W5.heap.size = T := ⟨_, rfl⟩
               have hxb := hx.box
               have hxr := hx.row
               have hxl := hx.bel
               rw [hT] at hxb ⊢)
            | (obtain ⟨W6, hX⟩ : ∃ X, X = yw.alloc (.cells rv 44) := ⟨_, rfl⟩
               have hx : RxX W5 W6 yw.heap.size rv pk pl := by rw [hX]; exact rxA HBD.out HRA.out
               rw [← hX]
               obtain ⟨T14, hT⟩ : ∃ T, yw.heap.size = T := ⟨_, rfl⟩
               have hxb := hx.box
               have hxr := hx.row
               have hxl := hx.bel
               rw [hT] at hxb ⊢)
          try clear hst2 ZZ zl Q5
          clear Q0 Q1 Q2 Q3 Q4 hst1 HRA HBD hx hX hT
          obtain ⟨sl1, rfl, hrow1⟩ := hxr
          obtain ⟨xa, xc, rfl, _⟩ := hrow1.open
          have hb := hxl
          have HB6 := hid (HB5.out.trans (hb.mono HB5.out.size))
          have V6 := hid (V5.out.below hb)
          have N6 := hid (blk_below N5.out hb (blk_lt N5.out))
          have M6 := hid (blk_below M5.out hb (blk_lt M5.out))
          have R6 := hid (R5.out.below hb)
          have HBL6 := hid (HBL.out.trans (hb.mono HBL.out.size))
          have D6 := hid hxb
          have E6 := hid hrow1
          have HJ6 := hid (show ∀ X, Below W6.heap.size W6 X → (X.cell? ⟨w.heap.size + 1, 2, none⟩ = some (.slice (some ⟨b1, o1, none⟩) C.opens.length vc) ∧ X.cell? ⟨b1, o1 + n * 4, none⟩ = some (.int .i64 x.id) ∧ X.cell? ⟨b1, o1 + n * 4 + 1, none⟩ = some (.int .u8 x.kind) ∧ X.cell? ⟨b1, o1 + n * 4 + 2, none⟩ = some (.int .i64 x.key) ∧ X.cell? ⟨b1, o1 + n * 4 + 3, none⟩ = some (.int .i64 x.sent) ∧ X.cell? ⟨w.heap.size + 1 + 1, 0, none⟩ = some (.int .i64 c) ∧ X.cell? ⟨w.heap.size + 1 + 1, 1, none⟩ = some (.int .u8 k) ∧ X.cell? ⟨w.heap.size + 1 + 1, 2, none⟩ = some (.int .u8 dn) ∧ X.cell? ⟨w.heap.size + 1 + 1, 3, none⟩ = some (.int .i64 i) ∧ X.cell? ⟨w.heap.size + 1 + 1, 4, none⟩ = some (.slice sa sn sc) ∧ X.cell? ⟨w.heap.size + 1 + 1, 5, none⟩ = some (.bool m)) from fun X hq => HJ.out X (hxl.trans (hq.mono hxl.size)))
          clear hb hxb hrow1 hxl
          obtain ⟨k0, g0, g1, g2, g3, t0, t1, t2, t3, t4, t5⟩ := HJ6.out W6 (Below.refl _ _)
          go_upto_region 11 with (fail)
          clear k0 g0 g1 g2 g3 t0 t1 t2 t3 t4 t5
          have Q0 := hid (HJ6.out W6.drew (below_drewN (Below.refl _ _) 1))
          have Q1 := hid (HJ6.out (W6.drew.alloc (.cells #[.int .u8 0, .slice none 0 0] 44)) ((below_drewN (Below.refl W6.heap.size W6) 1).alloc (Nat.le_refl _) _))
          go_region_held3 (fun w' => w'.cell? ⟨w.heap.size + 1, 2, none⟩ = some (.slice (some ⟨b1, o1, none⟩) C.opens.length vc) ∧ w'.cell? ⟨b1, o1 + n * 4, none⟩ = some (.int .i64 x.id) ∧ w'.cell? ⟨b1, o1 + n * 4 + 1, none⟩ = some (.int .u8 x.kind) ∧ w'.cell? ⟨b1, o1 + n * 4 + 2, none⟩ = some (.int .i64 x.key) ∧ w'.cell? ⟨b1, o1 + n * 4 + 3, none⟩ = some (.int .i64 x.sent) ∧ w'.cell? ⟨w.heap.size + 1 + 1, 0, none⟩ = some (.int .i64 c) ∧ w'.cell? ⟨w.heap.size + 1 + 1, 1, none⟩ = some (.int .u8 k) ∧ w'.cell? ⟨w.heap.size + 1 + 1, 2, none⟩ = some (.int .u8 dn) ∧ w'.cell? ⟨w.heap.size + 1 + 1, 3, none⟩ = some (.int .i64 i) ∧ w'.cell? ⟨w.heap.size + 1 + 1, 4, none⟩ = some (.slice sa sn sc) ∧ w'.cell? ⟨w.heap.size + 1 + 1, 5, none⟩ = some (.bool m)) (first | exact Q0.out | exact Q1.out | exact Q2.out | exact Q3.out | exact Q4.out | exact Q5.out) ((go_at_call 12; refine (HS2.out _).mono ?_; rintro e yw ⟨rv, rfl, hra, hby⟩; have HRA := hid hra; have hst1 := rec_store_new (y := yw) hra; have HBD := hid (show Below W6.heap.size W6 yw from by first | exact (below_drewN (Below.refl _ _) 1).trans hby | exact ((below_drewN (Below.refl W6.heap.size W6) 1).alloc (Nat.le_refl _) _).trans (hby.mono (by simp))); have Q2 := hid (HJ6.out yw HBD.out); have Q3 := hid (HJ6.out (yw.alloc (.cells #[.int .u8 0, .slice none 0 0] 44)) (HBD.out.alloc HBD.out.size _)); have Q4 := hid (HJ6.out (yw.alloc (.cells rv 44)) (HBD.out.alloc HBD.out.size _)); try (have z := blk_below (heap_new W6.drew (.cells #[.int .u8 0, .slice none 0 0] 44)) hby (by simp); have hst2 := rec_store (show yw.heap[W6.heap.size]? = _ from z) rfl hra; have ZZ := hid z; have zl : W6.heap.size < yw.heap.size := blk_lt z; have Q5 := hid (HJ6.out (yw.setRow W6.heap.size rv) (below_setRow HBD.out (Nat.le_refl _) rv)); clear z); clear hra hby))
          all_goals
            first
              | (obtain ⟨W7, hX⟩ : ∃ X, X = yw.setRow W6.heap.size rv := ⟨_, rfl⟩
                 have hx : RxX W6 W7 W6.heap.size rv pk pl := by rw [hX]; exact rxB (Nat.le_refl _) HBD.out ZZ.out HRA.out
                 rw [← hX]
                 obtain ⟨T16, hT⟩ : ∃ T, W6.heap.size = T := ⟨_, rfl⟩
                 have hxb := hx.box
                 have hxr := hx.row
                 have hxl := hx.bel
                 rw [hT] at hxb ⊢)
              | (obtain ⟨W7, hX⟩ : ∃ X, X = yw.alloc (.cells rv 44) := ⟨_, rfl⟩
                 have hx : RxX W6 W7 yw.heap.size rv pk pl := by rw [hX]; exact rxA HBD.out HRA.out
                 rw [← hX]
                 obtain ⟨T16, hT⟩ : ∃ T, yw.heap.size = T := ⟨_, rfl⟩
                 have hxb := hx.box
                 have hxr := hx.row
                 have hxl := hx.bel
                 rw [hT] at hxb ⊢)
            try clear hst2 ZZ zl Q5
            clear Q0 Q1 Q2 Q3 Q4 hst1 HRA HBD hx hX hT
            obtain ⟨sl2, rfl, hrow2⟩ := hxr
            obtain ⟨ya, yc, rfl, _⟩ := hrow2.open
            have hb := hxl
            have HB7 := hid (HB6.out.trans (hb.mono HB6.out.size))
            have V7 := hid (V6.out.below hb)
            have N7 := hid (blk_below N6.out hb (blk_lt N6.out))
            have M7 := hid (blk_below M6.out hb (blk_lt M6.out))
            have R7 := hid (R6.out.below hb)
            have HBL7 := hid (HBL6.out.trans (hb.mono HBL6.out.size))
            have D7 := hid (blk_below D6.out hb (blk_lt D6.out))
            have E7 := hid (RowOf.below E6.out hb)
            have F7 := hid hxb
            have HSM := hid (rrec_same pk (.slice xa pl.length xc) (.slice ya pl.length yc) pl W7 E7.out hrow2 (by have := HPL.out; omega))
            clear hb hxb hrow2 hxl
            unfold recV at HSM
            obtain ⟨d0, d1, df, dl⟩ := blk2 D7.out
            obtain ⟨f0, f1, ff, fl⟩ := blk2 F7.out
            have hok : (rb != rb) = false := by cases rb <;> rfl
            go_wp2_with fail
            refine HSM.out.mono ?_
            rintro e W8 ⟨rfl, hb⟩
            have HBL8 := hid (HBL7.out.trans (hb.mono HBL7.out.size))
            clear hb d0 d1 df dl f0 f1 ff fl
            go_wp2
            go_roundw
            case rel => exact ⟨n + 1, by omega, by go_num, HBL8.out⟩
            case measure => simp [intOf]; omega
      · obtain rfl : n = C.opens.length := by omega
        clear hlt hn
        have hld := V5.out.load
        have k0 : W5.cell? ⟨w.heap.size + 1, 0, none⟩ = some (.int .i64 C.epoch) := blk_cell N5.out 0
        have k1 : W5.cell? ⟨w.heap.size + 1, 1, none⟩ = some (.int .i64 C.next) := blk_cell N5.out 1
        have k2 : W5.cell? ⟨w.heap.size + 1, 2, none⟩ = some (.slice va C.opens.length vc) := blk_cell N5.out 2
        have kl := blk_lt N5.out
        have t0 : W5.cell? ⟨w.heap.size + 1 + 1, 0, none⟩ = some (.int .i64 c) := blk_cell M5.out 0
        have t1 : W5.cell? ⟨w.heap.size + 1 + 1, 1, none⟩ = some (.int .u8 k) := blk_cell M5.out 1
        have t2 : W5.cell? ⟨w.heap.size + 1 + 1, 2, none⟩ = some (.int .u8 dn) := blk_cell M5.out 2
        have t3 : W5.cell? ⟨w.heap.size + 1 + 1, 3, none⟩ = some (.int .i64 i) := blk_cell M5.out 3
        have t4 : W5.cell? ⟨w.heap.size + 1 + 1, 4, none⟩ = some (.slice sa sn sc) := blk_cell M5.out 4
        have t5 : W5.cell? ⟨w.heap.size + 1 + 1, 5, none⟩ = some (.bool m) := blk_cell M5.out 5
        have tl := blk_lt M5.out
        go_wp2_with fail
        refine (hear_any B bv C.epoch C.next c k i now dn (.slice va C.opens.length vc) C.opens sa sn sc m W5 V5.out.is R5.out (by have := G3.out; omega) h8 HFI.out hlM (HA.out.below HB5.out) (HC.out.below HB5.out) (HL.out.below HB5.out)).mono ?_
        clear hld t0 t1 t2 t3 t4 t5 tl kl
        clear k0 k1 k2
        rintro e Y6 ⟨v6, s6, rfl, hr, hs, hb0⟩
        obtain ⟨ra, rn, rc, rfl⟩ := hr.shape
        obtain ⟨H, hH⟩ : ∃ H, hearC ⟨C.epoch, C.next, C.opens⟩ c k = H := ⟨_, rfl⟩
        obtain ⟨l, hl⟩ : ∃ l, hearL B ⟨C.epoch, C.next, C.opens⟩ c k dn i now = l := ⟨_, rfl⟩
        have HLS := hid (show l.length ≤ 1 ∧ ∀ p ∈ l, p.2.length ≤ 3 by rw [← hl]; exact hearL_small ..)
        have HHL := hid (show H.length ≤ 60 by rw [← hH]; unfold hearC; split; · exact Nat.le_trans (kept_len ⟨C.epoch, C.next, C.opens⟩ _) G3.out
                                               · exact G3.out)
        rw [hH] at hs
        rw [hl] at hr
        have HHH := hid hH
        have HLL := hid hl
        obtain ⟨sa6, sc6, rfl, _⟩ := hs.open
        obtain ⟨W6, hW⟩ : ∃ W, W = Y6.alloc (.cells #[.int .i64 C.epoch, .int .i64 C.next, .slice sa6 H.length sc6] 33) := ⟨_, rfl⟩
        have hz : Below Y6.heap.size Y6 W6 := by rw [hW]; exact (Below.refl _ _).alloc (Nat.le_refl _) _
        have hb : Below W5.heap.size W5 W6 := hb0.trans (hz.mono hb0.size)
        have HB6 := hid (HB5.out.trans (hb.mono HB5.out.size))
        have V6 := hid (V5.out.below hb)
        have N6 := hid (blk_below N5.out hb (blk_lt N5.out))
        have M6 := hid (blk_below M5.out hb (blk_lt M5.out))
        have R6 := hid (R5.out.below hb)
        have P6 := hid (hr.below hz)
        have Q6 := hid (RowOf.below hs hz)
        have B0 : W6.heap[Y6.heap.size]? = some (.cells #[.int .i64 C.epoch, .int .i64 C.next, .slice sa6 H.length sc6] 33) := by rw [hW]; exact heap_new _ _
        clear hb hb0 hz hr hs hH hl kf
        unfold calls
        go_upto_region 15 with (fail)
        rw [← hW]
        obtain ⟨T19, hT⟩ : ∃ T, Y6.heap.size = T := ⟨_, rfl⟩
        have D6 := hid B0
        rw [hT] at D6 ⊢
        clear B0 hT hW
        have hld := V6.out.load
        have k0 : W6.cell? ⟨w.heap.size + 1, 0, none⟩ = some (.int .i64 C.epoch) := blk_cell N6.out 0
        have k1 : W6.cell? ⟨w.heap.size + 1, 1, none⟩ = some (.int .i64 C.next) := blk_cell N6.out 1
        have k2 : W6.cell? ⟨w.heap.size + 1, 2, none⟩ = some (.slice va C.opens.length vc) := blk_cell N6.out 2
        have kl := blk_lt N6.out
        have t0 : W6.cell? ⟨w.heap.size + 1 + 1, 0, none⟩ = some (.int .i64 c) := blk_cell M6.out 0
        have t1 : W6.cell? ⟨w.heap.size + 1 + 1, 1, none⟩ = some (.int .u8 k) := blk_cell M6.out 1
        have t2 : W6.cell? ⟨w.heap.size + 1 + 1, 2, none⟩ = some (.int .u8 dn) := blk_cell M6.out 2
        have t3 : W6.cell? ⟨w.heap.size + 1 + 1, 3, none⟩ = some (.int .i64 i) := blk_cell M6.out 3
        have t4 : W6.cell? ⟨w.heap.size + 1 + 1, 4, none⟩ = some (.slice sa sn sc) := blk_cell M6.out 4
        have t5 : W6.cell? ⟨w.heap.size + 1 + 1, 5, none⟩ = some (.bool m) := blk_cell M6.out 5
        have tl := blk_lt M6.out
        go_wp2_with fail
        refine (rhear_any B bv C.epoch C.next c k dn i now (.slice va C.opens.length vc) C.opens sa sn sc m W6 V6.out.is R6.out (by have := G3.out; omega) HWF.out HFI.out hlM).mono ?_
        clear hld t0 t1 t2 t3 t4 t5 tl kl
        clear k0 k1 k2
        rintro e Y7 ⟨v7, s7, rfl, hr, hs, hb0⟩
        rw [HHH.out] at hs
        rw [HLL.out] at hr
        obtain ⟨qa, qn, qc, rfl⟩ := hr.shape
        obtain ⟨sa7, sc7, rfl, _⟩ := hs.open
        obtain ⟨W7, hW⟩ : ∃ W, W = Y7.alloc (.cells #[.int .i64 C.epoch, .int .i64 C.next, .slice sa7 H.length sc7] 33) := ⟨_, rfl⟩
        have hz : Below Y7.heap.size Y7 W7 := by rw [hW]; exact (Below.refl _ _).alloc (Nat.le_refl _) _
        have hb : Below W6.heap.size W6 W7 := hb0.trans (hz.mono hb0.size)
        have HB7 := hid (HB6.out.trans (hb.mono HB6.out.size))
        have P7 := hid (P6.out.below hb)
        have Q7 := hid (RowOf.below Q6.out hb)
        have D7 := hid (blk_below D6.out hb (blk_lt D6.out))
        have O7 := hid (hr.below hz)
        have U7 := hid (RowOf.below hs hz)
        have B0 : W7.heap[Y7.heap.size]? = some (.cells #[.int .i64 C.epoch, .int .i64 C.next, .slice sa7 H.length sc7] 33) := by rw [hW]; exact heap_new _ _
        clear hb hb0 hz hr hs
        unfold calls
        go_upto_region 16 with (fail)
        rw [← hW]
        obtain ⟨T21, hT⟩ : ∃ T, Y7.heap.size = T := ⟨_, rfl⟩
        have F7 := hid B0
        rw [hT] at F7 ⊢
        clear B0 hT hW
        go_wp2_with fail
        refine (recs_is P7.out O7.out HLS.out.1 HLS.out.2).mono ?_
        rintro e W8 ⟨rfl, hb⟩
        have HB8 := hid (HB7.out.trans (hb.mono HB7.out.size))
        have hSA := hid (rsame_any C.epoch C.next C.epoch C.next (.slice sa6 H.length sc6) (.slice sa7 H.length sc7) H H W8 (RowOf.below Q7.out hb) (RowOf.below U7.out hb) (by have := HHL.out; omega) (by have := HHL.out; omega))
        unfold calls at hSA
        obtain ⟨d0, d1, d2, df, dl⟩ := blk3 (blk_below D7.out hb (blk_lt D7.out))
        obtain ⟨f0, f1, f2, ff, fl⟩ := blk3 (blk_below F7.out hb (blk_lt F7.out))
        clear hb
        go_wp2_with fail
        refine hSA.out.mono ?_
        rintro e W9 ⟨rfl, hb⟩
        rw [show sameV ⟨C.epoch, C.next, H⟩ ⟨C.epoch, C.next, H⟩ = true by simp [sameV]]
        have HB9 := hid (HB8.out.trans (hb.mono HB8.out.size))
        clear hb hSA d0 d1 d2 df dl f0 f1 f2 ff fl
        go_wp2_with fail
        refine (wakes_any W9 (HA.out.below HB9.out) (HC.out.below HB9.out) (HL.out.below HB9.out)).mono ?_
        rintro e Ww ⟨rfl, hb⟩
        have HBw := hid (HB9.out.trans (hb.mono HB9.out.size))
        clear hb
        go_wp2
        go_ret
        exact ⟨rfl, HBw.out⟩
end Go.Proofs.YthhgpiolcnojfaaGreatDoor
