import Derived.Test.YtgcajfglidflnaaGreatDoorVd
import Derived.Test.YtgcajfglidflnaaGreatDoorGtm
import Derived.Test.YtgcajfglidflnaaGreatDoorPlk
import Derived.BigQuiet
import Derived.Deep.Cut
/- Parts of a slice: how they are run, what they read as. -/
namespace Go.Proofs.YtgcajfglidflnaaGreatDoor
open Go.RowKit Go.Shelf
section
variable {P : Program} {α : Type} {k : Nat} {enc : α → List Value} {w : World} {l : List α} {a : Option Addr} {c : Nat}
theorem run_from (t e : TypeId) (i : TypeInfo) (ht : P.underlying t = some (.slice (P.elem t))) (he : P.elem t = e) (hi : P.info? e = some i) (hs : i.size = k) (a : Option Addr) (n c m : Nat) (hm : m ≤ n) (w : World) :
  (Instr.sliceAt t (.slice a n c) (some (.int .i64 (m : Int))) none none).run P w = .ok (sliced a m n c k) w := by
 rw [run_sliceAt_slice w t _ _ _ _ ht, run_slice_l w t a n c ht .i64 m (by omega) (by omega), he]
 simp [sizeOf, typeInfo, hi, hs, Result.andThen]
theorem run_upto (t e : TypeId) (i : TypeInfo) (ht : P.underlying t = some (.slice (P.elem t))) (he : P.elem t = e) (hi : P.info? e = some i) (hs : i.size = k) (a : Option Addr) (n c m : Nat) (hm : m ≤ c) (w : World) :
  (Instr.sliceAt t (.slice a n c) none (some (.int .i64 (m : Int))) none).run P w = .ok (sliced a 0 m c k) w := by
 rw [run_sliceAt_slice w t _ _ _ _ ht, run_slice_h w t a n c ht .i64 m (by omega) (by omega), he]
 simp [sizeOf, typeInfo, hi, hs, Result.andThen]
theorem row_from (h : RowOf k enc w (.slice a l.length c) l) {m : Nat} (hm : m ≤ l.length) : RowOf k enc w (sliced a m l.length c k) (l.drop m) := by
 rcases h with ⟨ad, c', e, rfl, h1, h2⟩ | ⟨h0, b, off, c', e, h1, h2, hb, hrow⟩
 ·simp at hm
  subst hm
  simp only [List.length_nil, Value.slice.injEq, true_and] at e
  obtain ⟨rfl, rfl⟩ := e
  refine .inl ⟨_, c - 0, rfl, rfl, fun hn => ?_, by omega⟩
  split at hn
  ·have := h1 hn; omega
  ·cases a with
   | none => have := h1 rfl; omega
   | some x => simp at hn
 ·simp only [Value.slice.injEq, true_and] at e
  obtain ⟨rfl, rfl⟩ := e
  by_cases hml : m = l.length
  ·subst hml
   refine .inl ⟨_, c - l.length, by unfold sliced; rw [Nat.sub_self], by simp, fun hn => ?_, by omega⟩
   split at hn <;> simp at hn
  ·have hck : ¬ c = m := by omega
   refine .inr ⟨by simp; omega, b, off + m * k, c - m, ?_, by simp; omega, by omega, hb, ?_⟩
   ·unfold sliced
    rw [if_neg hck]
    simp [add_lit]
   ·intro i x hi j v hj
    rw [List.getElem?_drop] at hi
    have := hrow (m + i) x hi j v hj
    rw [← this]
    congr 2
    rw [Nat.add_mul]
    omega
theorem row_upto (h : RowOf k enc w (.slice a l.length c) l) {m : Nat} (hm : m ≤ l.length) : RowOf k enc w (sliced a 0 m c k) (l.take m) := by
 have e0 : sliced a 0 m c k = .slice a m c := by
  unfold sliced
  split
  ·rename_i hc
   rw [hc]
   rfl
  ·cases a with
   | none => rfl
   | some x =>
    obtain ⟨b, o, z⟩ := x
    unfold Addr.add
    cases z <;> simp
 rw [e0]
 rcases h with ⟨ad, c', e, rfl, h1, h2⟩ | ⟨h0, b, off, c', e, h1, h2, hb, hrow⟩
 ·simp at hm
  subst hm
  simp only [List.length_nil, Value.slice.injEq, true_and] at e
  obtain ⟨rfl, rfl⟩ := e
  exact .inl ⟨a, c, rfl, rfl, h1, h2⟩
 ·simp only [Value.slice.injEq, true_and] at e
  obtain ⟨rfl, rfl⟩ := e
  by_cases hm0 : m = 0
  ·subst hm0
   exact .inl ⟨_, c, rfl, by simp, (fun h => by cases h), h2⟩
  ·refine .inr ⟨by simp; omega, b, off, c, by simp; omega, by simp; omega, h2, hb, ?_⟩
   intro i x hi j v hj
   rw [List.getElem?_take] at hi
   split at hi
   ·exact hrow i x hi j v hj
   ·cases hi
end
end Go.Proofs.YtgcajfglidflnaaGreatDoor

/- herdref13.keep: an instance is kept. Printed by gn_ra1.py. -/
namespace Go.Proofs.YtgcajfglidflnaaGreatDoor
open Go.RowKit Go.Shelf
attribute [-go_sem] loadVar storeVar Instr.buildSlice sliced run_sliceAt_slice
attribute [local go_sem] load_other store_other

theorem bs_kpN (w : World) : (Instr.buildSlice 29 0 #[]).run Tryz.prog w = .ok (.slice (some ⟨w.heap.size, 0, none⟩) 0 0) (w.alloc (.cells #[] 51)) := by kernel_rfl
theorem bs_inN (w : World) : (Instr.buildSlice 28 0 #[]).run Tryz.prog w = .ok (.slice (some ⟨w.heap.size, 0, none⟩) 0 0) (w.alloc (.cells #[] 54)) := by kernel_rfl
theorem bs_kp1 (x : KeptV) (w : World) : (Instr.buildSlice 29 1 #[(0, encKv x)]).run Tryz.prog w = .ok (.slice (some ⟨w.heap.size, 0, none⟩) 1 1) (w.alloc (.cells (encKp x).toArray 51)) := by kernel_rfl
theorem from_kp (a : Option Addr) (n c m : Nat) (hm : m ≤ n) (w : World) : (Instr.sliceAt 29 (.slice a n c) (some (.int .i64 (m : Int))) none none).run Tryz.prog w = .ok (sliced a m n c 8) w := by
 obtain ⟨k0, hk0, _, hk2, _⟩ := info_parts infoKp
 exact run_from _ 51 k0 (by kernel_rfl) (by kernel_rfl) hk0 hk2 a n c m hm w
theorem upto_kp (a : Option Addr) (n c m : Nat) (hm : m ≤ c) (w : World) : (Instr.sliceAt 29 (.slice a n c) none (some (.int .i64 (m : Int))) none).run Tryz.prog w = .ok (sliced a 0 m c 8) w := by
 obtain ⟨k0, hk0, _, hk2, _⟩ := info_parts infoKp
 exact run_upto _ 51 k0 (by kernel_rfl) (by kernel_rfl) hk0 hk2 a n c m hm w
theorem from_in (a : Option Addr) (n c m : Nat) (hm : m ≤ n) (w : World) : (Instr.sliceAt 28 (.slice a n c) (some (.int .i64 (m : Int))) none none).run Tryz.prog w = .ok (sliced a m n c 4) w := by
 obtain ⟨k0, hk0, _, hk2, _⟩ := info_parts infoIn
 exact run_from _ 54 k0 (by kernel_rfl) (by kernel_rfl) hk0 hk2 a n c m hm w
theorem upto_in (a : Option Addr) (n c m : Nat) (hm : m ≤ c) (w : World) : (Instr.sliceAt 28 (.slice a n c) none (some (.int .i64 (m : Int))) none).run Tryz.prog w = .ok (sliced a 0 m c 4) w := by
 obtain ⟨k0, hk0, _, hk2, _⟩ := info_parts infoIn
 exact run_upto _ 54 k0 (by kernel_rfl) (by kernel_rfl) hk0 hk2 a n c m hm w
theorem one_of {α : Type} {enc : α → List Value} (h : ∀ x, ∀ u ∈ enc x, u.oneCell' = true) (m : List α) : ∀ y ∈ m, ∀ u ∈ enc y, u.oneCell' = true := fun y _ u hu => h y u hu
theorem placeK_at {K : List KeptV} {t : Int} {k : Nat} {y : KeptV} (hy : K[k]? = some y) (h1 : decide (t < y.id) = true) (h0 : ∀ z ∈ K.take k, decide (t < z.id) = false) : placeK K t = k := by
 have h := idxL_at (p := fun y : KeptV => decide (t < y.id)) hy h1 h0
 have h2 := placeK_idx K t
 rw [h, if_neg (by omega)] at h2
 omega
theorem placeK_end {K : List KeptV} {t : Int} (h0 : ∀ z ∈ K, decide (t < z.id) = false) : placeK K t = K.length := placeK_neg (by
 rw [idxL_no (p := fun y : KeptV => decide (t < y.id)) h0]; omega)
section
variable {base : World} {b : Nat} {B : BrainV} {mv iv kv : Value} {W : World}
theorem BO.end (h : BO base b B mv iv kv W) : BrEnd base B (.agg (brT B.f B.g mv iv kv)) W := ⟨mv, iv, kv, rfl, h.rm, h.ri, h.rk⟩
/-- A brain in hand, boxed. -/
theorem BrEnd.box {v : Value} (h : BrEnd base B v W) (hb : Below base.heap.size base W) : ∃ mv iv kv, v = .agg (brT B.f B.g mv iv kv) ∧ BO base W.heap.size B mv iv kv (W.alloc (.cells (brT B.f B.g mv iv kv) 33)) := by
 obtain ⟨mv, iv, kv, rfl, h1, h2, h3⟩ := h
 have hal : Below W.heap.size W (W.alloc (.cells (brT B.f B.g mv iv kv) 33)) := (Below.refl _ _).alloc (Nat.le_refl _) _
 exact ⟨mv, iv, kv, rfl, heap_new _ _, hb.size, h1.kept (KeptT.below hal), h2.below hal, h3.below hal, hb.alloc hb.size _⟩
/-- A brain of the call's own is stored as the result. -/
theorem BO.fin (h : BO base b B mv iv kv W) {T : Nat} {c : Array Value} (hz : W.heap[T]? = some (.cells c 33)) (hc : c.size = 27) (hT : base.heap.size ≤ T) :
  ∃ X m i k, (storeVar 33 ⟨T, 0, none⟩ (.agg (brT B.f B.g mv iv kv))).run Tryz.prog W = .ok () X ∧ BB X T (brT B.f B.g m i k) ∧ BrEnd base B (.agg (brT B.f B.g m i k)) X ∧ Below base.heap.size base X ∧ ∀ V : World, Below V.heap.size V W → V.heap.size ≤ T → Below V.heap.size V X := by
 obtain ⟨X, hst, hvar, hbv, hbx, _, _⟩ := brEnd_store h.end hz hc h.bel hT
 have he := hbv.end hvar
 obtain ⟨m, i, k, e, bb, _⟩ := hvar
 refine ⟨X, m, i, k, hst, bb, by rw [← e]; exact he, hbx, fun V hV hTV => ?_⟩
 obtain ⟨X', hst', _, _, hbx', _, _⟩ := brEnd_store h.end hz hc hV hTV
 rw [hst] at hst'
 cases hst'
 exact hbx'
theorem BO.iv_shape (h : BO base b B mv iv kv W) : ∃ a c, iv = .slice a B.I.length c ∧ RowOf 4 encIn W (.slice a B.I.length c) B.I := by
 have hr := Owns.row h.ri encIn_len (by decide)
 obtain ⟨a, c, e, _⟩ := hr.open
 exact ⟨a, c, e, by rw [← e]; exact hr⟩
theorem BO.kv_shape (h : BO base b B mv iv kv W) : ∃ a c, kv = .slice a B.K.length c ∧ RowOf 8 encKp W (.slice a B.K.length c) B.K := by
 have hr := Owns.row h.rk encKp_len (by decide)
 obtain ⟨a, c, e, _⟩ := hr.open
 exact ⟨a, c, e, by rw [← e]; exact hr⟩
set_option maxRecDepth 100000 in
set_option maxHeartbeats 4000000 in
theorem rkeep_any (x : KeptV) {v : Value} (h : BrEnd base B v W) (hbW : Below base.heap.size base W) (hl : B.K.length ≤ 10000) :
  Calls Tryz.prog 64 #[v, encKv x] W fun e W' => ∃ u, e = .returned u ∧ BrEnd base (keepB B x) u W' ∧ Below W.heap.size W W' := by
 obtain ⟨k0, hk0, hk1, hk2, hk3⟩ := info_parts infoKp
 have HI0 := hid hk0
 have HI1 := hid hk1
 have HI2 := hid hk2
 have HI3 := hid hk3
 clear hk0 hk1 hk2 hk3
 obtain ⟨mv, iv, kv, rfl, ho⟩ := h.box hbW
 obtain ⟨W1, hW1⟩ : ∃ V, V = ((W.alloc (.cells (brT B.f B.g mv iv kv) 33)).alloc (.cells (encKp x).toArray 51)).alloc (.cells #[.int .i64 0, .int .i64 0, .bool false, .int .i64 0, .int .i64 0, .int .i64 0, .int .i64 0, .int .i64 0, .int .i64 0, .int .i64 0, .int .i64 0, .int .i64 0, .int .i64 0, .int .i64 0, .int .i64 0, .int .i64 0, .bool false, .slice none 0 0, .slice none 0 0, .slice none 0 0, .int .u8 0, .int .i64 0, .int .i64 0, .int .i64 0, .bool false, .int .i64 0, .int .i64 0] 33) := ⟨_, rfl⟩
 have hb0 : Below (W.heap.size + 1) (W.alloc (.cells (brT B.f B.g mv iv kv) 33)) W1 := by
  rw [hW1]
  have := ((Below.refl (W.alloc (.cells (brT B.f B.g mv iv kv) 33)).heap.size (W.alloc (.cells (brT B.f B.g mv iv kv) 33))).alloc (Nat.le_refl _) (.cells (encKp x).toArray 51)).alloc (by simp) (.cells #[.int .i64 0, .int .i64 0, .bool false, .int .i64 0, .int .i64 0, .int .i64 0, .int .i64 0, .int .i64 0, .int .i64 0, .int .i64 0, .int .i64 0, .int .i64 0, .int .i64 0, .int .i64 0, .int .i64 0, .int .i64 0, .bool false, .slice none 0 0, .slice none 0 0, .slice none 0 0, .int .u8 0, .int .i64 0, .int .i64 0, .int .i64 0, .bool false, .int .i64 0, .int .i64 0] 33)
  simpa using this
 have H1 := ho.below (by simpa using hb0)
 have x1 : W1.heap[W.heap.size + 1]? = some (.cells (encKp x).toArray 51) := by rw [hW1]; exact blk_alloc (heap_new2 _ _ _) _
 have z1 : W1.heap[W.heap.size + 2]? = some (.cells #[.int .i64 0, .int .i64 0, .bool false, .int .i64 0, .int .i64 0, .int .i64 0, .int .i64 0, .int .i64 0, .int .i64 0, .int .i64 0, .int .i64 0, .int .i64 0, .int .i64 0, .int .i64 0, .int .i64 0, .int .i64 0, .bool false, .slice none 0 0, .slice none 0 0, .slice none 0 0, .int .u8 0, .int .i64 0, .int .i64 0, .int .i64 0, .bool false, .int .i64 0, .int .i64 0] 33) := by rw [hW1]; have := heap_new ((W.alloc (.cells (brT B.f B.g mv iv kv) 33)).alloc (.cells (encKp x).toArray 51)) (.cells #[.int .i64 0, .int .i64 0, .bool false, .int .i64 0, .int .i64 0, .int .i64 0, .int .i64 0, .int .i64 0, .int .i64 0, .int .i64 0, .int .i64 0, .int .i64 0, .int .i64 0, .int .i64 0, .int .i64 0, .int .i64 0, .bool false, .slice none 0 0, .slice none 0 0, .slice none 0 0, .int .u8 0, .int .i64 0, .int .i64 0, .int .i64 0, .bool false, .int .i64 0, .int .i64 0] 33); simpa using this
 have hb1 : Below W.heap.size W W1 := ((Below.refl W.heap.size W).alloc (Nat.le_refl _) (.cells (brT B.f B.g mv iv kv) 33)).trans (hb0.mono (Nat.le_succ _))
 obtain ⟨ka, kc, rfl, hrow⟩ := H1.kv_shape
 obtain ⟨_, _, e0, p1, p2, p3, hop⟩ := hrow.open
 simp only [Value.slice.injEq, true_and] at e0
 obtain ⟨rfl, rfl⟩ := e0
 have HW1 := hid hW1
 have HO1 := hid H1
 have HX1 := hid x1
 have HZ1 := hid z1
 have HB1 := hid hb1
 have HOP := hid hop
 have HROW := hid hrow
 have HBW := hid hbW
 have hbN := bs_kpN
 have hbX := bs_kp1 x
 unfold encKv at hbX
 unfold encKp at hW1
 clear ho hb0 H1 x1 z1 hb1 hop hrow h hbW
 unfold encKv
 go_enter Tryz.func64, Tryz.ntmps64
 go_wp2
 rw [← hW1]
 clear hW1
 go_loopw [5] (fun i wr => ∃ k : Nat, k ≤ B.K.length ∧ i = .int .i64 k ∧ (∀ y ∈ B.K.take k, decide (x.id < y.id) = false) ∧ Below W1.heap.size W1 wr) (fun i _ => B.K.length - (intOf i).toNat)
 case atStart => exact ⟨0, Nat.zero_le _, rfl, (fun y hy => by simp at hy), Below.refl _ _⟩
 case round =>
  obtain ⟨k, hk, rfl, hno, hBr⟩ := hrel
  have HNO := hid hno
  have HBr := hid hBr
  have HOr := hid (HO1.out.below hBr)
  have HXr := hid (blk_below HX1.out hBr (blk_lt HX1.out))
  have HZr := hid (blk_below HZ1.out hBr (blk_lt HZ1.out))
  have c19 : wr.cell? ⟨W.heap.size, 19, none⟩ = some (.slice ka B.K.length kc) := HOr.out.cell 19 _ rfl
  have lb := HOr.out.lt
  have lx := blk_lt HXr.out
  have y0 : wr.cell? ⟨W.heap.size + 1, 0, none⟩ = some (.int .i64 x.id) := blk_cell HXr.out 0
  clear hno hBr
  have hgo : (k < B.K.length ∧ ∃ y, B.K[k]? = some y ∧ decide (x.id < y.id) = false) ∨ (placeK B.K x.id = k ∧ (k = B.K.length ∨ ∃ y, B.K[k]? = some y ∧ decide (x.id < y.id) = true)) := by
   by_cases hlt : k < B.K.length
   ·obtain ⟨y, hy⟩ := get_lt hlt
    cases hd : decide (x.id < y.id) with
    | false => exact .inl ⟨hlt, y, hy, hd⟩
    | true => exact .inr ⟨placeK_at hy hd HNO.out, .inr ⟨y, hy, hd⟩⟩
   ·have e : k = B.K.length := by omega
    refine .inr ⟨?_, .inl e⟩
    rw [e]
    exact placeK_end (by have := HNO.out; rw [e, List.take_length] at this; exact this)
  rcases hgo with ⟨hlt, y, hy, hd⟩ | ⟨hpl, hor⟩
  ·obtain ⟨b1, o1, rfl, hb1, hr1⟩ := HOP.out (by omega)
   obtain ⟨g0, _, _, _, _, _, _, _⟩ := rowK (hr1.below HBr.out hb1) hy
   have hkL : (k : Int) < (B.K.length : Int) := by omega
   have hb1w : b1 < wr.heap.size := Nat.lt_of_lt_of_le hb1 HBr.out.size
   have HN := hid (idxL_next (p := fun y : KeptV => decide (x.id < y.id)) hy HNO.out hd)
   have hle : y.id ≤ x.id := by simpa using hd
   obtain ⟨yi, hyi⟩ : ∃ u, y.id = u := ⟨_, rfl⟩
   obtain ⟨xi, hxi⟩ : ∃ u, x.id = u := ⟨_, rfl⟩
   rw [hyi, hxi] at hle
   rw [hyi] at g0
   rw [hxi] at y0
   clear hy hd hr1 hyi hxi
   go_wp2
   go_quiet (fail)
   go_wp2
   go_roundw
   case rel => exact ⟨k + 1, by omega, by go_num, HN.out, below_drewN HBr.out _⟩
   case measure => simp [intOf]; omega
  ·have HPL := hid hpl
   rcases hor with e | ⟨y, hy, hd⟩
   ·clear hpl
    subst e
    go_wp2
    go_quiet (fail)
    go_wp2_with fail
    obtain ⟨V, hV⟩ : ∃ V : World, V = wr.drewN nq := ⟨_, rfl⟩
    have hBV : Below wr.heap.size wr V := by rw [hV]; exact below_drewN (Below.refl _ _) _
    rw [← hV]
    have HOV := hid (HOr.out.below hBV)
    have HXV := hid (blk_below HXr.out hBV (blk_lt HXr.out))
    have HZV := hid (blk_below HZr.out hBV (blk_lt HZr.out))
    have HBV := hid (HBr.out.trans (hBV.mono HBr.out.size))
    have HROWV := hid (HROW.out.below HBV.out)
    clear hV hBV c19 y0 lb lx
    refine wp_region_cut 14 2 (fun _ => True) (by kernel_rfl) (by kernel_rfl) (by kernel_rfl) ?_
    simp only [List.take_succ_cons, List.take_zero]
    refine wpAnyH_grownD (w0 := V.drew) (spL _) (relD [8, 13] (KeptT 33) [5] KeptE) (aliveD [(5, 0), (8, 5), (8, 7), (13, 8)]) (ancD [(5, 8), (5, 13), (8, 13)]) (spD (n := 14) (m := 14) (l := [NewRow 51 V.heap.size, fun z _ => z = .pointer (some ⟨W.heap.size, 19, none⟩), fun z _ => z = .slice ka B.K.length kc, fun z _ => z = .int .i64 (B.K.length : Int), fun z _ => z = sliced ka 0 B.K.length kc 8, fun v w => OwnK w V.heap.size v ([] ++ B.K.take (B.K.length)), fun z _ => z = .agg #[.int .i64 x.id, .int .i64 x.token, .int .i64 x.version, .int .i64 x.zone, .int .u8 x.phase, .int .i64 x.since, .bool x.guarded, .bool x.complete], NewOne 51 (encKp x) V.heap.size, fun v w => OwnK w V.heap.size v ([] ++ B.K.take (B.K.length) ++ [x]), fun z _ => z = .pointer (some ⟨W.heap.size, 19, none⟩), fun z _ => z = .slice ka B.K.length kc, fun z _ => z = .int .i64 (B.K.length : Int), fun z _ => z = sliced ka B.K.length B.K.length kc 8, fun v w => OwnK w V.heap.size v ([] ++ B.K.take (B.K.length) ++ [x] ++ B.K.drop (B.K.length))]) (apps := [8, 13]) (stab := [1, 2, 3, 4, 6, 9, 10, 11, 12]) (appsE := [5]) (stabE := [1, 2, 3, 4, 6, 7, 9, 10, 11, 12]) ⟨stays_newRow _ _, stays_eq _, stays_eq _, stays_eq _, stays_eq _, stays_owns 8 _ encKp _ _, stays_eq _, stays_newOne _ _ _, stays_owns 8 _ encKp _ _, stays_eq _, stays_eq _, stays_eq _, stays_eq _, stays_owns 8 _ encKp _ _, trivial⟩ ⟨stw_eq _ _, stw_eq _ _, stw_eq _ _, stw_eq _ _, stw_eq _ _, stw_eq _ _, stw_eq _ _, stw_eq _ _, stw_eq _ _, trivial⟩ ⟨stw_eq _ _, stw_eq _ _, stw_eq _ _, stw_eq _ _, stw_eq _ _, stwE_newOne _ _ _ (by simp [encKp]), stw_eq _ _, stw_eq _ _, stw_eq _ _, stw_eq _ _, trivial⟩ rfl (by decide) (by decide)) (by kernel_rfl) (by kernel_rfl) (by kernel_rfl) (by kernel_rfl) ?steps4 ?fin4 rfl
    case steps4 =>
     refine ⟨?_, ?_, ?_, ?_, ?_, ?_, ?_, ?_, ?_, ?_, ?_, ?_, ?_, ?_, trivial⟩
     ·intro a' w' hB hdep hoth K hK
      have hK := growB hB hK
      rw [if_pos (guard_none rfl)]
      have hbw : Below V.heap.size V w' := (below_drewN (Below.refl _ _) 1).trans hB
      clear hdep hoth
      go_simp
      exact hK _ _ ((Below.refl _ _).alloc (Nat.le_refl _) _) ⟨_, rfl, hbw.size, heap_new _ _⟩
     ·intro a' w' hB hdep hoth K hK
      have hK := growB hB hK
      rw [if_pos (guard_none rfl)]
      have hbw : Below V.heap.size V w' := (below_drewN (Below.refl _ _) 1).trans hB
      have t2 := hoth 2 (notDst_at (by kernel_rfl))
      simp only [List.getElem?_toArray, List.getElem?_cons_succ, List.getElem?_cons_zero] at t2
      clear hdep hoth
      go_simp
      exact hK _ _ (Below.refl _ _) rfl
     ·intro a' w' hB hdep hoth K hK
      have hK := growB hB hK
      rw [if_pos (guard_none rfl)]
      have hbw : Below V.heap.size V w' := (below_drewN (Below.refl _ _) 1).trans hB
      obtain ⟨vx0, gx0, ex0⟩ := hdep ⟨1, .data⟩ (by simp) rfl
      have gx0 := gx0 25 rfl (by simp)
      obtain rfl : vx0 = .pointer (some ⟨W.heap.size, 19, none⟩) := ex0
      have c19 : w'.cell? ⟨W.heap.size, 19, none⟩ = some (.slice ka B.K.length kc) := (HOV.out.below hbw).cell 19 _ rfl
      have lb := (HOV.out.below hbw).lt
      clear hdep hoth
      go_simp
      exact hK _ _ (Below.refl _ _) rfl
     ·intro a' w' hB hdep hoth K hK
      have hK := growB hB hK
      rw [if_pos (guard_none rfl)]
      have hbw : Below V.heap.size V w' := (below_drewN (Below.refl _ _) 1).trans hB
      have t5 := hoth 5 (notDst_at (by kernel_rfl))
      simp only [List.getElem?_toArray, List.getElem?_cons_succ, List.getElem?_cons_zero] at t5
      clear hdep hoth
      go_simp
      exact hK _ _ (Below.refl _ _) rfl
     ·intro a' w' hB hdep hoth K hK
      have hK := growB hB hK
      rw [if_pos (guard_none rfl)]
      have hbw : Below V.heap.size V w' := (below_drewN (Below.refl _ _) 1).trans hB
      obtain ⟨vx0, gx0, ex0⟩ := hdep ⟨2, .data⟩ (by simp) rfl
      have gx0 := gx0 26 rfl (by simp)
      obtain rfl : vx0 = .slice ka B.K.length kc := ex0
      obtain ⟨vx1, gx1, ex1⟩ := hdep ⟨3, .data⟩ (by simp) rfl
      have gx1 := gx1 27 rfl (by simp)
      obtain rfl : vx1 = .int .i64 (B.K.length : Int) := ex1
      have hsl := upto_kp (ka) B.K.length kc (B.K.length) (by omega)
      clear hdep hoth
      go_simp
      exact hK _ _ (Below.refl _ _) rfl
     ·intro a' w' hB hdep hoth K hK
      have hbw : Below V.heap.size V w' := (below_drewN (Below.refl _ _) 1).trans hB
      obtain ⟨vO, gO, eO⟩ := hdep ⟨0, .data⟩ (by simp) rfl
      have gO := gO 24 rfl (by simp)
      obtain ⟨vx, gx, ex⟩ := hdep ⟨4, .data⟩ (by simp) rfl
      have gx := gx 28 rfl (by simp)
      obtain rfl : vx = sliced ka 0 B.K.length kc 8 := ex
      obtain ⟨g, rfl, hg1, hg0⟩ := eO
      have eO : OwnK w' V.heap.size (.slice (some ⟨g, 0, none⟩) 0 0) [] := newRow_owns hg1 hg0
      refine step_append_row rfl _ _ 29 rfl V.heap.size 51 k0 _ 56 Tryz.underlying29 HI0.out HI1.out HI2.out HI3.out rfl (by decide) encKp_len _ ([]) (by simp [Act.eval, gO]) eO (sliced ka 0 B.K.length kc 8) (B.K.take (B.K.length)) (by simp [Act.eval, gx]) (one_of encKp_one _) (row_upto (HROWV.out.below hbw) (by omega)) (by unfold maxLen; simp; omega) (by simp; omega) hbw.size ?_
      intro v' w'' hown hbb hgr
      exact hK v' w'' (hB.trans hbb) (keptE_of hgr hg0) hown
     ·intro a' w' hB hdep hoth K hK
      have hK := growB hB hK
      rw [if_pos (guard_none rfl)]
      have hbw : Below V.heap.size V w' := (below_drewN (Below.refl _ _) 1).trans hB
      have t3 := hoth 3 (notDst_at (by kernel_rfl))
      simp only [List.getElem?_toArray, List.getElem?_cons_succ, List.getElem?_cons_zero] at t3
      have hxx := blk_below HXV.out hbw (blk_lt HXV.out)
      have y0 : w'.cell? ⟨W.heap.size + 1, 0, none⟩ = some (.int .i64 x.id) := blk_cell hxx 0
      have y1 : w'.cell? ⟨W.heap.size + 1, 1, none⟩ = some (.int .i64 x.token) := blk_cell hxx 1
      have y2 : w'.cell? ⟨W.heap.size + 1, 2, none⟩ = some (.int .i64 x.version) := blk_cell hxx 2
      have y3 : w'.cell? ⟨W.heap.size + 1, 3, none⟩ = some (.int .i64 x.zone) := blk_cell hxx 3
      have y4 : w'.cell? ⟨W.heap.size + 1, 4, none⟩ = some (.int .u8 x.phase) := blk_cell hxx 4
      have y5 : w'.cell? ⟨W.heap.size + 1, 5, none⟩ = some (.int .i64 x.since) := blk_cell hxx 5
      have y6 : w'.cell? ⟨W.heap.size + 1, 6, none⟩ = some (.bool x.guarded) := blk_cell hxx 6
      have y7 : w'.cell? ⟨W.heap.size + 1, 7, none⟩ = some (.bool x.complete) := blk_cell hxx 7
      have lx := blk_lt hxx
      clear hxx
      clear hdep hoth
      go_simp
      exact hK _ _ (Below.refl _ _) rfl
     ·intro a' w' hB hdep hoth K hK
      have hK := growB hB hK
      rw [if_pos (guard_none rfl)]
      have hbw : Below V.heap.size V w' := (below_drewN (Below.refl _ _) 1).trans hB
      obtain ⟨v0, q0, e0⟩ := hdep ⟨6, .data⟩ (by simp) rfl
      have q0 := q0 30 rfl (by simp)
      obtain rfl : v0 = .agg #[.int .i64 x.id, .int .i64 x.token, .int .i64 x.version, .int .i64 x.zone, .int .u8 x.phase, .int .i64 x.since, .bool x.guarded, .bool x.complete] := e0
      clear hdep hoth
      go_simp
      exact hK _ _ ((Below.refl _ _).alloc (Nat.le_refl _) _) ⟨_, rfl, hbw.size, heap_new _ _⟩
     ·intro a' w' hB hdep hoth K hK
      have hbw : Below V.heap.size V w' := (below_drewN (Below.refl _ _) 1).trans hB
      obtain ⟨vO, gO, eO⟩ := hdep ⟨5, .data⟩ (by simp) rfl
      have gO := gO 29 rfl (by simp)
      obtain ⟨vx, gx, ex⟩ := hdep ⟨7, .data⟩ (by simp) rfl
      have gx := gx 31 rfl (by simp)
      have ex : NewOne 51 (encKp x) V.heap.size vx w' := ex
      have eO : OwnK w' V.heap.size vO ([] ++ B.K.take (B.K.length)) := eO
      refine step_append_row rfl _ _ 29 rfl V.heap.size 51 k0 _ 56 Tryz.underlying29 HI0.out HI1.out HI2.out HI3.out rfl (by decide) encKp_len _ ([] ++ B.K.take (B.K.length)) (by simp [Act.eval, gO]) eO (vx) ([x]) (by simp [Act.eval, gx]) (one_of encKp_one _) (newOne_row encKp_len ex) (by unfold maxLen; simp; omega) (by simp; omega) hbw.size ?_
      intro v' w'' hown hbb hgr
      exact hK v' w'' (hB.trans hbb) (KeptT.grown hgr (fun r e => Owns.typed eO r e) (by decide)) hown
     ·intro a' w' hB hdep hoth K hK
      have hK := growB hB hK
      rw [if_pos (guard_none rfl)]
      have hbw : Below V.heap.size V w' := (below_drewN (Below.refl _ _) 1).trans hB
      have t2 := hoth 2 (notDst_at (by kernel_rfl))
      simp only [List.getElem?_toArray, List.getElem?_cons_succ, List.getElem?_cons_zero] at t2
      clear hdep hoth
      go_simp
      exact hK _ _ (Below.refl _ _) rfl
     ·intro a' w' hB hdep hoth K hK
      have hK := growB hB hK
      rw [if_pos (guard_none rfl)]
      have hbw : Below V.heap.size V w' := (below_drewN (Below.refl _ _) 1).trans hB
      obtain ⟨vx0, gx0, ex0⟩ := hdep ⟨9, .data⟩ (by simp) rfl
      have gx0 := gx0 33 rfl (by simp)
      obtain rfl : vx0 = .pointer (some ⟨W.heap.size, 19, none⟩) := ex0
      have c19 : w'.cell? ⟨W.heap.size, 19, none⟩ = some (.slice ka B.K.length kc) := (HOV.out.below hbw).cell 19 _ rfl
      have lb := (HOV.out.below hbw).lt
      clear hdep hoth
      go_simp
      exact hK _ _ (Below.refl _ _) rfl
     ·intro a' w' hB hdep hoth K hK
      have hK := growB hB hK
      rw [if_pos (guard_none rfl)]
      have hbw : Below V.heap.size V w' := (below_drewN (Below.refl _ _) 1).trans hB
      have t5 := hoth 5 (notDst_at (by kernel_rfl))
      simp only [List.getElem?_toArray, List.getElem?_cons_succ, List.getElem?_cons_zero] at t5
      clear hdep hoth
      go_simp
      exact hK _ _ (Below.refl _ _) rfl
     ·intro a' w' hB hdep hoth K hK
      have hK := growB hB hK
      rw [if_pos (guard_none rfl)]
      have hbw : Below V.heap.size V w' := (below_drewN (Below.refl _ _) 1).trans hB
      obtain ⟨vx0, gx0, ex0⟩ := hdep ⟨10, .data⟩ (by simp) rfl
      have gx0 := gx0 34 rfl (by simp)
      obtain rfl : vx0 = .slice ka B.K.length kc := ex0
      obtain ⟨vx1, gx1, ex1⟩ := hdep ⟨11, .data⟩ (by simp) rfl
      have gx1 := gx1 35 rfl (by simp)
      obtain rfl : vx1 = .int .i64 (B.K.length : Int) := ex1
      have hsl := from_kp (ka) B.K.length kc (B.K.length) (by omega)
      clear hdep hoth
      go_simp
      exact hK _ _ (Below.refl _ _) rfl
     ·intro a' w' hB hdep hoth K hK
      have hbw : Below V.heap.size V w' := (below_drewN (Below.refl _ _) 1).trans hB
      obtain ⟨vO, gO, eO⟩ := hdep ⟨8, .data⟩ (by simp) rfl
      have gO := gO 32 rfl (by simp)
      obtain ⟨vx, gx, ex⟩ := hdep ⟨12, .data⟩ (by simp) rfl
      have gx := gx 36 rfl (by simp)
      obtain rfl : vx = sliced ka B.K.length B.K.length kc 8 := ex
      have eO : OwnK w' V.heap.size vO ([] ++ B.K.take (B.K.length) ++ [x]) := eO
      refine step_append_row rfl _ _ 29 rfl V.heap.size 51 k0 _ 56 Tryz.underlying29 HI0.out HI1.out HI2.out HI3.out rfl (by decide) encKp_len _ ([] ++ B.K.take (B.K.length) ++ [x]) (by simp [Act.eval, gO]) eO (sliced ka B.K.length B.K.length kc 8) (B.K.drop (B.K.length)) (by simp [Act.eval, gx]) (one_of encKp_one _) (row_from (HROWV.out.below hbw) (by omega)) (by unfold maxLen; simp; omega) (by simp; omega) hbw.size ?_
      intro v' w'' hown hbb hgr
      exact hK v' w'' (hB.trans hbb) (KeptT.grown hgr (fun r e => Owns.typed eO r e) (by decide)) hown
    case fin4 =>
     intro vs w' hB hs
     have hbw : Below V.heap.size V w' := (below_drewN (Below.refl _ _) 1).trans hB
     have e13 := hs 13 (by decide) (by decide)
     have e13 : OwnK w' V.heap.size (vs 13) ([] ++ B.K.take (B.K.length) ++ [x] ++ B.K.drop (B.K.length)) := e13
     clear hs
     refine cutQ_held (fun _ => True) (fun f => ?_)
     simp only [actOf, dstAt, if_true, List.getElem?_toArray, List.getElem?_cons_succ, List.getElem?_cons_zero, Option.bind_some, Act.put, List.setIfInBounds_toArray, List.set_cons_zero, List.set_cons_succ, List.length_cons, List.length_nil, Nat.reduceAdd]
     obtain ⟨u, hu⟩ : ∃ u, vs 13 = u := ⟨_, rfl⟩
     rw [hu] at e13
     rw [hu]
     obtain ⟨ua, un, uc, rfl⟩ := e13.shape
     have HOW := hid (HOV.out.below hbw)
     have c19 : w'.cell? ⟨W.heap.size, 19, none⟩ = some (.slice ka B.K.length kc) := HOW.out.cell 19 _ rfl
     have cf := HOW.out.free 19
     have lb := HOW.out.lt
     have HU := hid (BO.setKept HOW.out (W' := w') ⟨rfl, rfl, rfl, Nat.le_refl _, fun _ _ _ => rfl⟩ (e13.mono HOV.out.bel.size))
     have HK2 := hid (show ({ B with K := [] ++ B.K.take (B.K.length) ++ [x] ++ B.K.drop (B.K.length) } : BrainV) = keepB B x by unfold keepB insAt; rw [HPL.out]; rfl)
     have HBU := hid ((((HB1.out.trans (HBV.out.mono HB1.out.size)).trans (hbw.mono (Nat.le_trans HB1.out.size HBV.out.size)))).setCell (p := ⟨W.heap.size, 19, none⟩) (Nat.le_refl _) (.slice ua un uc))
     have HZU := hid (blk_other (blk_below HZV.out hbw (blk_lt HZV.out)) (p := ⟨W.heap.size, 19, none⟩) (by simp) (.slice ua un uc))
     rw [HK2.out] at HU
     clear hB hbw e13 hu HK2
     refine wpAnyH_take (i := 14) (v := ?_) rfl (by kernel_rfl) (by kernel_rfl) (by kernel_rfl) (fun _ _ _ h => h) (Or.inl ⟨by rfl, ?_⟩) trivial ?_
     rotate_left
     ·(intro w hSw; (try dsimp only at hSw); go_simp; try with_reducible rfl)
     try simp only [Act.put, List.setIfInBounds_toArray]
     refine wpAnyH_ready (rs := [15]) (by kernel_rfl) (by simp) ?_
     refine AllReadyH.cons rfl (fun K hK => ?_) AllReadyH.nil
     go_simp
     refine hK.out _ _ trivial (fun _ => ?_)
     clear hK K
     refine wpAnyH_done (by kernel_rfl) ?_ _
     obtain ⟨U, hU⟩ : ∃ U, U = w'.setCell ⟨W.heap.size, 19, none⟩ (.slice ua un uc) := ⟨_, rfl⟩
     rw [← hU] at HU HBU HZU ⊢
     clear hU c19 cf lb
     have hld := HU.out.load
     obtain ⟨X, m', i', k', hst, bb, hend, _, hbV⟩ := HU.out.fin HZU.out rfl (Nat.le_trans HBW.out.size (by omega))
     have HBB := hid bb
     have HEND := hid hend
     have HBX := hid (hbV W HBU.out (by omega))
     clear bb hend hbV
     go_wp2
     refine bodyPost_ret (results_cell_row rfl _ _ (W.heap.size + 2) 33 _ _ _ rfl HBB.out brain_under rfl (brain_size (brT_bc _ _ _ _ _))) rfl ?_
     exact ⟨_, rfl, HEND.out, HBX.out⟩
   ·obtain ⟨b1, o1, hka, hb1, hr1⟩ := HOP.out (by have := lt_get hy; omega)
    subst hka
    obtain ⟨g0, _, _, _, _, _, _, _⟩ := rowK (hr1.below HBr.out hb1) hy
    have hkL : (k : Int) < (B.K.length : Int) := by have := lt_get hy; omega
    have hb1w : b1 < wr.heap.size := Nat.lt_of_lt_of_le hb1 HBr.out.size
    have hle : ¬ y.id ≤ x.id := by have : x.id < y.id := (by simpa using hd); omega
    obtain ⟨yi, hyi⟩ : ∃ u, y.id = u := ⟨_, rfl⟩
    obtain ⟨xi, hxi⟩ : ∃ u, x.id = u := ⟨_, rfl⟩
    rw [hyi, hxi] at hle
    rw [hyi] at g0
    rw [hxi] at y0
    have d1 : decide (yi ≤ xi) = false := decide_eq_false hle
    clear hpl hy hd hr1 hyi hxi
    go_wp2
    go_quiet (fail)
    go_wp2_with fail
    clear g0 d1 hkL hle
    obtain ⟨V, hV⟩ : ∃ V : World, V = wr.drewN nq := ⟨_, rfl⟩
    have hBV : Below wr.heap.size wr V := by rw [hV]; exact below_drewN (Below.refl _ _) _
    rw [← hV]
    have HOV := hid (HOr.out.below hBV)
    have HXV := hid (blk_below HXr.out hBV (blk_lt HXr.out))
    have HZV := hid (blk_below HZr.out hBV (blk_lt HZr.out))
    have HBV := hid (HBr.out.trans (hBV.mono HBr.out.size))
    have HROWV := hid (HROW.out.below HBV.out)
    clear hV hBV c19 y0 lb lx
    refine wp_region_cut 14 2 (fun _ => True) (by kernel_rfl) (by kernel_rfl) (by kernel_rfl) ?_
    simp only [List.take_succ_cons, List.take_zero]
    refine wpAnyH_grownD (w0 := V.drew) (spL _) (relD [8, 13] (KeptT 33) [5] KeptE) (aliveD [(5, 0), (8, 5), (8, 7), (13, 8)]) (ancD [(5, 8), (5, 13), (8, 13)]) (spD (n := 14) (m := 14) (l := [NewRow 51 V.heap.size, fun z _ => z = .pointer (some ⟨W.heap.size, 19, none⟩), fun z _ => z = .slice (some ⟨b1, o1, none⟩) B.K.length kc, fun z _ => z = .int .i64 (k : Int), fun z _ => z = sliced (some ⟨b1, o1, none⟩) 0 k kc 8, fun v w => OwnK w V.heap.size v ([] ++ B.K.take (k)), fun z _ => z = .agg #[.int .i64 x.id, .int .i64 x.token, .int .i64 x.version, .int .i64 x.zone, .int .u8 x.phase, .int .i64 x.since, .bool x.guarded, .bool x.complete], NewOne 51 (encKp x) V.heap.size, fun v w => OwnK w V.heap.size v ([] ++ B.K.take (k) ++ [x]), fun z _ => z = .pointer (some ⟨W.heap.size, 19, none⟩), fun z _ => z = .slice (some ⟨b1, o1, none⟩) B.K.length kc, fun z _ => z = .int .i64 (k : Int), fun z _ => z = sliced (some ⟨b1, o1, none⟩) k B.K.length kc 8, fun v w => OwnK w V.heap.size v ([] ++ B.K.take (k) ++ [x] ++ B.K.drop (k))]) (apps := [8, 13]) (stab := [1, 2, 3, 4, 6, 9, 10, 11, 12]) (appsE := [5]) (stabE := [1, 2, 3, 4, 6, 7, 9, 10, 11, 12]) ⟨stays_newRow _ _, stays_eq _, stays_eq _, stays_eq _, stays_eq _, stays_owns 8 _ encKp _ _, stays_eq _, stays_newOne _ _ _, stays_owns 8 _ encKp _ _, stays_eq _, stays_eq _, stays_eq _, stays_eq _, stays_owns 8 _ encKp _ _, trivial⟩ ⟨stw_eq _ _, stw_eq _ _, stw_eq _ _, stw_eq _ _, stw_eq _ _, stw_eq _ _, stw_eq _ _, stw_eq _ _, stw_eq _ _, trivial⟩ ⟨stw_eq _ _, stw_eq _ _, stw_eq _ _, stw_eq _ _, stw_eq _ _, stwE_newOne _ _ _ (by simp [encKp]), stw_eq _ _, stw_eq _ _, stw_eq _ _, stw_eq _ _, trivial⟩ rfl (by decide) (by decide)) (by kernel_rfl) (by kernel_rfl) (by kernel_rfl) (by kernel_rfl) ?steps4 ?fin4 rfl
    case steps4 =>
     refine ⟨?_, ?_, ?_, ?_, ?_, ?_, ?_, ?_, ?_, ?_, ?_, ?_, ?_, ?_, trivial⟩
     ·intro a' w' hB hdep hoth K hK
      have hK := growB hB hK
      rw [if_pos (guard_none rfl)]
      have hbw : Below V.heap.size V w' := (below_drewN (Below.refl _ _) 1).trans hB
      clear hdep hoth
      go_simp
      exact hK _ _ ((Below.refl _ _).alloc (Nat.le_refl _) _) ⟨_, rfl, hbw.size, heap_new _ _⟩
     ·intro a' w' hB hdep hoth K hK
      have hK := growB hB hK
      rw [if_pos (guard_none rfl)]
      have hbw : Below V.heap.size V w' := (below_drewN (Below.refl _ _) 1).trans hB
      have t2 := hoth 2 (notDst_at (by kernel_rfl))
      simp only [List.getElem?_toArray, List.getElem?_cons_succ, List.getElem?_cons_zero] at t2
      clear hdep hoth
      go_simp
      exact hK _ _ (Below.refl _ _) rfl
     ·intro a' w' hB hdep hoth K hK
      have hK := growB hB hK
      rw [if_pos (guard_none rfl)]
      have hbw : Below V.heap.size V w' := (below_drewN (Below.refl _ _) 1).trans hB
      obtain ⟨vx0, gx0, ex0⟩ := hdep ⟨1, .data⟩ (by simp) rfl
      have gx0 := gx0 25 rfl (by simp)
      obtain rfl : vx0 = .pointer (some ⟨W.heap.size, 19, none⟩) := ex0
      have c19 : w'.cell? ⟨W.heap.size, 19, none⟩ = some (.slice (some ⟨b1, o1, none⟩) B.K.length kc) := (HOV.out.below hbw).cell 19 _ rfl
      have lb := (HOV.out.below hbw).lt
      clear hdep hoth
      go_simp
      exact hK _ _ (Below.refl _ _) rfl
     ·intro a' w' hB hdep hoth K hK
      have hK := growB hB hK
      rw [if_pos (guard_none rfl)]
      have hbw : Below V.heap.size V w' := (below_drewN (Below.refl _ _) 1).trans hB
      have t5 := hoth 5 (notDst_at (by kernel_rfl))
      simp only [List.getElem?_toArray, List.getElem?_cons_succ, List.getElem?_cons_zero] at t5
      clear hdep hoth
      go_simp
      exact hK _ _ (Below.refl _ _) rfl
     ·intro a' w' hB hdep hoth K hK
      have hK := growB hB hK
      rw [if_pos (guard_none rfl)]
      have hbw : Below V.heap.size V w' := (below_drewN (Below.refl _ _) 1).trans hB
      obtain ⟨vx0, gx0, ex0⟩ := hdep ⟨2, .data⟩ (by simp) rfl
      have gx0 := gx0 26 rfl (by simp)
      obtain rfl : vx0 = .slice (some ⟨b1, o1, none⟩) B.K.length kc := ex0
      obtain ⟨vx1, gx1, ex1⟩ := hdep ⟨3, .data⟩ (by simp) rfl
      have gx1 := gx1 27 rfl (by simp)
      obtain rfl : vx1 = .int .i64 (k : Int) := ex1
      have hsl := upto_kp ((some ⟨b1, o1, none⟩)) B.K.length kc (k) (by omega)
      clear hdep hoth
      go_simp
      exact hK _ _ (Below.refl _ _) rfl
     ·intro a' w' hB hdep hoth K hK
      have hbw : Below V.heap.size V w' := (below_drewN (Below.refl _ _) 1).trans hB
      obtain ⟨vO, gO, eO⟩ := hdep ⟨0, .data⟩ (by simp) rfl
      have gO := gO 24 rfl (by simp)
      obtain ⟨vx, gx, ex⟩ := hdep ⟨4, .data⟩ (by simp) rfl
      have gx := gx 28 rfl (by simp)
      obtain rfl : vx = sliced (some ⟨b1, o1, none⟩) 0 k kc 8 := ex
      obtain ⟨g, rfl, hg1, hg0⟩ := eO
      have eO : OwnK w' V.heap.size (.slice (some ⟨g, 0, none⟩) 0 0) [] := newRow_owns hg1 hg0
      refine step_append_row rfl _ _ 29 rfl V.heap.size 51 k0 _ 56 Tryz.underlying29 HI0.out HI1.out HI2.out HI3.out rfl (by decide) encKp_len _ ([]) (by simp [Act.eval, gO]) eO (sliced (some ⟨b1, o1, none⟩) 0 k kc 8) (B.K.take (k)) (by simp [Act.eval, gx]) (one_of encKp_one _) (row_upto (HROWV.out.below hbw) (by omega)) (by unfold maxLen; simp; omega) (by simp; omega) hbw.size ?_
      intro v' w'' hown hbb hgr
      exact hK v' w'' (hB.trans hbb) (keptE_of hgr hg0) hown
     ·intro a' w' hB hdep hoth K hK
      have hK := growB hB hK
      rw [if_pos (guard_none rfl)]
      have hbw : Below V.heap.size V w' := (below_drewN (Below.refl _ _) 1).trans hB
      have t3 := hoth 3 (notDst_at (by kernel_rfl))
      simp only [List.getElem?_toArray, List.getElem?_cons_succ, List.getElem?_cons_zero] at t3
      have hxx := blk_below HXV.out hbw (blk_lt HXV.out)
      have y0 : w'.cell? ⟨W.heap.size + 1, 0, none⟩ = some (.int .i64 x.id) := blk_cell hxx 0
      have y1 : w'.cell? ⟨W.heap.size + 1, 1, none⟩ = some (.int .i64 x.token) := blk_cell hxx 1
      have y2 : w'.cell? ⟨W.heap.size + 1, 2, none⟩ = some (.int .i64 x.version) := blk_cell hxx 2
      have y3 : w'.cell? ⟨W.heap.size + 1, 3, none⟩ = some (.int .i64 x.zone) := blk_cell hxx 3
      have y4 : w'.cell? ⟨W.heap.size + 1, 4, none⟩ = some (.int .u8 x.phase) := blk_cell hxx 4
      have y5 : w'.cell? ⟨W.heap.size + 1, 5, none⟩ = some (.int .i64 x.since) := blk_cell hxx 5
      have y6 : w'.cell? ⟨W.heap.size + 1, 6, none⟩ = some (.bool x.guarded) := blk_cell hxx 6
      have y7 : w'.cell? ⟨W.heap.size + 1, 7, none⟩ = some (.bool x.complete) := blk_cell hxx 7
      have lx := blk_lt hxx
      clear hxx
      clear hdep hoth
      go_simp
      exact hK _ _ (Below.refl _ _) rfl
     ·intro a' w' hB hdep hoth K hK
      have hK := growB hB hK
      rw [if_pos (guard_none rfl)]
      have hbw : Below V.heap.size V w' := (below_drewN (Below.refl _ _) 1).trans hB
      obtain ⟨v0, q0, e0⟩ := hdep ⟨6, .data⟩ (by simp) rfl
      have q0 := q0 30 rfl (by simp)
      obtain rfl : v0 = .agg #[.int .i64 x.id, .int .i64 x.token, .int .i64 x.version, .int .i64 x.zone, .int .u8 x.phase, .int .i64 x.since, .bool x.guarded, .bool x.complete] := e0
      clear hdep hoth
      go_simp
      exact hK _ _ ((Below.refl _ _).alloc (Nat.le_refl _) _) ⟨_, rfl, hbw.size, heap_new _ _⟩
     ·intro a' w' hB hdep hoth K hK
      have hbw : Below V.heap.size V w' := (below_drewN (Below.refl _ _) 1).trans hB
      obtain ⟨vO, gO, eO⟩ := hdep ⟨5, .data⟩ (by simp) rfl
      have gO := gO 29 rfl (by simp)
      obtain ⟨vx, gx, ex⟩ := hdep ⟨7, .data⟩ (by simp) rfl
      have gx := gx 31 rfl (by simp)
      have ex : NewOne 51 (encKp x) V.heap.size vx w' := ex
      have eO : OwnK w' V.heap.size vO ([] ++ B.K.take (k)) := eO
      refine step_append_row rfl _ _ 29 rfl V.heap.size 51 k0 _ 56 Tryz.underlying29 HI0.out HI1.out HI2.out HI3.out rfl (by decide) encKp_len _ ([] ++ B.K.take (k)) (by simp [Act.eval, gO]) eO (vx) ([x]) (by simp [Act.eval, gx]) (one_of encKp_one _) (newOne_row encKp_len ex) (by unfold maxLen; simp; omega) (by simp; omega) hbw.size ?_
      intro v' w'' hown hbb hgr
      exact hK v' w'' (hB.trans hbb) (KeptT.grown hgr (fun r e => Owns.typed eO r e) (by decide)) hown
     ·intro a' w' hB hdep hoth K hK
      have hK := growB hB hK
      rw [if_pos (guard_none rfl)]
      have hbw : Below V.heap.size V w' := (below_drewN (Below.refl _ _) 1).trans hB
      have t2 := hoth 2 (notDst_at (by kernel_rfl))
      simp only [List.getElem?_toArray, List.getElem?_cons_succ, List.getElem?_cons_zero] at t2
      clear hdep hoth
      go_simp
      exact hK _ _ (Below.refl _ _) rfl
     ·intro a' w' hB hdep hoth K hK
      have hK := growB hB hK
      rw [if_pos (guard_none rfl)]
      have hbw : Below V.heap.size V w' := (below_drewN (Below.refl _ _) 1).trans hB
      obtain ⟨vx0, gx0, ex0⟩ := hdep ⟨9, .data⟩ (by simp) rfl
      have gx0 := gx0 33 rfl (by simp)
      obtain rfl : vx0 = .pointer (some ⟨W.heap.size, 19, none⟩) := ex0
      have c19 : w'.cell? ⟨W.heap.size, 19, none⟩ = some (.slice (some ⟨b1, o1, none⟩) B.K.length kc) := (HOV.out.below hbw).cell 19 _ rfl
      have lb := (HOV.out.below hbw).lt
      clear hdep hoth
      go_simp
      exact hK _ _ (Below.refl _ _) rfl
     ·intro a' w' hB hdep hoth K hK
      have hK := growB hB hK
      rw [if_pos (guard_none rfl)]
      have hbw : Below V.heap.size V w' := (below_drewN (Below.refl _ _) 1).trans hB
      have t5 := hoth 5 (notDst_at (by kernel_rfl))
      simp only [List.getElem?_toArray, List.getElem?_cons_succ, List.getElem?_cons_zero] at t5
      clear hdep hoth
      go_simp
      exact hK _ _ (Below.refl _ _) rfl
     ·intro a' w' hB hdep hoth K hK
      have hK := growB hB hK
      rw [if_pos (guard_none rfl)]
      have hbw : Below V.heap.size V w' := (below_drewN (Below.refl _ _) 1).trans hB
      obtain ⟨vx0, gx0, ex0⟩ := hdep ⟨10, .data⟩ (by simp) rfl
      have gx0 := gx0 34 rfl (by simp)
      obtain rfl : vx0 = .slice (some ⟨b1, o1, none⟩) B.K.length kc := ex0
      obtain ⟨vx1, gx1, ex1⟩ := hdep ⟨11, .data⟩ (by simp) rfl
      have gx1 := gx1 35 rfl (by simp)
      obtain rfl : vx1 = .int .i64 (k : Int) := ex1
      have hsl := from_kp ((some ⟨b1, o1, none⟩)) B.K.length kc (k) (by omega)
      clear hdep hoth
      go_simp
      exact hK _ _ (Below.refl _ _) rfl
     ·intro a' w' hB hdep hoth K hK
      have hbw : Below V.heap.size V w' := (below_drewN (Below.refl _ _) 1).trans hB
      obtain ⟨vO, gO, eO⟩ := hdep ⟨8, .data⟩ (by simp) rfl
      have gO := gO 32 rfl (by simp)
      obtain ⟨vx, gx, ex⟩ := hdep ⟨12, .data⟩ (by simp) rfl
      have gx := gx 36 rfl (by simp)
      obtain rfl : vx = sliced (some ⟨b1, o1, none⟩) k B.K.length kc 8 := ex
      have eO : OwnK w' V.heap.size vO ([] ++ B.K.take (k) ++ [x]) := eO
      refine step_append_row rfl _ _ 29 rfl V.heap.size 51 k0 _ 56 Tryz.underlying29 HI0.out HI1.out HI2.out HI3.out rfl (by decide) encKp_len _ ([] ++ B.K.take (k) ++ [x]) (by simp [Act.eval, gO]) eO (sliced (some ⟨b1, o1, none⟩) k B.K.length kc 8) (B.K.drop (k)) (by simp [Act.eval, gx]) (one_of encKp_one _) (row_from (HROWV.out.below hbw) (by omega)) (by unfold maxLen; simp; omega) (by simp; omega) hbw.size ?_
      intro v' w'' hown hbb hgr
      exact hK v' w'' (hB.trans hbb) (KeptT.grown hgr (fun r e => Owns.typed eO r e) (by decide)) hown
    case fin4 =>
     intro vs w' hB hs
     have hbw : Below V.heap.size V w' := (below_drewN (Below.refl _ _) 1).trans hB
     have e13 := hs 13 (by decide) (by decide)
     have e13 : OwnK w' V.heap.size (vs 13) ([] ++ B.K.take (k) ++ [x] ++ B.K.drop (k)) := e13
     clear hs
     refine cutQ_held (fun _ => True) (fun f => ?_)
     simp only [actOf, dstAt, if_true, List.getElem?_toArray, List.getElem?_cons_succ, List.getElem?_cons_zero, Option.bind_some, Act.put, List.setIfInBounds_toArray, List.set_cons_zero, List.set_cons_succ, List.length_cons, List.length_nil, Nat.reduceAdd]
     obtain ⟨u, hu⟩ : ∃ u, vs 13 = u := ⟨_, rfl⟩
     rw [hu] at e13
     rw [hu]
     obtain ⟨ua, un, uc, rfl⟩ := e13.shape
     have HOW := hid (HOV.out.below hbw)
     have c19 : w'.cell? ⟨W.heap.size, 19, none⟩ = some (.slice (some ⟨b1, o1, none⟩) B.K.length kc) := HOW.out.cell 19 _ rfl
     have cf := HOW.out.free 19
     have lb := HOW.out.lt
     have HU := hid (BO.setKept HOW.out (W' := w') ⟨rfl, rfl, rfl, Nat.le_refl _, fun _ _ _ => rfl⟩ (e13.mono HOV.out.bel.size))
     have HK2 := hid (show ({ B with K := [] ++ B.K.take (k) ++ [x] ++ B.K.drop (k) } : BrainV) = keepB B x by unfold keepB insAt; rw [HPL.out]; rfl)
     have HBU := hid ((((HB1.out.trans (HBV.out.mono HB1.out.size)).trans (hbw.mono (Nat.le_trans HB1.out.size HBV.out.size)))).setCell (p := ⟨W.heap.size, 19, none⟩) (Nat.le_refl _) (.slice ua un uc))
     have HZU := hid (blk_other (blk_below HZV.out hbw (blk_lt HZV.out)) (p := ⟨W.heap.size, 19, none⟩) (by simp) (.slice ua un uc))
     rw [HK2.out] at HU
     clear hB hbw e13 hu HK2
     refine wpAnyH_take (i := 14) (v := ?_) rfl (by kernel_rfl) (by kernel_rfl) (by kernel_rfl) (fun _ _ _ h => h) (Or.inl ⟨by rfl, ?_⟩) trivial ?_
     rotate_left
     ·(intro w hSw; (try dsimp only at hSw); go_simp; try with_reducible rfl)
     try simp only [Act.put, List.setIfInBounds_toArray]
     refine wpAnyH_ready (rs := [15]) (by kernel_rfl) (by simp) ?_
     refine AllReadyH.cons rfl (fun K hK => ?_) AllReadyH.nil
     go_simp
     refine hK.out _ _ trivial (fun _ => ?_)
     clear hK K
     refine wpAnyH_done (by kernel_rfl) ?_ _
     obtain ⟨U, hU⟩ : ∃ U, U = w'.setCell ⟨W.heap.size, 19, none⟩ (.slice ua un uc) := ⟨_, rfl⟩
     rw [← hU] at HU HBU HZU ⊢
     clear hU c19 cf lb
     have hld := HU.out.load
     obtain ⟨X, m', i', k', hst, bb, hend, _, hbV⟩ := HU.out.fin HZU.out rfl (Nat.le_trans HBW.out.size (by omega))
     have HBB := hid bb
     have HEND := hid hend
     have HBX := hid (hbV W HBU.out (by omega))
     clear bb hend hbV
     go_wp2
     refine bodyPost_ret (results_cell_row rfl _ _ (W.heap.size + 2) 33 _ _ _ rfl HBB.out brain_under rfl (brain_size (brT_bc _ _ _ _ _))) rfl ?_
     exact ⟨_, rfl, HEND.out, HBX.out⟩
end
end Go.Proofs.YtgcajfglidflnaaGreatDoor

/- herdref13.refresh: the records of a refresh. Printed by gn_ra3.py. -/
namespace Go.Proofs.YtgcajfglidflnaaGreatDoor
open Go.RowKit Go.Shelf
attribute [-go_sem] loadVar storeVar
attribute [local go_sem] load_other store_other

def RefEnd (base : World) (W : World) (R : BrainV) (e : Ending) (W' : World) : Prop := ∃ u, e = .returned u ∧ BrEnd base R u W' ∧ Below W.heap.size W W'
theorem wp_named {C : Code} {P : Program} {Q : Exit → Act → World → Prop} {a : Act} {w : World} (h : ∀ U, U = w → C.wp P Q a U) : C.wp P Q a w := h w rfl
section
variable {base : World} {B : BrainV} {W : World}
/-- What the functions of a brain in hand begin with: its box, the result's box. -/
theorem ref_begin {v : Value} (h : BrEnd base B v W) (hbW : Below base.heap.size base W) : ∃ mv iv kv W1, v = .agg (brT B.f B.g mv iv kv) ∧ W1 = (W.alloc (.cells (brT B.f B.g mv iv kv) 33)).alloc (.cells #[.int .i64 0, .int .i64 0, .bool false, .int .i64 0, .int .i64 0, .int .i64 0, .int .i64 0, .int .i64 0, .int .i64 0, .int .i64 0, .int .i64 0, .int .i64 0, .int .i64 0, .int .i64 0, .int .i64 0, .int .i64 0, .bool false, .slice none 0 0, .slice none 0 0, .slice none 0 0, .int .u8 0, .int .i64 0, .int .i64 0, .int .i64 0, .bool false, .int .i64 0, .int .i64 0] 33) ∧
  BO base W.heap.size B mv iv kv W1 ∧ W1.heap[W.heap.size + 1]? = some (.cells #[.int .i64 0, .int .i64 0, .bool false, .int .i64 0, .int .i64 0, .int .i64 0, .int .i64 0, .int .i64 0, .int .i64 0, .int .i64 0, .int .i64 0, .int .i64 0, .int .i64 0, .int .i64 0, .int .i64 0, .int .i64 0, .bool false, .slice none 0 0, .slice none 0 0, .slice none 0 0, .int .u8 0, .int .i64 0, .int .i64 0, .int .i64 0, .bool false, .int .i64 0, .int .i64 0] 33) ∧ Below W.heap.size W W1 := by
 obtain ⟨mv, iv, kv, rfl, ho⟩ := h.box hbW
 have hb0 : Below (W.alloc (.cells (brT B.f B.g mv iv kv) 33)).heap.size (W.alloc (.cells (brT B.f B.g mv iv kv) 33)) ((W.alloc (.cells (brT B.f B.g mv iv kv) 33)).alloc (.cells #[.int .i64 0, .int .i64 0, .bool false, .int .i64 0, .int .i64 0, .int .i64 0, .int .i64 0, .int .i64 0, .int .i64 0, .int .i64 0, .int .i64 0, .int .i64 0, .int .i64 0, .int .i64 0, .int .i64 0, .int .i64 0, .bool false, .slice none 0 0, .slice none 0 0, .slice none 0 0, .int .u8 0, .int .i64 0, .int .i64 0, .int .i64 0, .bool false, .int .i64 0, .int .i64 0] 33)) := (Below.refl _ _).alloc (Nat.le_refl _) _
 refine ⟨mv, iv, kv, _, rfl, rfl, ho.below hb0, heap_new2 _ _ _, ?_⟩
 exact ((Below.refl W.heap.size W).alloc (Nat.le_refl _) _).alloc (by simp) _
/-- .. and end with. -/
theorem ref_end {mv iv kv : Value} {R : BrainV} {U : World} (h : BO base W.heap.size R mv iv kv U) (hz : U.heap[W.heap.size + 1]? = some (.cells #[.int .i64 0, .int .i64 0, .bool false, .int .i64 0, .int .i64 0, .int .i64 0, .int .i64 0, .int .i64 0, .int .i64 0, .int .i64 0, .int .i64 0, .int .i64 0, .int .i64 0, .int .i64 0, .int .i64 0, .int .i64 0, .bool false, .slice none 0 0, .slice none 0 0, .slice none 0 0, .int .u8 0, .int .i64 0, .int .i64 0, .int .i64 0, .bool false, .int .i64 0, .int .i64 0] 33)) (hb : Below W.heap.size W U) (hbW : Below base.heap.size base W) :
  (loadVar 33 ⟨W.heap.size, 0, none⟩).run Tryz.prog U = .ok (.agg (brT R.f R.g mv iv kv)) U ∧ ∃ X m i k, (storeVar 33 ⟨W.heap.size + 1, 0, none⟩ (.agg (brT R.f R.g mv iv kv))).run Tryz.prog U = .ok () X ∧ BB X (W.heap.size + 1) (brT R.f R.g m i k) ∧ RefEnd base W R (.returned (.agg (brT R.f R.g m i k))) X := by
 obtain ⟨X, m', i', k', hst, bb, hend, _, hbV⟩ := h.fin hz rfl (Nat.le_trans hbW.size (by omega))
 exact ⟨h.load, X, m', i', k', hst, bb, _, rfl, hend, hbV W hb (by omega)⟩
end
end Go.Proofs.YtgcajfglidflnaaGreatDoor
