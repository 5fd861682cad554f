/- Deeds on one that is kept, deeds on a refresh: what wraps them. -/
import Derived.Test.YthnigndpibgibaaDoorDf
namespace Go.Proofs.YthnigndpibgibaaDoor
open Go.RowKit Go.Shelf
attribute [-go_sem] loadVar
attribute [local go_sem] load_other
theorem run_store_func (P : Program) (w : World) (a : Addr) (m : Mode) (f : Fn) (x y : Array Value) : (store a (.func f x y) m).run P w = stored P w a (.func f x y) m := run_store P w a _ m rfl
attribute [local go_sem] run_store_func

/-- What is done with the Kept of an id, if there is one. -/
def keptB (B : BrainV) (D : Nat → KeptV → BrainV) (x0 : Int) : BrainV :=
  if idxL B.K (fun x => x.id == x0) < 0 then B else match B.K[(idxL B.K (fun x => x.id == x0)).toNat]? with
    | some x => D (idxL B.K (fun x => x.id == x0)).toNat x
    | none => B
section
variable {base : World} {b : Nat} {B : BrainV} {mv iv kv : Value} {W : World}
theorem deed_after {V : World} {R : BrainV} {e : Ending} {W' : World} (hb : Below W.heap.size W V) (h : DeedEnd base b V R e W') : DeedEnd base b W R e W' :=
  ⟨h.1, h.2.1, (KeepsX.below hb).trans h.2.2⟩
set_option maxRecDepth 100000 in
set_option maxHeartbeats 2000000 in
theorem kept1_any (fd : FuncId) (D : Nat → KeptV → BrainV) (p : Nat) (s : Value) (L : List Int) (hs : RowOf 1 encI base s L) (hL : 1 ≤ L.length) (h : BO base b B mv iv kv W) (hl : B.K.length ≤ 1000) (hp : W.cell? ⟨p, 0, none⟩ = some (.func (.func fd) #[] #[]))
    (hcf : ∀ args w, (callFunc fd args).run Tryd.prog w = .ok (.enter fd args) w)
    (hD : ∀ V (i : Nat) x, Below W.heap.size W V → B.K[i]? = some x → Calls Tryd.prog fd #[.pointer (some ⟨b, 0, none⟩), .int .i64 i, s] V fun e V' => DeedEnd base b V (D i x) e V') :
    Calls Tryd.prog 88 #[.pointer (some ⟨b, 0, none⟩), s, .pointer (some ⟨p, 0, none⟩)] W fun e W' => DeedEnd base b W (keptB B D (L.getD 0 0)) e W' := by
  obtain ⟨sa, sc, rfl, hs1, hs2, hs3, hop⟩ := hs.open
  obtain ⟨b1, o1, rfl, hb1, hr1⟩ := hop (by omega)
  obtain ⟨x0, hx0⟩ := get_lt (l := L) (k := 0) (by omega)
  have hbw : b1 < W.heap.size := Nat.lt_of_lt_of_le hb1 h.bel.size
  obtain ⟨n, hn⟩ : ∃ n, L.length = n := ⟨_, rfl⟩
  have hn0 : 0 < n := by omega
  rw [hn] at hD ⊢
  obtain ⟨R, hR⟩ : ∃ R, keptB B D (L.getD 0 0) = R := ⟨_, rfl⟩
  rw [hR]
  unfold keptB at hR
  rw [lint L 0 x0 hx0] at hR
  obtain ⟨r, hr⟩ : ∃ r, idxL B.K (fun x => x.id == x0) = r := ⟨_, rfl⟩
  rw [hr] at hR
  have HR := hid hR
  have g0 : W.cell? ⟨b1, o1, none⟩ = some (.int .i64 x0) := by have := rowN1 (hr1.below h.bel hb1) hx0; simpa using this
  have hlt := h.lt
  have hpl := lt_of_cell hp
  dsimp only at hpl
  have H := hid h
  have hf := fun V (hV : Below W.heap.size W V) => bfind_any (brT B.f B.g mv iv kv) iv kv (brT_bc _ _ _ _ _) B.K x0 V (Owns.row (h.below hV).rk encKp_len (by decide)) hl
  rw [hr] at hf
  have HF := hid hf
  have HRR := hid hr
  have HD := hid hD
  have HP := hid hp
  have kq := fun d os => cell_regrown g0 d os
  have kl := fun d os => (h.below (below_regrown W d os)).load
  have HCALL := hid (fun d os => Calls.regrown_of (d := d) (os := os) (w := W) (HF.out _ (below_regrown W d os)))
  clear h hs hop hr1 hx0 hR hf hr hD hp
  go_enter Tryd.func88, Tryd.ntmps88
  go_wp2_with fail
  refine wp_region_quiet_below (by kernel_rfl) (by kernel_rfl) ?_
  repeat (quiet_step (exact HCALL.out _ _))
  refine wpQuiet_nil ?_
  intro _ hw'
  obtain ⟨⟨dq, osq⟩, hw''⟩ := hw'
  subst hw''
  have hbq := below_regrown W dq osq
  obtain ⟨V, hV⟩ : ∃ V, V = Sort.grow (redrawn W dq) osq := ⟨_, rfl⟩
  rw [← hV] at hbq ⊢
  clear hV kq kl HCALL
  have HBQ := hid hbq
  have pV := cell_below HP.out hbq
  have lV := lt_of_cell pV
  dsimp only at lV
  by_cases hneg : r < 0
  · obtain rfl : B = R := by rw [← HR.out, if_pos hneg]
    have dn : decide (0 ≤ r) = false := by simpa using hneg
    clear hbq
    go_wp2
    go_end0
    exact ⟨rfl, ⟨_, _, _, H.out.below HBQ.out⟩, KeepsX.below HBQ.out⟩
  · obtain ⟨i, x, rfl, hix⟩ : ∃ (i : Nat) (x : KeptV), r = i ∧ B.K[i]? = some x := by
      rcases idxL_cases B.K (fun x => x.id == x0) with ⟨e, _⟩ | ⟨k, x, e, hk, _⟩
      · rw [HRR.out] at e; omega
      · rw [HRR.out] at e; exact ⟨k, x, e, hk⟩
    have HRX := hid (show R = D i x by rw [← HR.out, if_neg hneg]; simp [hix])
    have HDD := hid (HD.out V i x hbq hix)
    have dn : decide (0 ≤ (i : Int)) = true := by simp
    clear hbq hneg
    go_wp2_with fail
    refine HDD.out.mono ?_
    rintro e y1 hde
    obtain ⟨rfl, h2, h3⟩ := deed_after HBQ.out hde
    have H2 := hid h2
    have H3 := hid h3
    clear h2 h3 hde
    go_wp2
    go_end0
    rw [HRX.out]
    exact ⟨rfl, H2.out, H3.out⟩
/-- What is done with a refresh, if one is active. -/
def activeB (B R : BrainV) : BrainV := if B.f 20 = 1 then R else B
set_option maxRecDepth 100000 in
set_option maxHeartbeats 1000000 in
theorem active1_any (fd : FuncId) (R : BrainV) (p : Nat) (s : Value) (h : BO base b B mv iv kv W) (hp : W.cell? ⟨p, 0, none⟩ = some (.func (.func fd) #[] #[]))
    (hcf : ∀ args w, (callFunc fd args).run Tryd.prog w = .ok (.enter fd args) w)
    (hD : Calls Tryd.prog fd #[.pointer (some ⟨b, 0, none⟩), s] W fun e V' => DeedEnd base b W R e V') :
    Calls Tryd.prog 90 #[.pointer (some ⟨b, 0, none⟩), s, .pointer (some ⟨p, 0, none⟩)] W fun e W' => DeedEnd base b W (activeB B R) e W' := by
  have c20 := h.cell 20 (.int .u8 (B.f 20)) rfl
  have hlt := h.lt
  have hpl := lt_of_cell hp
  dsimp only at hpl
  have H := hid h
  have HD := hid hD
  clear h hD
  unfold activeB
  by_cases hq : B.f 20 = 1
  · rw [if_pos hq]
    rw [hq] at c20
    go_enter Tryd.func90, Tryd.ntmps90
    go_wp2_with fail
    refine HD.out.mono ?_
    rintro e y1 ⟨rfl, h2, h3⟩
    have H2 := hid h2
    have H3 := hid h3
    clear h2 h3
    go_wp2
    go_end0
    exact ⟨rfl, H2.out, H3.out⟩
  · rw [if_neg hq]
    have hst2 : (B.f 20 == 1) = false := by simpa using hq
    go_enter Tryd.func90, Tryd.ntmps90
    go_wp2
    go_end0
    exact ⟨rfl, ⟨_, _, _, H.out⟩, KeepsX.refl _ _⟩
end
/-- A deed's cells: how many numbers, what it does. -/
def deedV (n : Int) (fv : Value) : Value := .agg #[.int .i64 n, fv]
theorem res_deed {fn : Func} {tmps : Array Value} {r : Tmp} {b : Nat} {c0 c1 : Value} {W : World} (hres : fn.results = #[.cell r 97]) (h : tmps.getD r undef = .pointer (some ⟨b, 0, none⟩)) (hb : W.heap[b]? = some (.cells #[c0, c1] 97)) :
    (results fn tmps).run Tryd.prog W = .ok (.agg #[c0, c1]) W := by
  have k0 := blk_cell hb 0
  have k1 := blk_cell hb 1
  simp only [List.getElem?_toArray, List.getElem?_cons_succ, List.getElem?_cons_zero] at k0 k1
  rw [Array.getD_eq_getD_getElem?] at h
  simp [results, hres, go_sem, h, k0, k1]
set_option maxHeartbeats 1000000 in
theorem keptC_any (n : Int) (fd : FuncId) (W : World) : Calls Tryd.prog 69 #[.int .i64 n, .func (.func fd) #[] #[]] W fun e W' => e = .returned (deedV n (.func (.func 88) #[] #[.pointer (some ⟨W.heap.size, 0, none⟩)])) ∧ W'.cell? ⟨W.heap.size, 0, none⟩ = some (.func (.func fd) #[] #[]) ∧ Below W.heap.size W W' := by
  have hmf := mkfunc
  unfold deedV
  go_enter Tryd.func69, Tryd.ntmps69
  go_wp2
  refine bodyPost_ret (res_deed (b := W.heap.size + 1) rfl rfl (heap_new2 W _ _)) rfl ⟨rfl, ?_, ((Below.refl _ _).alloc (Nat.le_refl _) _).alloc (by simp) _⟩
  exact cell_below (blk_cell (heap_new W _) 0) ((Below.refl _ _).alloc (Nat.le_refl _) _)
set_option maxHeartbeats 1000000 in
theorem activeC_any (n : Int) (fd : FuncId) (W : World) : Calls Tryd.prog 77 #[.int .i64 n, .func (.func fd) #[] #[]] W fun e W' => e = .returned (deedV n (.func (.func 90) #[] #[.pointer (some ⟨W.heap.size, 0, none⟩)])) ∧ W'.cell? ⟨W.heap.size, 0, none⟩ = some (.func (.func fd) #[] #[]) ∧ Below W.heap.size W W' := by
  have hmf := mkfunc
  unfold deedV
  go_enter Tryd.func77, Tryd.ntmps77
  go_wp2
  refine bodyPost_ret (res_deed (b := W.heap.size + 1) rfl rfl (heap_new2 W _ _)) rfl ⟨rfl, ?_, ((Below.refl _ _).alloc (Nat.le_refl _) _).alloc (by simp) _⟩
  exact cell_below (blk_cell (heap_new W _) 0) ((Below.refl _ _).alloc (Nat.le_refl _) _)
end Go.Proofs.YthnigndpibgibaaDoor
