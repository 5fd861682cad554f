/- duty.Drop: calls that are no duty any more are dropped. -/
import Derived.Test.YtljmhmdpihpafaaDoorIsM
import Derived.Test.YtljmhmdpihpafaaDoorDlM
namespace Go.Proofs.YtljmhmdpihpafaaDoor
open Go.RowKit Go.Shelf
attribute [-go_sem] loadVar
attribute [local go_sem] load_other

/-- Is a call no duty any more? -/
def goneB (I : List IntentV) (K : List KeptV) (x : CallV) : Bool := !(x.kind == 7) && !decide ((⟨x.kind, x.key⟩ : DutyV) ∈ dutiesL I K)
def dropL (I : List IntentV) (K : List KeptV) (L : List CallV) : List CallV := L.filter (fun x => !goneB I K x)

set_option maxHeartbeats 1000000 in
set_option maxRecDepth 100000 in
theorem drop1_any (cs : Array Value) (iv kv : Value) (hcs : BC cs iv kv) (I : List IntentV) (K : List KeptV) (b : Nat) (x : CallV) (w : World) (hl1 : I.length ≤ 1000) (hl2 : K.length ≤ 1000) (hwf : ∀ x ∈ K, in8 x.phase)
    (hA : Asked w) (hI : RowOf 4 encIn w iv I) (hK : RowOf 8 encKp w kv K) (hb : BB w b cs) :
    Calls Tryd.prog 28 (#[encS x] ++ #[.pointer (some ⟨b, 0, none⟩)]) w fun e w' => e = .returned (.bool (goneB I K x)) ∧ Below w.heap.size w w' := by
  have Z0 : Below w.heap.size w (w.alloc (.cells #[.int .i64 x.id, .int .u8 x.kind, .int .i64 x.key, .int .i64 x.sent] 45)) := (Below.refl _ _).alloc (Nat.le_refl _) _
  have HC := hid (is_any cs iv kv hcs I K ⟨x.kind, x.key⟩ _ hl1 hl2 hwf (hA.below Z0) (hI.below Z0) (hK.below Z0))
  have hload := (hb.below Z0 (blk_lt hb)).load hcs
  have HZ := hid Z0
  clear hA hI hK hb hwf hcs Z0
  simp only [encS, List.push_toArray, List.append_toArray, List.nil_append, List.cons_append]
  unfold encDv at HC
  by_cases h7 : x.kind = 7
  · have hq : (x.kind != 7) = false := by simpa using h7
    have hg : goneB I K x = false := by simp [goneB, h7]
    have HG := hid hg
    clear hg h7 hload
    go_enter Tryd.func28, Tryd.ntmps28
    go_wp2
    go_ret
    exact ⟨ret_bool HG.out.symm, HZ.out⟩
  · have hq : (x.kind != 7) = true := by simpa using h7
    have hg : goneB I K x = !decide ((⟨x.kind, x.key⟩ : DutyV) ∈ dutiesL I K) := by simp [goneB, h7]
    have HG := hid hg
    clear hg h7
    obtain ⟨bb, hbb⟩ : ∃ bb, decide ((⟨x.kind, x.key⟩ : DutyV) ∈ dutiesL I K) = bb := ⟨_, rfl⟩
    rw [hbb] at HC HG
    clear hbb
    go_enter Tryd.func28, Tryd.ntmps28
    go_wp2_with fail
    refine HC.out.mono ?_
    rintro e w1 ⟨rfl, hb⟩
    clear hload
    go_wp2
    go_ret
    exact ⟨ret_bool (by rw [HG.out]), HZ.out.trans (hb.mono HZ.out.size)⟩

/-- What DeleteFunc leaves, whatever the row. -/
theorem deleteF_row (gs : Nat) (cap : Array Value) (f : CallV → Bool) (base : Nat) (v : Value) (L : List CallV) (w : World) (hown : Own12 w base v L) (hL : L.length ≤ 100000) (hb0 : base ≤ w.heap.size) (hso : Looks gs cap f base w)
    (he : ∀ args w, (callFunc gs args).run Tryd.prog w = .ok (.enter gs args) w) :
    Calls Tryd.prog 27 #[v, .func (.func gs) #[] cap] w fun e w' => ∃ v, e = .returned v ∧ Own12 w' base v (L.filter (fun x => !f x)) ∧ Below base w w' := by
  rcases hown.form with ⟨rfl, rfl⟩ | ⟨g, c, rfl, _, _⟩
  · have HI := hid (indexC_any gs cap f base (.slice none 0 0) [] w (hown.row encC_len (by decide)) (by simp) hb0 hso he)
    have HB := hid hb0
    clear hso hown hb0
    go_enter Tryd.func27, Tryd.ntmps27
    go_wp2_with fail
    refine HI.out.mono ?_
    rintro e w1 ⟨rfl, hb1⟩
    have HB1 := hid (hb1.mono HB.out)
    clear hb1
    simp only [idxC, List.findIdx?_nil]
    go_wp2
    go_ret
    exact ⟨_, rfl, Owns.nil _ _, HB1.out⟩
  · exact deleteF_any gs cap f base g c L w hown hL hb0 hso he

theorem res_calls {fn : Func} {tmps : Array Value} {r : Tmp} {b : Nat} {x y z : Value} {W : World} (hres : fn.results = #[.cell r 33]) (h : tmps.getD r undef = .pointer (some ⟨b, 0, none⟩)) (hb : W.heap[b]? = some (.cells #[x, y, z] 33)) :
    (results fn tmps).run Tryd.prog W = .ok (.agg #[x, y, z]) W := by
  obtain ⟨k0, k1, k2, _, _⟩ := blk3 hb
  rw [Array.getD_eq_getD_getElem?] at h
  simp [results, hres, go_sem, h, k0, k1, k2, loadVar]

set_option maxHeartbeats 2000000 in
set_option maxRecDepth 100000 in
theorem drop_any (cs : Array Value) (iv kv : Value) (hcs : BC cs iv kv) (I : List IntentV) (K : List KeptV) (ep nx : Int) (s : Value) (L : List CallV) (w : World) (hl1 : I.length ≤ 1000) (hl2 : K.length ≤ 1000) (hwf : ∀ x ∈ K, in8 x.phase)
    (hA : Asked w) (hI : RowOf 4 encIn w iv I) (hK : RowOf 8 encKp w kv K) (hL : L.length ≤ 10000) (hs : Row12 w s L) :
    Calls Tryd.prog 16 #[.agg cs, calls ep nx s] w fun e w' => ∃ v, e = .returned (calls ep nx v) ∧ Own12 w' w.heap.size v (dropL I K L) ∧ Below w.heap.size w w' := by
  have hmf := mkfunc
  obtain ⟨sa, sc, rfl, _, _, _, _⟩ := hs.open
  obtain ⟨W, hW⟩ : ∃ W, W = ((w.alloc (.cells cs 30)).alloc (.cells #[.int .i64 ep, .int .i64 nx, .slice sa L.length sc] 33)).alloc (.cells #[.int .i64 0, .int .i64 0, .slice none 0 0] 33) := ⟨_, rfl⟩
  have hB : Below w.heap.size w W := by rw [hW]; exact (((Below.refl _ _).alloc (Nat.le_refl _) _).alloc (by simp) _).alloc (by simp; omega) _
  have hz : W.heap.size = w.heap.size + 3 := by rw [hW]; simp
  have B0 := hid (show BB W w.heap.size cs by rw [hW]; exact blk_alloc (blk_alloc (heap_new _ _) _) _)
  have B1 := hid (show W.heap[w.heap.size + 1]? = some (.cells #[.int .i64 ep, .int .i64 nx, .slice sa L.length sc] 33) by rw [hW]; exact blk_alloc (heap_new2 _ _ _) _)
  have B2 := hid (show W.heap[w.heap.size + 2]? = some (.cells #[.int .i64 0, .int .i64 0, .slice none 0 0] 33) by rw [hW]; simpa using heap_new2 (w.alloc _) _ (.cells #[.int .i64 0, .int .i64 0, .slice none 0 0] 33))
  have HCL := hid (clone_any _ L W (by omega) (hs.below hB))
  have HAA := hid (hA.below hB)
  have HI := hid (RowOf.below hI hB)
  have HK := hid (RowOf.below hK hB)
  have HB := hid hB
  have HCS := hid hcs
  have HWF := hid hwf
  have HW := hid hW
  clear hB hA hI hK hs hcs hwf hW
  unfold calls
  go_enter Tryd.func16, Tryd.ntmps16
  go_wp2_with fail
  rw [← HW.out]
  refine HCL.out.mono ?_
  rintro e w1 ⟨v, rfl, hown, hb1⟩
  have hz1 := hb1.size
  have hlk : Looks 28 #[.pointer (some ⟨w.heap.size, 0, none⟩)] (goneB I K) W.heap.size w1 := fun W' x hB' => by
    have hBW := hb1.trans hB'
    exact drop1_any cs iv kv HCS.out I K w.heap.size x W' hl1 hl2 HWF.out (HAA.out.below hBW) (HI.out.below hBW) (HK.out.below hBW) (B0.out.below hBW (by omega))
  have HD := hid (deleteF_row 28 _ (goneB I K) W.heap.size v L w1 hown (by omega) hz1 hlk (enters_of Tryd.func28 (by kernel_rfl) rfl))
  have HB1 := hid hb1
  clear hown hlk hb1
  go_wp2_with fail
  refine HD.out.mono ?_
  rintro e w2 ⟨v2, rfl, hown2, hb2⟩
  obtain ⟨y1, y2, y3, rfl⟩ := hown2.shape
  have hb := HB1.out.trans hb2
  have hz2 := hb.size
  have C1 := hid (blk_below B1.out hb (by omega))
  have C2 := hid (blk_below B2.out hb (by omega))
  have HO := hid hown2
  have HBB := hid (HB.out.trans (hb.mono (by omega)))
  clear hb hown2 hb2
  obtain ⟨p0, p1, p2, pf, pl⟩ := blk3 C1.out
  obtain ⟨q0, q1, q2, qf, ql⟩ := blk3 C2.out
  go_wp2
  refine bodyPost_ret (res_calls (b := w.heap.size + 2) (x := .int .i64 ep) (y := .int .i64 nx) (z := .slice y1 y2 y3) rfl rfl ?_) rfl ⟨_, rfl, ?_, ?_⟩
  · exact blk_set (blk_set (blk_set (blk_other C2.out (p := ⟨w.heap.size + 1, 2, none⟩) (by simp) _) 0 _) 1 _) 2 _
  · exact Owns.mono ((((HO.out.other (p := ⟨w.heap.size + 1, 2, none⟩) (by dsimp only; omega) _).other (p := ⟨w.heap.size + 2, 0, none⟩) (by dsimp only; omega) _).other (p := ⟨w.heap.size + 2, 1, none⟩) (by dsimp only; omega) _).other (p := ⟨w.heap.size + 2, 2, none⟩) (by dsimp only; omega) _) (by omega)
  · exact (((HBB.out.setCell (p := ⟨w.heap.size + 1, 2, none⟩) (by simp) _).setCell (p := ⟨w.heap.size + 2, 0, none⟩) (by simp) _).setCell (p := ⟨w.heap.size + 2, 1, none⟩) (by simp) _).setCell (p := ⟨w.heap.size + 2, 2, none⟩) (by simp) _
end Go.Proofs.YtljmhmdpihpafaaDoor
