/- net.Send and net.Post. -/
import Derived.Test.YthnlppbfmmiioaaBeh
namespace Go.Proofs.Ythnlppbfmmiioaa
open Go.RowKit Go.Shelf

theorem shape3 {α : Type} {k : Nat} {enc : α → List Value} {w : World} {v : Value} {l : List α} (h : RowOf k enc w v l) : ∃ a n c, v = .slice a n c := by
  obtain ⟨a, c, rfl⟩ := shape_row h; exact ⟨_, _, _, rfl⟩
theorem owns_len {α : Type} {k : Nat} {e : TypeId} {enc : α → List Value} {W : World} {base : Nat} {a : Option Addr} {n c : Nat} {l : List α} (h : Owns k e enc W base (.slice a n c) l) : n = l.length := by
  obtain ⟨_, ⟨h1, h2⟩ | ⟨g, cap, cur, h1, _⟩⟩ := h
  · cases h1; exact h2.symm
  · cases h1; rfl
theorem res_net_tmp {fn : Func} {tmps : Array Value} {r q : Tmp} {b : Nat} {c0 c1 u : Value} {W : World} (hres : fn.results = #[.cell r 25, .tmp q]) (h : tmps.getD r undef = .pointer (some ⟨b, 0, none⟩)) (hq : tmps.getD q undef = u) (hb : W.heap[b]? = some (.cells #[c0, c1] 25)) :
    (results fn tmps).run Try.prog W = .ok (.tuple #[.agg #[c0, c1], u]) W := by
  obtain ⟨k0, k1, _, _⟩ := blk2 hb
  rw [Array.getD_eq_getD_getElem?] at h hq
  simp [results, hres, go_sem, h, hq, k0, k1]
def sendV (n : NetV) (x : AskV) : NetV × Int := if n.asks.length < 60 then (⟨n.asks ++ [x], n.tells⟩, 0) else (n, 110)
def postV (n : NetV) (x : TellV) : NetV × Int := if n.tells.length < 60 then (⟨n.asks, n.tells ++ [x]⟩, 0) else (n, 110)

set_option maxHeartbeats 2000000 in
set_option maxRecDepth 100000 in
theorem send_any (va vt : Value) (n : NetV) (x : AskV) (w : World) (hn : NetIs w va vt n) (hk : netOk n) :
    Calls Try.prog 10 #[netv va vt, aggA x] w fun e w' => ∃ ua ut, e = .returned (.tuple #[netv ua ut, .int .i64 (sendV n x).2]) ∧ NetOwn w' w.heap.size ua ut (sendV n x).1 ∧ Below w.heap.size w w' := by
  obtain ⟨a0, n0, c0, rfl⟩ : ∃ a n c, va = .slice a n c := shape3 hn.1
  obtain ⟨a1, n1, c1, rfl⟩ : ∃ a n c, vt = .slice a n c := (by obtain ⟨_, ms, h, _⟩ := hn; exact shape3 h)
  obtain ⟨W, hW⟩ : ∃ W, W = ((w.alloc (.cells #[.slice a0 n0 c0, .slice a1 n1 c1] 25)).alloc (.cells #[.int .u8 x.kind, .int .i64 x.call, .int .i64 x.a, .int .i64 x.b, .int .i64 x.c, .int .i64 x.d] 27)).alloc (.cells #[.slice none 0 0, .slice none 0 0] 25) := ⟨_, rfl⟩
  have hB : Below w.heap.size w W := by rw [hW]; exact (((Below.refl _ _).alloc (Nat.le_refl _) _).alloc (by simp) _).alloc (by simp; omega) _
  have B0 : Hid (W.heap[w.heap.size]? = some (.cells #[.slice a0 n0 c0, .slice a1 n1 c1] 25)) := hid (by rw [hW]; exact blk_alloc (blk_alloc (heap_new _ _) _) _)
  have X0 : Hid (W.heap[w.heap.size + 1]? = some (.cells #[.int .u8 x.kind, .int .i64 x.call, .int .i64 x.a, .int .i64 x.b, .int .i64 x.c, .int .i64 x.d] 27)) := hid (by rw [hW]; exact blk_alloc (heap_new2 _ _ _) _)
  have R0 : Hid (W.heap[w.heap.size + 2]? = some (.cells #[.slice none 0 0, .slice none 0 0] 25)) := hid (by rw [hW]; simpa using heap_new2 (w.alloc _) _ _)
  have hsz : W.heap.size = w.heap.size + 3 := by rw [hW]; simp
  obtain ⟨SP, hsp⟩ : ∃ SP, sendV n x = SP := ⟨_, rfl⟩
  rw [hsp]
  have HSP := hid hsp
  clear hsp
  have HC := hid (own_any _ _ n W (hn.below hB) hk)
  have HB := hid hB
  have HSZ := hid hsz
  have hlen : n.asks.length ≤ 1000 := hk.1
  clear hn hk hB hsz
  unfold netv
  unfold aggA
  go_enter Try.func10, Try.ntmps10
  go_wp2_with fail
  rw [← hW]
  clear hW
  refine HC.out.mono ?_
  rintro e w1 ⟨ua, ut, he, hnet, hb⟩
  unfold netv at he
  subst he
  obtain ⟨u0, un, uc, rfl⟩ := Owns.shape hnet.1
  obtain ⟨t0, tn, tc, rfl⟩ : ∃ a n c, ut = .slice a n c := by obtain ⟨_, ms, h, _⟩ := hnet; exact Owns.shape h
  have hs0 := HSZ.out
  have G0 := hid (blk_below B0.out hb (blk_lt B0.out))
  have GX := hid (blk_below X0.out hb (blk_lt X0.out))
  have GR := hid (blk_below R0.out hb (blk_lt R0.out))
  have HZ := hid (HB.out.trans (hb.mono HB.out.size))
  have HN := hid (show NetOwn w1 (w.heap.size + 3) (.slice u0 un uc) (.slice t0 tn tc) n by rw [← hs0]; exact hnet)
  have hb1 := hb.size
  clear hnet hb hs0
  obtain ⟨k0, k1, kf, kl⟩ := blk2 G0.out
  obtain ⟨x0, x1, x2, x3, x4, x5, xf, xl⟩ := blk6 GX.out
  obtain ⟨r0, r1, rf, rl⟩ := blk2 GR.out
  go_wp2_with fail
  clear k0 k1 kf kl x0 x1 x2 x3 x4 x5 xf xl r0 r1 rf rl
  obtain ⟨W2, hW2⟩ : ∃ W2, W2 = (w1.setCell ⟨w.heap.size, 0, none⟩ (.slice u0 un uc)).setCell ⟨w.heap.size, 1, none⟩ (.slice t0 tn tc) := ⟨_, rfl⟩
  have hs2 : W2.heap.size = w1.heap.size := by rw [hW2]; simp [World.setCell]
  have hg0 : W2.heap[w.heap.size]? = some (.cells #[.slice u0 un uc, .slice t0 tn tc] 25) := by rw [hW2]; exact blk_set (blk_set G0.out 0 _) 1 _
  have hgr : W2.heap[w.heap.size + 2]? = some (.cells #[.slice none 0 0, .slice none 0 0] 25) := by rw [hW2]; exact blk_far (blk_far GR.out (by omega) _) (by omega) _
  have hgx : W2.heap[w.heap.size + 1]? = some (.cells #[.int .u8 x.kind, .int .i64 x.call, .int .i64 x.a, .int .i64 x.b, .int .i64 x.c, .int .i64 x.d] 27) := by rw [hW2]; exact blk_far (blk_far GX.out (by omega) _) (by omega) _
  have hnw : NetOwn W2 (w.heap.size + 3) (.slice u0 un uc) (.slice t0 tn tc) n := by rw [hW2]; exact (HN.out.other (p := ⟨w.heap.size, 0, none⟩) (by simp) _).other (p := ⟨w.heap.size, 1, none⟩) (by simp) _
  have hzw : Below w.heap.size w W2 := by rw [hW2]; exact (HZ.out.setCell (p := ⟨w.heap.size, 0, none⟩) (by simp) _).setCell (p := ⟨w.heap.size, 1, none⟩) (by simp) _
  rw [← hW2]
  clear hW2 G0 GR HN HZ GX
  have hz3 : w.heap.size + 3 ≤ W2.heap.size := by have := HSZ.out; omega

  by_cases hl : n.asks.length < 60
  · have hspec : SP = (⟨n.asks ++ [x], n.tells⟩, 0) := by rw [← HSP.out]; unfold sendV; rw [if_pos hl]
    subst hspec
    have G0 := hid hg0
    have GR := hid hgr
    have HN := hid hnw
    have HZ := hid hzw
    clear hg0 hgr hnw hzw
    obtain ⟨ha, ms, ht, hms⟩ := HN.out
    refine (behindA_room w.heap.size (w.heap.size + 3) u0 un uc (.slice t0 tn tc) x n.asks W2 G0.out ha (by omega) (by omega) hl).mono ?_
    rintro e w3 ⟨rfl, v', hb3, ho3, hon, hbe⟩
    have H3 := hid hb3
    have HO3 := hid ho3
    have HON := hid hon
    have R3 := hid (blk_away GR.out hon (by omega) (by decide))
    have Z3 : Hid (Below w.heap.size w w3) := hid (HZ.out.trans hbe)
    obtain ⟨v0, vn, vc, rfl⟩ := ho3.shape
    obtain ⟨k0, k1, kf, kl⟩ := blk2 hb3
    obtain ⟨r0, r1, rf, rl⟩ := blk2 R3.out
    have hnet : NetOwn w3 (w.heap.size + 3) (.slice v0 vn vc) (.slice t0 tn tc) ⟨n.asks ++ [x], n.tells⟩ := ⟨HO3.out, ms, Owns.away ht HON.out (by omega) (by decide), hms.away HON.out (by omega) (by decide)⟩
    have HN3 := hid hnet
    clear hb3 ho3 hon hbe ha ht hms hnet
    go_wp2
    refine bodyPost_ret (res_net_tmp rfl rfl rfl (blk_set (blk_set R3.out 0 _) 1 _)) rfl ⟨_, _, rfl, ?_, ?_⟩
    · exact ((HN3.out.other (p := ⟨w.heap.size + 2, 0, none⟩) (by simp) _).other (p := ⟨w.heap.size + 2, 1, none⟩) (by simp) _).mono (by omega)
    · exact (Z3.out.setCell (p := ⟨w.heap.size + 2, 0, none⟩) (by simp) _).setCell (p := ⟨w.heap.size + 2, 1, none⟩) (by simp) _
  · have hspec : SP = (n, 110) := by rw [← HSP.out]; unfold sendV; rw [if_neg hl]
    subst hspec
    have hun : un = n.asks.length := by
      obtain ⟨ha, ms, ht, hms⟩ := hnw
      exact owns_len ha
    have G0 := hid hg0
    have GR := hid hgr
    have HN := hid hnw
    have HZ := hid hzw
    have hu1 : 60 ≤ un := by omega
    have hu2 : un ≤ 1000000 := by omega
    clear hg0 hgr hnw hzw hun
    refine (behindA_full w.heap.size u0 un uc (.slice t0 tn tc) x W2 G0.out hu1 hu2).mono ?_
    rintro e w3 ⟨rfl, hb⟩
    have R3 := hid (blk_below GR.out hb (blk_lt GR.out))
    have Z3 : Hid (Below w.heap.size w w3) := hid (HZ.out.trans (hb.mono HZ.out.size))
    have HN3 := hid (HN.out.below hb)
    obtain ⟨k0, k1, kf, kl⟩ := blk2 (blk_below G0.out hb (blk_lt G0.out))
    obtain ⟨r0, r1, rf, rl⟩ := blk2 R3.out
    clear hb
    go_wp2
    refine bodyPost_ret (res_net_tmp rfl rfl rfl (blk_set (blk_set R3.out 0 _) 1 _)) rfl ⟨_, _, rfl, ?_, ?_⟩
    · exact ((HN3.out.other (p := ⟨w.heap.size + 2, 0, none⟩) (by simp) _).other (p := ⟨w.heap.size + 2, 1, none⟩) (by simp) _).mono (by omega)
    · exact (Z3.out.setCell (p := ⟨w.heap.size + 2, 0, none⟩) (by simp) _).setCell (p := ⟨w.heap.size + 2, 1, none⟩) (by simp) _

set_option maxHeartbeats 2000000 in
set_option maxRecDepth 100000 in
theorem post_any (va vt : Value) (n : NetV) (ca ki co di : Int) (a : Option Addr) (ns c : Nat) (mo : Bool) (L : List SeenV) (w : World) (hn : NetIs w va vt n) (hk : netOk n) (hx : RowN w (.slice a ns c) L) (hL : L.length ≤ 1000000) :
    Calls Try.prog 12 #[netv va vt, .agg #[.int .i64 ca, .int .u8 ki, .int .u8 co, .int .i64 di, .slice a ns c, .bool mo]] w fun e w' => ∃ ua ut, e = .returned (.tuple #[netv ua ut, .int .i64 (postV n ⟨ca, ki, co, di, L, mo⟩).2]) ∧ NetOwn w' w.heap.size ua ut (postV n ⟨ca, ki, co, di, L, mo⟩).1 ∧ Below w.heap.size w w' := by
  obtain ⟨a0, n0, c0, rfl⟩ : ∃ a n c, va = .slice a n c := shape3 hn.1
  obtain ⟨a1, n1, c1, rfl⟩ : ∃ a n c, vt = .slice a n c := (by obtain ⟨_, ms, h, _⟩ := hn; exact shape3 h)
  obtain ⟨W, hW⟩ : ∃ W, W = ((w.alloc (.cells #[.slice a0 n0 c0, .slice a1 n1 c1] 25)).alloc (.cells #[.int .i64 ca, .int .u8 ki, .int .u8 co, .int .i64 di, .slice a ns c, .bool mo] 30)).alloc (.cells #[.slice none 0 0, .slice none 0 0] 25) := ⟨_, rfl⟩
  have hB : Below w.heap.size w W := by rw [hW]; exact (((Below.refl _ _).alloc (Nat.le_refl _) _).alloc (by simp) _).alloc (by simp; omega) _
  have B0 : Hid (W.heap[w.heap.size]? = some (.cells #[.slice a0 n0 c0, .slice a1 n1 c1] 25)) := hid (by rw [hW]; exact blk_alloc (blk_alloc (heap_new _ _) _) _)
  have X0 : Hid (W.heap[w.heap.size + 1]? = some (.cells #[.int .i64 ca, .int .u8 ki, .int .u8 co, .int .i64 di, .slice a ns c, .bool mo] 30)) := hid (by rw [hW]; exact blk_alloc (heap_new2 _ _ _) _)
  have R0 : Hid (W.heap[w.heap.size + 2]? = some (.cells #[.slice none 0 0, .slice none 0 0] 25)) := hid (by rw [hW]; simpa using heap_new2 (w.alloc _) _ _)
  have hsz : W.heap.size = w.heap.size + 3 := by rw [hW]; simp
  obtain ⟨SP, hsp⟩ : ∃ SP, postV n ⟨ca, ki, co, di, L, mo⟩ = SP := ⟨_, rfl⟩
  rw [hsp]
  have HSP := hid hsp
  clear hsp
  have HC := hid (own_any _ _ n W (hn.below hB) hk)
  have HB := hid hB
  have HSZ := hid hsz
  have hlen : n.tells.length ≤ 1000 := hk.2.1
  have HX := hid hx
  clear hn hk hB hsz hx
  unfold netv
  go_enter Try.func12, Try.ntmps12
  go_wp2_with fail
  rw [← hW]
  clear hW
  refine HC.out.mono ?_
  rintro e w1 ⟨ua, ut, he, hnet, hb⟩
  unfold netv at he
  subst he
  obtain ⟨u0, un, uc, rfl⟩ := Owns.shape hnet.1
  obtain ⟨t0, tn, tc, rfl⟩ : ∃ a n c, ut = .slice a n c := by obtain ⟨_, ms, h, _⟩ := hnet; exact Owns.shape h
  have hs0 := HSZ.out
  have G0 := hid (blk_below B0.out hb (blk_lt B0.out))
  have GX := hid (blk_below X0.out hb (blk_lt X0.out))
  have GR := hid (blk_below R0.out hb (blk_lt R0.out))
  have HZ := hid (HB.out.trans (hb.mono HB.out.size))
  have HN := hid (show NetOwn w1 (w.heap.size + 3) (.slice u0 un uc) (.slice t0 tn tc) n by rw [← hs0]; exact hnet)
  have hb1 := hb.size
  clear hnet hb hs0
  obtain ⟨k0, k1, kf, kl⟩ := blk2 G0.out
  obtain ⟨x0, x1, x2, x3, x4, x5, xf, xl⟩ := blk6 GX.out
  obtain ⟨r0, r1, rf, rl⟩ := blk2 GR.out
  go_wp2_with fail
  clear k0 k1 kf kl x0 x1 x2 x3 x4 x5 xf xl r0 r1 rf rl
  obtain ⟨W2, hW2⟩ : ∃ W2, W2 = (w1.setCell ⟨w.heap.size, 0, none⟩ (.slice u0 un uc)).setCell ⟨w.heap.size, 1, none⟩ (.slice t0 tn tc) := ⟨_, rfl⟩
  have hs2 : W2.heap.size = w1.heap.size := by rw [hW2]; simp [World.setCell]
  have hg0 : W2.heap[w.heap.size]? = some (.cells #[.slice u0 un uc, .slice t0 tn tc] 25) := by rw [hW2]; exact blk_set (blk_set G0.out 0 _) 1 _
  have hgr : W2.heap[w.heap.size + 2]? = some (.cells #[.slice none 0 0, .slice none 0 0] 25) := by rw [hW2]; exact blk_far (blk_far GR.out (by omega) _) (by omega) _
  have hgx : W2.heap[w.heap.size + 1]? = some (.cells #[.int .i64 ca, .int .u8 ki, .int .u8 co, .int .i64 di, .slice a ns c, .bool mo] 30) := by rw [hW2]; exact blk_far (blk_far GX.out (by omega) _) (by omega) _
  have hnw : NetOwn W2 (w.heap.size + 3) (.slice u0 un uc) (.slice t0 tn tc) n := by rw [hW2]; exact (HN.out.other (p := ⟨w.heap.size, 0, none⟩) (by simp) _).other (p := ⟨w.heap.size, 1, none⟩) (by simp) _
  have hzw : Below w.heap.size w W2 := by rw [hW2]; exact (HZ.out.setCell (p := ⟨w.heap.size, 0, none⟩) (by simp) _).setCell (p := ⟨w.heap.size, 1, none⟩) (by simp) _
  rw [← hW2]
  clear hW2 G0 GR HN HZ GX
  have HX2 : Hid (RowN W2 (.slice a ns c) L) := hid (RowOf.below HX.out hzw)
  have hg0' := hid hg0
  have hgr' := hid hgr
  have hnw' := hid hnw
  have hzw' := hid hzw
  clear hg0 hgr hnw hzw hgx
  refine (nown_any ca ki co di a ns c mo L W2 hL HX2.out).mono ?_
  rintro e w4 ⟨a', n', c', rfl, hown, hb4⟩
  have hg0 := blk_below hg0'.out hb4 (blk_lt hg0'.out)
  have hgr := blk_below hgr'.out hb4 (blk_lt hgr'.out)
  have hnw := hnw'.out.below hb4
  have hzw := hzw'.out.trans (hb4.mono hzw'.out.size)
  have HOWN : Hid (OwnN w4 (w.heap.size + 3) (.slice a' n' c') L) := hid (hown.mono (by have := HSZ.out; omega))
  have hz3 : w.heap.size + 3 ≤ w4.heap.size := by have := HSZ.out; have := hb4.size; omega
  clear hown hb4 hg0' hgr' hnw' hzw' hs2
  obtain ⟨W2, rfl⟩ : ∃ W, W = w4 := ⟨_, rfl⟩
  go_wp2_with fail

  by_cases hl : n.tells.length < 60
  · have hspec : SP = (⟨n.asks, n.tells ++ [⟨ca, ki, co, di, L, mo⟩]⟩, 0) := by rw [← HSP.out]; unfold postV; rw [if_pos hl]
    subst hspec
    have G0 := hid hg0
    have GR := hid hgr
    have HN := hid hnw
    have HZ := hid hzw
    clear hg0 hgr hnw hzw
    obtain ⟨ha, ms, ht, hms⟩ := HN.out
    refine (behindT_room w.heap.size (w.heap.size + 3) t0 tn tc (.slice u0 un uc) ca ki co di a' n' c' mo ms W2 G0.out ht (by omega) (by omega) (by rw [hms.1]; exact hl)).mono ?_
    rintro e w3 ⟨rfl, v', hb3, ho3, hon, hbe⟩
    have H3 := hid hb3
    have HO3 := hid ho3
    have HON := hid hon
    have R3 := hid (blk_away GR.out hon (by omega) (by decide))
    have Z3 : Hid (Below w.heap.size w w3) := hid (HZ.out.trans hbe)
    obtain ⟨v0, vn, vc, rfl⟩ := ho3.shape
    obtain ⟨k0, k1, kf, kl⟩ := blk2 hb3
    obtain ⟨r0, r1, rf, rl⟩ := blk2 R3.out
    have hnet : NetOwn w3 (w.heap.size + 3) (.slice u0 un uc) (.slice v0 vn vc) ⟨n.asks, n.tells ++ [⟨ca, ki, co, di, L, mo⟩]⟩ := ⟨Owns.away ha HON.out (by omega) (by decide), _, HO3.out, (hms.away HON.out (by omega) (by decide)).snoc ⟨Owns.away HOWN.out HON.out (by omega) (by decide), rfl⟩⟩
    have HN3 := hid hnet
    clear hb3 ho3 hon hbe ha ht hms hnet
    go_wp2
    refine bodyPost_ret (res_net_tmp rfl rfl rfl (blk_set (blk_set R3.out 0 _) 1 _)) rfl ⟨_, _, rfl, ?_, ?_⟩
    · exact ((HN3.out.other (p := ⟨w.heap.size + 2, 0, none⟩) (by simp) _).other (p := ⟨w.heap.size + 2, 1, none⟩) (by simp) _).mono (by omega)
    · exact (Z3.out.setCell (p := ⟨w.heap.size + 2, 0, none⟩) (by simp) _).setCell (p := ⟨w.heap.size + 2, 1, none⟩) (by simp) _
  · have hspec : SP = (n, 110) := by rw [← HSP.out]; unfold postV; rw [if_neg hl]
    subst hspec
    have hun : tn = n.tells.length := by
      obtain ⟨ha, ms, ht, hms⟩ := hnw
      rw [← hms.1]; exact owns_len ht
    have G0 := hid hg0
    have GR := hid hgr
    have HN := hid hnw
    have HZ := hid hzw
    have hu1 : 60 ≤ tn := by omega
    have hu2 : tn ≤ 1000000 := by omega
    clear hg0 hgr hnw hzw hun
    refine (behindT_full w.heap.size t0 tn tc (.slice u0 un uc) ca ki co di a' n' c' mo W2 G0.out hu1 hu2).mono ?_
    rintro e w3 ⟨rfl, hb⟩
    have R3 := hid (blk_below GR.out hb (blk_lt GR.out))
    have Z3 : Hid (Below w.heap.size w w3) := hid (HZ.out.trans (hb.mono HZ.out.size))
    have HN3 := hid (HN.out.below hb)
    obtain ⟨k0, k1, kf, kl⟩ := blk2 (blk_below G0.out hb (blk_lt G0.out))
    obtain ⟨r0, r1, rf, rl⟩ := blk2 R3.out
    clear hb
    go_wp2
    refine bodyPost_ret (res_net_tmp rfl rfl rfl (blk_set (blk_set R3.out 0 _) 1 _)) rfl ⟨_, _, rfl, ?_, ?_⟩
    · exact ((HN3.out.other (p := ⟨w.heap.size + 2, 0, none⟩) (by simp) _).other (p := ⟨w.heap.size + 2, 1, none⟩) (by simp) _).mono (by omega)
    · exact (Z3.out.setCell (p := ⟨w.heap.size + 2, 0, none⟩) (by simp) _).setCell (p := ⟨w.heap.size + 2, 1, none⟩) (by simp) _
end Go.Proofs.Ythnlppbfmmiioaa
