/- herdlaw13.great: brains, records that are too great to be asked. -/
import Derived.Test.YthnigndpibgibaaDoorVr
namespace Go.Proofs.YthnigndpibgibaaDoor
open Go.RowKit Go.Shelf
attribute [-go_sem] loadVar
attribute [local go_sem] load_other

theorem rgreat_at (B : BrainV) (q : Bool) (hq : greatB B = q) (mv iv kv : Value) (w : World) (hm : RowOf 1 encI w mv B.M) (hi : RowOf 4 encIn w iv B.I) (hk : RowOf 8 encKp w kv B.K) :
    Calls Tryd.prog 26 #[.agg (brT B.f B.g mv iv kv)] w fun e w' => e = .returned (.bool q) ∧ Below w.heap.size w w' := by
  rw [← hq]; exact rgreat_any B mv iv kv w hm hi hk
/-- What great ends with. -/
def GreatE (R : List RecE) (Bs : List BrR) (w : World) (e : Ending) (w' : World) : Prop :=
  ∃ q : Bool, e = .returned (.bool q) ∧ (q = false → R.length ≤ 60 ∧ (∀ r ∈ R, r.L.length ≤ 40) ∧ ∀ x ∈ Bs, greatB x.B = false) ∧ Below w.heap.size w w'
theorem all_take {α : Type} {l : List α} {k : Nat} {x : α} {p : α → Prop} (hx : l[k]? = some x) (h : ∀ y ∈ l.take k, p y) (hp : p x) : ∀ y ∈ l.take (k + 1), p y := by
  rw [take_snoc l k x hx]
  intro y hy
  rcases List.mem_append.1 hy with h1 | h1
  · exact h y h1
  · simp at h1
    rw [h1]
    exact hp
set_option maxRecDepth 100000 in
set_option maxHeartbeats 2000000 in
theorem great13_any (s bs : Value) (R : List RecE) (Bs : List BrR) (w : World) (hs : RecsR w R s) (hbs : BrsR w Bs bs) :
    Calls Tryd.prog 9 #[s, bs] w fun e w' => GreatE R Bs w e w' := by
  obtain ⟨hs, hsr⟩ := hs
  obtain ⟨hbs, hbr⟩ := hbs
  obtain ⟨sa, sc, rfl, p1, p2, p3, hop⟩ := hs.open
  obtain ⟨ba, bc, rfl, q1, q2, q3, hoq⟩ := hbs.open
  have HOP := hid hop
  have HOQ := hid hoq
  have HSR := hid hsr
  have HBR := hid hbr
  clear hs hbs hop hoq hsr hbr
  go_enter Tryd.func9, Tryd.ntmps9
  go_wp2
  go_loopw [5] (fun i wr => ∃ k : Nat, k ≤ Bs.length ∧ i = .int .i64 k ∧ (∀ x ∈ Bs.take k, greatB x.B = false) ∧ Below w.heap.size w wr) (fun i _ => Bs.length - (intOf i).toNat)
  case atStart => exact ⟨0, Nat.zero_le _, rfl, (fun x hx => by simp at hx), Below.refl _ _⟩
  case round =>
    obtain ⟨k, hk, rfl, hg, hB⟩ := hrel
    have HG := hid hg
    have HB := hid hB
    clear hg hB
    by_cases hlt : k < Bs.length
    · obtain ⟨b1, o1, rfl, hb1, hr1⟩ := HOQ.out (by omega)
      obtain ⟨x, hx⟩ := get_lt hlt
      have hld := load_row (hr1.below HB.out hb1) hx
      have hkL : (k : Int) < (Bs.length : Int) := by omega
      have hb1w : b1 < wr.heap.size := Nat.lt_of_lt_of_le hb1 HB.out.size
      obtain ⟨q, hq⟩ : ∃ q, greatB x.B = q := ⟨_, rfl⟩
      obtain ⟨r1, r2, r3⟩ := HBR.out x (mem_get hx)
      have HC := hid (rgreat_at x.B q hq x.mv x.iv x.kv wr (r1.below HB.out) (r2.below HB.out) (r3.below HB.out))
      have HX := hid hx
      have HQ := hid hq
      clear hr1 hx hq r1 r2 r3
      go_wp2_with fail
      refine HC.out.mono ?_
      rintro e V ⟨rfl, hb⟩
      have HBV := hid (HB.out.trans (hb.mono HB.out.size))
      have hbz := hb.size
      clear hb hld
      cases q with
      | true =>
        go_wp2
        go_ret
        exact ⟨true, rfl, (fun h => by cases h), HBV.out⟩
      | false =>
        go_wp2
        go_roundw
        case rel => exact ⟨k + 1, by omega, by go_num, all_take HX.out HG.out HQ.out, HBV.out⟩
        case measure => simp [intOf]; omega
    · obtain rfl : k = Bs.length := by omega
      have HGA := hid (show ∀ x ∈ Bs, greatB x.B = false by have := HG.out; rwa [List.take_length] at this)
      go_wp2
      go_loopw [6] (fun i wq => ∃ k : Nat, k ≤ R.length ∧ i = .int .i64 k ∧ k ≤ 61 ∧ (∀ x ∈ R.take k, x.L.length ≤ 40) ∧ wq = wr) (fun i _ => R.length - (intOf i).toNat)
      case atStart => exact ⟨0, Nat.zero_le _, rfl, by omega, (fun x hx => by simp at hx), rfl⟩
      case round =>
        obtain ⟨k, hk, rfl, hk6, hg, rfl⟩ := hrel
        have HG2 := hid hg
        clear hg
        by_cases hlt : k < R.length
        · obtain ⟨b1, o1, rfl, hb1, hr1⟩ := HOP.out (by omega)
          obtain ⟨x, hx⟩ := get_lt hlt
          obtain ⟨_, g1⟩ := rowR (hr1.below HB.out hb1) hx
          have hkL : (k : Int) < (R.length : Int) := by omega
          have hb1w : b1 < wr.heap.size := Nat.lt_of_lt_of_le hb1 HB.out.size
          obtain ⟨xa, xc, hxs, _⟩ := (HSR.out x (mem_get hx)).open
          rw [hxs] at g1
          have HX := hid hx
          clear hr1 hx hxs
          by_cases h60 : k ≤ 60
          · have d1 : decide ((k : Int) ≤ 60) = true := by simp; omega
            by_cases h40 : 40 < x.L.length
            · have d2 : decide ((40 : Int) < (x.L.length : Int)) = true := by simp; omega
              clear h40
              go_wp2
              go_ret
              exact ⟨true, rfl, (fun h => by cases h), HB.out⟩
            · have d2 : decide ((40 : Int) < (x.L.length : Int)) = false := by simp; omega
              have HL := hid (show x.L.length ≤ 40 by omega)
              clear h40
              go_wp2
              go_roundw
              case rel => exact ⟨k + 1, by omega, by go_num, by omega, all_take HX.out HG2.out HL.out, by first | rfl | trivial⟩
              case measure => simp [intOf]; omega
          · have d1 : decide ((k : Int) ≤ 60) = false := by simp; omega
            have d3 : decide ((60 : Int) < (R.length : Int)) = true := by simp; omega
            go_wp2
            go_ret
            exact ⟨true, rfl, (fun h => by cases h), HB.out⟩
        · obtain rfl : k = R.length := by omega
          by_cases h60 : 60 < R.length
          · have d3 : decide ((60 : Int) < (R.length : Int)) = true := by simp; omega
            go_wp2
            go_ret
            exact ⟨true, rfl, (fun h => by cases h), HB.out⟩
          · have d3 : decide ((60 : Int) < (R.length : Int)) = false := by simp; omega
            have HL := hid (show ∀ x ∈ R, x.L.length ≤ 40 by have := HG2.out; rwa [List.take_length] at this)
            have HL6 := hid (show R.length ≤ 60 by omega)
            go_wp2
            go_ret
            exact ⟨false, rfl, (fun _ => ⟨HL6.out, HL.out, HGA.out⟩), HB.out⟩
end Go.Proofs.YthnigndpibgibaaDoor
