/- What the walk of CallClose wants: the law of closing in plain Lean, and the contracts at calls of at most sixty. -/
import Derived.Test.YtmphehlpakoheaaLt0
import Derived.IntWalk
namespace Go.Proofs.Ytmphehlpakoheaa
open Go.RowKit Go.Shelf

theorem pick_idx2 (key : Int) (n : Nat) (hn : 0 < n) (hn' : n ≤ 1000000) : ∃ j : Nat, j < n ∧ (IntKind.i64.wrap (key.tmod (n : Int) + (n : Int))).tmod (n : Int) = (j : Int) := by
  have h1 : key.tmod (n : Int) < n := Int.tmod_lt_of_pos _ (by omega)
  have h2 : -(n : Int) < key.tmod (n : Int) := Int.lt_tmod_of_pos _ (by omega)
  rw [IntWalk.i64_in _ (by omega)]
  have h4 : 0 ≤ (key.tmod (n : Int) + (n : Int)).tmod (n : Int) := Int.tmod_nonneg _ (by omega)
  have h5 : (key.tmod (n : Int) + (n : Int)).tmod (n : Int) < n := Int.tmod_lt_of_pos _ (by omega)
  exact ⟨((key.tmod (n : Int) + (n : Int)).tmod (n : Int)).toNat, by omega, by omega⟩

theorem goR_ids {hi : Int} : ∀ (l : List CallV) (last : Int) (seen : List (Int × Int)), goR hi last seen l = true → l.Pairwise fun a b => a.id < b.id
  | [], _, _, _ => List.Pairwise.nil
  | y :: ys, last, seen, h => by
    obtain ⟨_, h'⟩ := goR_cons.1 h
    exact List.Pairwise.cons (fun x hx => (goR_nums ys y.id _ h' x hx).2.2.2) (goR_ids ys y.id _ h')
theorem goR_new {hi : Int} : ∀ (l : List CallV) (last : Int) (seen : List (Int × Int)), goR hi last seen l = true → ∀ x ∈ l, (x.kind, x.key) ∉ seen
  | [], _, _, _, _, hx => by simp at hx
  | y :: ys, last, seen, h, x, hx => by
    obtain ⟨⟨_, _, _, _, _, g⟩, h'⟩ := goR_cons.1 h
    rcases List.mem_cons.1 hx with rfl | hx
    · exact g
    · exact fun hm => goR_new ys y.id _ h' x hx (List.mem_append_left _ hm)
theorem goR_keys {hi : Int} : ∀ (l : List CallV) (last : Int) (seen : List (Int × Int)), goR hi last seen l = true → l.Pairwise fun a b => ¬ (b.kind = a.kind ∧ b.key = a.key)
  | [], _, _, _ => List.Pairwise.nil
  | y :: ys, last, seen, h => by
    obtain ⟨_, h'⟩ := goR_cons.1 h
    exact List.Pairwise.cons (fun x hx hh => goR_new ys y.id _ h' x hx (List.mem_append_right _ (by simp [hh.1, hh.2]))) (goR_keys ys y.id _ h')

theorem erase_ids : ∀ (l : List CallV) (j : Nat) (x : CallV), l[j]? = some x → (l.Pairwise fun a b => a.id < b.id) → l.filter (fun y => y.id != x.id) = l.eraseIdx j
  | [], _, _, h, _ => by simp at h
  | a :: l, 0, x, h, hp => by
    simp at h; subst h
    rw [List.pairwise_cons] at hp
    have : l.filter (fun y => y.id != a.id) = l := List.filter_eq_self.2 fun y hy => by have := hp.1 y hy; simp; omega
    simp [this]
  | a :: l, j + 1, x, h, hp => by
    rw [List.pairwise_cons] at hp
    have hx : l[j]? = some x := by simpa using h
    have : (a.id != x.id) = true := by have := hp.1 x (mem_get hx); simp; omega
    rw [List.filter_cons, if_pos this, erase_ids l j x hx hp.2]
    rfl
theorem erase_had : ∀ (l : List CallV) (j : Nat) (x : CallV), l[j]? = some x → (l.Pairwise fun a b => ¬ (b.kind = a.kind ∧ b.key = a.key)) → hasB (l.eraseIdx j) x.kind x.key = false
  | [], _, _, h, _ => by simp at h
  | a :: l, 0, x, h, hp => by
    simp at h; subst h
    rw [List.pairwise_cons] at hp
    apply Bool.eq_false_iff.2
    intro hh
    obtain ⟨y, hy, hyy⟩ := List.any_eq_true.1 hh
    simp only [Bool.and_eq_true, beq_iff_eq] at hyy
    exact hp.1 y (by simpa using hy) hyy
  | a :: l, j + 1, x, h, hp => by
    rw [List.pairwise_cons] at hp
    have hx : l[j]? = some x := by simpa using h
    have ih := erase_had l j x hx hp.2
    have h1 := hp.1 x (mem_get hx)
    show (a.kind == x.kind && a.key == x.key || hasB (l.eraseIdx j) x.kind x.key) = false
    rw [ih, Bool.or_false]
    apply Bool.eq_false_iff.2
    simp only [ne_eq, Bool.and_eq_true, beq_iff_eq]
    exact fun hh => h1 ⟨hh.1.symm, hh.2.symm⟩

theorem close_is {C : CallsV} {j : Nat} {x : CallV} (h : rightB C = true) (hx : C.opens[j]? = some x) : keptL C (fun y => y.id != x.id) = C.opens.eraseIdx j := by
  unfold keptL; rw [if_pos h]; exact erase_ids _ _ _ hx (goR_ids _ _ _ (rightB_iff.1 h).2)
theorem close_had {C : CallsV} {j : Nat} {x : CallV} (h : rightB C = true) (hx : C.opens[j]? = some x) : hasB (C.opens.eraseIdx j) x.kind x.key = false := erase_had _ _ _ hx (goR_keys _ _ _ (rightB_iff.1 h).2)
theorem close_right {C : CallsV} {j : Nat} {x : CallV} (h : rightB C = true) (hx : C.opens[j]? = some x) : rightB ⟨C.epoch, C.next, C.opens.eraseIdx j⟩ = true := by
  rw [← close_is h hx]; exact kept_right _ h
theorem close_open {C : CallsV} {j : Nat} {x : CallV} {now : Int} (h : rightB C = true) (hx : C.opens[j]? = some x) (hn : C.next < 1048576) (h0 : 0 ≤ now) (h1 : now ≤ 1099511627776) :
    openErr ⟨C.epoch, C.next, C.opens.eraseIdx j⟩ x.kind x.key now = 0 := by
  obtain ⟨a, b, c, d⟩ := goR_nums _ _ _ (rightB_iff.1 h).2 x (mem_get hx)
  unfold openErr openOk
  rw [close_right h hx, a, b, numB_iff.2 ⟨h0, h1⟩]
  simp only [close_had h hx]
  simp [hn]
theorem close_err {C : CallsV} {j : Nat} {x : CallV} {now : Int} (hx : C.opens[j]? = some x) : openErr C x.kind x.key now = 2 := by
  unfold openErr openOk
  rw [hasB_at hx rfl rfl]
  simp
theorem close_len {l : List CallV} {j : Nat} (hj : j < l.length) : ((l.eraseIdx j).length : Int) = (l.length : Int) - 1 := by
  rw [List.length_eraseIdx_of_lt hj]; omega
theorem close_lo {l : List CallV} {i j : Nat} (h : i < j) : (l.eraseIdx j)[i]? = l[i]? := by rw [List.getElem?_eraseIdx, if_pos h]
theorem close_hi {l : List CallV} {i j : Nat} (h : ¬ i < j) : (l.eraseIdx j)[i]? = l[i + 1]? := by rw [List.getElem?_eraseIdx, if_neg h]
theorem close_id {C : CallsV} {j : Nat} {x : CallV} (h : rightB C = true) (hx : C.opens[j]? = some x) : (C.epoch * 1048576 + C.next != x.id) = true := by
  have := goR_lt _ _ _ (rightB_iff.1 h).2 x (mem_get hx)
  simp; omega

theorem cs_open_ok (C : CallsV) (v : Value) (k key now : Int) (w : World) (hr : Row12 w v C.opens) (hl : C.opens.length ≤ 60) (h0 : openErr C k key now = 0) :
    Calls Try.prog 13 #[calls C.epoch C.next v, .int .u8 k, .int .i64 key, .int .i64 now] w fun e w' => ∃ a c, e = .returned (.tuple #[calls C.epoch (C.next + 1) (.slice a (C.opens.length + 1) c), .int .i64 (C.epoch * 1048576 + C.next), .int .i64 0]) ∧ Own12 w' w.heap.size (.slice a (C.opens.length + 1) c) (C.opens ++ [newX C k key now]) ∧ Below w.heap.size w w' := by
  have hC : openC C k key now = ⟨C.epoch, C.next + 1, C.opens ++ [newX C k key now]⟩ := by unfold openC; rw [h0]; rfl
  have hI : openId C k key now = C.epoch * 1048576 + C.next := by unfold openId; rw [h0]; rfl
  refine (open_any C.epoch C.next k key now v C.opens w (by omega) hr).mono ?_
  rintro e w' ⟨v', he, ho, hb⟩
  rw [hC, hI, h0] at he
  rw [hC] at ho
  have hrow := ho.row encC_len (by decide)
  obtain ⟨a, c, rfl⟩ := shape_row hrow
  rw [show (C.opens ++ [newX C k key now]).length = C.opens.length + 1 by simp] at he ho
  exact ⟨a, c, he, ho, hb⟩
theorem cs_open_err (C : CallsV) (v : Value) (k key now : Int) (w : World) (hr : Row12 w v C.opens) (hl : C.opens.length ≤ 60) (h0 : ¬ openErr C k key now = 0) :
    Calls Try.prog 13 #[calls C.epoch C.next v, .int .u8 k, .int .i64 key, .int .i64 now] w fun e w' => ∃ a c, e = .returned (.tuple #[calls C.epoch C.next (.slice a C.opens.length c), .int .i64 0, .int .i64 (openErr C k key now)]) ∧ Row12 w' (.slice a C.opens.length c) C.opens ∧ Below w.heap.size w w' := by
  have hC : openC C k key now = C := by unfold openC; rw [if_neg h0]
  have hI : openId C k key now = 0 := by unfold openId; rw [if_neg h0]
  refine (open_any C.epoch C.next k key now v C.opens w (by omega) hr).mono ?_
  rintro e w' ⟨v', he, ho, hb⟩
  rw [hC, hI] at he
  rw [hC] at ho
  have hrow := ho.row encC_len (by decide)
  obtain ⟨a, c, rfl⟩ := shape_row hrow
  exact ⟨a, c, he, hrow, hb⟩
theorem cs_has (C : CallsV) (v : Value) (k key : Int) (b : Bool) (w : World) (hr : Row12 w v C.opens) (hl : C.opens.length ≤ 60) (hb : hasB C.opens k key = b) :
    Calls Try.prog 12 #[calls C.epoch C.next v, .int .u8 k, .int .i64 key] w fun e w' => e = .returned (.bool b) ∧ Below w.heap.size w w' := by
  rw [← hb]; exact has_row C.epoch C.next k key v C.opens w (by omega) hr
theorem cs_same (C : CallsV) (v v' : Value) (w : World) (hr : Row12 w v C.opens) (hr' : Row12 w v' C.opens) (hl : C.opens.length ≤ 60) :
    Calls Try.prog 25 #[calls C.epoch C.next v, calls C.epoch C.next v'] w fun e w' => e = .returned (.bool true) ∧ Below w.heap.size w w' := by
  have h := same_any C.epoch C.next C.epoch C.next v v' C.opens C.opens w hr hr' (by omega) (by omega)
  rw [show sameV ⟨C.epoch, C.next, C.opens⟩ ⟨C.epoch, C.next, C.opens⟩ = true by simp [sameV]] at h
  exact h
theorem cs_find (C : CallsV) (v : Value) (k key now : Int) (w : World) (hC : rightB C = true) (hr : Row12 w v (C.opens ++ [newX C k key now])) (hl : C.opens.length ≤ 60) :
    Calls Try.prog 14 #[calls C.epoch (C.next + 1) v, .int .i64 (C.epoch * 1048576 + C.next)] w fun e w' => e = .returned (.tuple #[encS (newX C k key now), .bool true]) ∧ Below w.heap.size w w' := by
  have h := find_any C.epoch (C.next + 1) (C.epoch * 1048576 + C.next) v _ w (by simp; omega) hr
  rw [show findC (C.opens ++ [newX C k key now]) (C.epoch * 1048576 + C.next) = (newX C k key now, true) from open_find hC] at h
  exact h
theorem cs_right (C : CallsV) (v : Value) (w : World) (hC : rightB C = true) (hr : Row12 w v C.opens) (hl : C.opens.length ≤ 61) :
    Calls Try.prog 15 #[calls C.epoch C.next v] w fun e w' => e = .returned (.bool true) ∧ Below w.heap.size w w' := by
  have h := right_any C.epoch C.next v C.opens w (by omega) hr
  rw [show rightB ⟨C.epoch, C.next, C.opens⟩ = true from hC] at h
  exact h
theorem cs_close (C : CallsV) (v : Value) (id : Int) (w : World) (hr : Row12 w v C.opens) (hl : C.opens.length ≤ 60) :
    Calls Try.prog 11 #[calls C.epoch C.next v, .int .i64 id] w fun e w' => ∃ a n c, e = .returned (calls C.epoch C.next (.slice a n c)) ∧ Own12 w' w.heap.size (.slice a n c) (keptL C (fun x => x.id != id)) ∧ Below w.heap.size w w' := by
  refine (close_any C.epoch C.next id v C.opens w (by omega) hr).mono ?_
  rintro e w' ⟨v', he, ho, hb⟩
  obtain ⟨a, n, c, rfl⟩ := ho.shape
  exact ⟨a, n, c, he, ho, hb⟩
theorem cs_find0 (C : CallsV) (v : Value) (id : Int) (w : World) (hC : rightB C = true) (hr : Row12 w v (keptL C (fun x => x.id != id))) (hl : C.opens.length ≤ 60) :
    Calls Try.prog 14 #[calls C.epoch C.next v, .int .i64 id] w fun e w' => e = .returned (.tuple #[encS ⟨0, 0, 0, 0⟩, .bool false]) ∧ Below w.heap.size w w' := by
  have h := find_any C.epoch C.next id v _ w (by have := kept_len C (fun x => x.id != id); omega) hr
  rw [close_find id hC] at h
  exact h
theorem cs_close1 (C : CallsV) (v : Value) (j : Nat) (x : CallV) (w : World) (hC : rightB C = true) (hx : C.opens[j]? = some x) (hr : Row12 w v C.opens) (hl : C.opens.length ≤ 60) :
    Calls Try.prog 11 #[calls C.epoch C.next v, .int .i64 x.id] w fun e w' => ∃ a c, e = .returned (calls C.epoch C.next (.slice a (C.opens.eraseIdx j).length c)) ∧ Row12 w' (.slice a (C.opens.eraseIdx j).length c) (C.opens.eraseIdx j) ∧ Below w.heap.size w w' := by
  refine (cs_close C v x.id w hr hl).mono ?_
  rintro e w' ⟨a, n, c, he, ho, hb⟩
  rw [close_is hC hx] at ho
  have hrow := own12_row ho
  obtain ⟨a', c', h⟩ := shape_row hrow
  cases h
  exact ⟨_, _, he, hrow, hb⟩
theorem cs_open_had (C : CallsV) (v : Value) (j : Nat) (x : CallV) (now : Int) (w : World) (hx : C.opens[j]? = some x) (hr : Row12 w v C.opens) (hl : C.opens.length ≤ 60) :
    Calls Try.prog 13 #[calls C.epoch C.next v, .int .u8 x.kind, .int .i64 x.key, .int .i64 now] w fun e w' => ∃ a c, e = .returned (.tuple #[calls C.epoch C.next (.slice a C.opens.length c), .int .i64 0, .int .i64 2]) ∧ Below w.heap.size w w' := by
  have he := close_err (now := now) hx
  refine (cs_open_err C v x.kind x.key now w hr hl (by rw [he]; decide)).mono ?_
  rintro e w' ⟨a, c, h, _, hb⟩
  rw [he] at h
  exact ⟨a, c, h, hb⟩
end Go.Proofs.Ytmphehlpakoheaa
