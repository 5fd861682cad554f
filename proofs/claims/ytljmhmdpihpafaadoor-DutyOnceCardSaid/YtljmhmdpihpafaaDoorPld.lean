/- What opening a call for each duty leaves: plain facts. -/
import Derived.Test.YtljmhmdpihpafaaDoorRgh
import Derived.Test.YtljmhmdpihpafaaDoorOpd
import Derived.Test.YtljmhmdpihpafaaDoorNm0
namespace Go.Proofs.YtljmhmdpihpafaaDoor
open Go.RowKit Go.Shelf

/-- The calls that are opened, by number. -/
def newC (ep now : Int) : Int → List DutyV → List CallV
  | _, [] => []
  | nx, d :: ds => ⟨ep * 1048576 + nx, d.kind, d.key, now⟩ :: newC ep now (nx + 1) ds
/-- What is asked by them. -/
def newA (I : List IntentV) (ep : Int) : Int → List DutyV → List AskV
  | _, [] => []
  | nx, d :: ds => askV I d (ep * 1048576 + nx) :: newA I ep (nx + 1) ds
theorem newC_len (ep now : Int) : ∀ (l : List DutyV) (nx : Int), (newC ep now nx l).length = l.length
  | [], _ => rfl
  | _ :: ds, nx => by simp [newC, newC_len ep now ds]
theorem newA_len (I : List IntentV) (ep : Int) : ∀ (l : List DutyV) (nx : Int), (newA I ep nx l).length = l.length
  | [], _ => rfl
  | _ :: ds, nx => by simp [newA, newA_len I ep ds]
theorem newC_get (ep now : Int) : ∀ (l : List DutyV) (nx : Int) (i : Nat), (newC ep now nx l)[i]? = l[i]?.map fun d => ⟨ep * 1048576 + (nx + i), d.kind, d.key, now⟩
  | [], _, _ => by simp [newC]
  | d :: ds, nx, 0 => by simp [newC]
  | d :: ds, nx, i + 1 => by
    simp only [newC, List.getElem?_cons_succ]
    rw [newC_get ep now ds (nx + 1) i]
    congr 2
    funext x
    simp only [CallV.mk.injEq, and_true]
    omega
theorem newA_get (I : List IntentV) (ep : Int) : ∀ (l : List DutyV) (nx : Int) (i : Nat), (newA I ep nx l)[i]? = l[i]?.map fun d => askV I d (ep * 1048576 + (nx + i))
  | [], _, _ => by simp [newA]
  | d :: ds, nx, 0 => by simp [newA]
  | d :: ds, nx, i + 1 => by
    simp only [newA, List.getElem?_cons_succ]
    rw [newA_get I ep ds (nx + 1) i]
    congr 2
    funext x
    congr 1
    omega
/-- The duties that have no call. -/
def fresh (L : List CallV) (l : List DutyV) : List DutyV := l.filter fun d => !hasB L d.kind d.key
theorem fresh_snoc (L : List CallV) (l : List DutyV) (d : DutyV) (id now : Int) (h : d ∉ l) : fresh (L ++ [⟨id, d.kind, d.key, now⟩]) l = fresh L l := by
  unfold fresh
  refine List.filter_congr fun y hy => ?_
  rw [hasB_snoc]
  have hne : (d.kind == y.kind && d.key == y.key) = false := by
    apply Bool.eq_false_iff.2
    intro he
    simp only [Bool.and_eq_true, beq_iff_eq] at he
    apply h
    have : d = y := by cases d; cases y; simp_all
    rw [this]; exact hy
  simp [hne]
theorem openErr_ok {C : CallsV} {k key now : Int} (h : rightB C = true) (h1 : kindB k = true) (h2 : numB key = true) (h3 : numB now = true) (h4 : hasB C.opens k key = false) (h5 : C.next < 1048576) : openErr C k key now = 0 := by
  unfold openErr openOk
  rw [h, h1, h2, h3, h4]
  simp [h5]
theorem openD_go (I : List IntentV) (now : Int) (hnow : numB now = true) : ∀ (l : List DutyV) (C : CallsV) (AS : List AskV), rightB C = true → (∀ d ∈ l, kindB d.kind = true ∧ numB d.key = true) → l.Nodup → C.next + l.length ≤ 1048576 →
    l.foldl (stepO I now) (C, AS) = (⟨C.epoch, C.next + (fresh C.opens l).length, C.opens ++ newC C.epoch now C.next (fresh C.opens l)⟩, AS ++ newA I C.epoch C.next (fresh C.opens l)) ∧
      rightB ⟨C.epoch, C.next + (fresh C.opens l).length, C.opens ++ newC C.epoch now C.next (fresh C.opens l)⟩ = true
  | [], C, AS, hR, _, _, _ => by simpa [fresh, newC, newA] using hR
  | d :: ds, C, AS, hR, hk, hn, hl => by
    obtain ⟨hd, hn⟩ := List.nodup_cons.1 hn
    simp only [List.length_cons] at hl
    have hk' : ∀ d ∈ ds, kindB d.kind = true ∧ numB d.key = true := fun x hx => hk x (List.mem_cons_of_mem _ hx)
    rw [List.foldl_cons]
    cases hh : hasB C.opens d.kind d.key with
    | true =>
      have e : stepO I now (C, AS) d = (C, AS) := by unfold stepO; rw [if_pos hh]
      have ef : fresh C.opens (d :: ds) = fresh C.opens ds := by unfold fresh; rw [List.filter_cons]; simp [hh]
      rw [e, ef]
      exact openD_go I now hnow ds C AS hR hk' hn (by omega)
    | false =>
      obtain ⟨h1, h2⟩ := hk d List.mem_cons_self
      have h0 := openErr_ok hR h1 h2 hnow hh (by omega)
      have e : stepO I now (C, AS) d = (⟨C.epoch, C.next + 1, C.opens ++ [⟨C.epoch * 1048576 + C.next, d.kind, d.key, now⟩]⟩, AS ++ [askV I d (C.epoch * 1048576 + C.next)]) := by
        unfold stepO openC openId
        rw [if_neg (by simp [hh])]
        simp [h0]
      have ef : fresh C.opens (d :: ds) = d :: fresh C.opens ds := by unfold fresh; rw [List.filter_cons]; simp [hh]
      have ih := openD_go I now hnow ds ⟨C.epoch, C.next + 1, C.opens ++ [⟨C.epoch * 1048576 + C.next, d.kind, d.key, now⟩]⟩ (AS ++ [askV I d (C.epoch * 1048576 + C.next)]) (open_right hR h0) hk' hn (by simp only; omega)
      simp only [fresh_snoc _ _ _ _ _ hd, List.append_assoc, List.cons_append, List.nil_append] at ih
      rw [e, ef]
      simp only [newC, newA, List.length_cons]
      have en : C.next + (((fresh C.opens ds).length + 1 : Nat) : Int) = C.next + 1 + ((fresh C.opens ds).length : Int) := by omega
      rw [en]
      exact ih
theorem askV_kind (I : List IntentV) (d : DutyV) (id : Int) : (askV I d id).kind = d.kind ∧ (askV I d id).call = id ∧ (askV I d id).a = d.key := by
  unfold askV
  split
  · rename_i h
    split <;> simp [h]
  · simp
theorem askedK_ne (p : Int) : askedB p = true → askedK p ≠ 1 ∧ kindB (askedK p) = true := by
  intro h
  unfold askedB at h
  simp only [decide_eq_true_eq] at h
  rcases h with rfl | rfl | rfl | rfl <;> simp [askedK, kindB]
theorem rise_ne {hi : Int} {l : List Int} (h : RiseP hi l) : l.Pairwise (· ≠ ·) := h.2.imp (fun h => by omega)
theorem duties_nodup {seq : Int} {I : List IntentV} {K : List KeptV} (h : RF seq I K) : (dutiesL I K).Nodup := by
  obtain ⟨_, h1, h2, _⟩ := h
  unfold dutiesL
  rw [List.nodup_append]
  refine ⟨?_, ?_, ?_⟩
  · unfold List.Nodup
    rw [List.pairwise_map]
    have := rise_ne h1
    rw [List.pairwise_map] at this
    refine this.imp (fun {a b} hne he => hne ?_)
    simp only [intentD, DutyV.mk.injEq] at he
    exact he.2
  · unfold List.Nodup
    rw [List.pairwise_flatMap]
    refine ⟨fun x _ => by unfold keptD; split <;> simp, ?_⟩
    have := rise_ne h2
    rw [List.pairwise_map] at this
    refine this.imp (fun {a b} hne x hx y hy he => hne ?_)
    unfold keptD at hx hy
    split at hx <;> split at hy <;> simp at hx hy
    subst hx
    subst hy
    simp only [DutyV.mk.injEq] at he
    exact he.2
  · intro a ha b hb he
    obtain ⟨x, _, rfl⟩ := List.mem_map.1 ha
    obtain ⟨y, _, hy⟩ := List.mem_flatMap.1 hb
    unfold keptD at hy
    split at hy
    · rename_i hp
      simp at hy
      subst hy
      simp only [intentD, DutyV.mk.injEq] at he
      exact (askedK_ne _ hp).1 he.1.symm
    · cases hy
theorem duties_fit {seq : Int} {I : List IntentV} {K : List KeptV} (h : RF seq I K) : ∀ d ∈ dutiesL I K, kindB d.kind = true ∧ numB d.key = true := by
  obtain ⟨h0, h1, h2, _⟩ := h
  intro d hd
  rcases List.mem_append.1 hd with hd | hd
  · obtain ⟨x, hx, rfl⟩ := List.mem_map.1 hd
    have := h1.1 _ (List.mem_map_of_mem hx)
    exact ⟨by simp [intentD, kindB], (by simp only [numB, decide_eq_true_eq]; omega : numB x.token = true)⟩
  · obtain ⟨y, hm, hy⟩ := List.mem_flatMap.1 hd
    unfold keptD at hy
    split at hy
    · rename_i hp
      simp at hy
      subst hy
      have := h2.1 _ (List.mem_map_of_mem hm)
      exact ⟨(askedK_ne _ hp).2, by simp only [numB, decide_eq_true_eq]; omega⟩
    · cases hy

/-- What DutyTokens looks for in the asks of a brain. -/
structure TokF (I : List IntentV) (A : List AskV) : Prop where
  launch : ∀ (i : Nat) (x : IntentV), I[i]? = some x → ∃ a : AskV, A[i]? = some a ∧ a.kind = 1 ∧ a.a = x.token ∧ a.b = x.version ∧ a.c = x.zone ∧ a.d = if x.warm then 1 else 0
  rest : ∀ (i : Nat) (a : AskV), A[i]? = some a → I.length ≤ i → a.kind ≠ 1
  len : I.length ≤ A.length
theorem find_own {I : List IntentV} (h : (I.map IntentV.token).Pairwise (· < ·)) {i : Nat} {x : IntentV} (hx : I[i]? = some x) : I.find? (fun y => y.token == x.token) = some x := by
  induction I generalizing i with
  | nil => simp at hx
  | cons y l ih =>
    simp only [List.map_cons, List.pairwise_cons] at h
    cases i with
    | zero => simp at hx; subst hx; simp
    | succ i =>
      simp only [List.getElem?_cons_succ] at hx
      have hm := h.1 _ (List.mem_map_of_mem (mem_get hx))
      have hne : (y.token == x.token) = false := by apply Bool.eq_false_iff.2; intro he; have := beq_iff_eq.1 he; omega
      rw [List.find?_cons, hne]
      exact ih h.2 hx
theorem hasB_nil (k y : Int) : hasB [] k y = false := rfl
theorem fresh_nil (l : List DutyV) : fresh [] l = l := by
  unfold fresh
  simp [hasB_nil]
theorem tokF_of {seq : Int} {I : List IntentV} {K : List KeptV} (h : RF seq I K) {now : Int} (hn : numB now = true) (hl : (dutiesL I K).length ≤ 1000) : TokF I (openD I now ⟨0, 1, []⟩ (dutiesL I K)).2 ∧ (openD I now ⟨0, 1, []⟩ (dutiesL I K)).2.length = (dutiesL I K).length := by
  have e := (openD_go I now hn (dutiesL I K) ⟨0, 1, []⟩ [] (by decide) (duties_fit h) (duties_nodup h) (by simp only; omega)).1
  have e2 : (openD I now ⟨0, 1, []⟩ (dutiesL I K)).2 = newA I 0 1 (dutiesL I K) := by
    unfold openD
    rw [e]
    simp [fresh_nil]
  rw [e2]
  refine ⟨⟨?_, ?_, ?_⟩, newA_len _ _ _ _⟩
  · intro i x hx
    have hlt := lt_get hx
    have hd : (dutiesL I K)[i]? = some (intentD x) := by
      unfold dutiesL
      rw [List.getElem?_append_left (by simpa using hlt), List.getElem?_map, hx]
      rfl
    refine ⟨askV I (intentD x) (0 * 1048576 + (1 + i)), by rw [newA_get, hd]; rfl, ?_⟩
    unfold askV
    simp [intentD, find_own h.2.1.2 hx]
  · intro i a ha hi
    rw [newA_get] at ha
    obtain ⟨d, hd, rfl⟩ := Option.map_eq_some_iff.1 ha
    rw [(askV_kind _ _ _).1]
    unfold dutiesL at hd
    rw [List.getElem?_append_right (by simpa using hi)] at hd
    obtain ⟨y, _, hy⟩ := List.mem_flatMap.1 (mem_get hd)
    unfold keptD at hy
    split at hy
    · rename_i hp
      simp at hy
      subst hy
      exact (askedK_ne _ hp).1
    · cases hy
  · rw [newA_len]
    unfold dutiesL
    simp

theorem goR_ids' {hi : Int} : ∀ (l : List CallV) (last : Int) (seen : List (Int × Int)), goR hi last seen l = true → l.Pairwise fun a b => a.id < b.id
  | [], _, _, _ => List.Pairwise.nil
  | y :: ys, last, seen, h => by
    obtain ⟨_, h'⟩ := goR_cons.1 h
    exact List.Pairwise.cons (fun x hx => (goR_nums ys y.id _ h' x hx).2.2.2) (goR_ids' ys y.id _ h')
theorem goR_new' {hi : Int} : ∀ (l : List CallV) (last : Int) (seen : List (Int × Int)), goR hi last seen l = true → ∀ x ∈ l, (x.kind, x.key) ∉ seen
  | [], _, _, _, _, hx => by simp at hx
  | y :: ys, last, seen, h, x, hx => by
    obtain ⟨⟨_, _, _, _, _, g⟩, h'⟩ := goR_cons.1 h
    rcases List.mem_cons.1 hx with rfl | hx
    · exact g
    · exact fun hm => goR_new' ys y.id _ h' x hx (List.mem_append_left _ hm)
theorem goR_keys' {hi : Int} : ∀ (l : List CallV) (last : Int) (seen : List (Int × Int)), goR hi last seen l = true → l.Pairwise fun a b => ¬ (b.kind = a.kind ∧ b.key = a.key)
  | [], _, _, _ => List.Pairwise.nil
  | y :: ys, last, seen, h => by
    obtain ⟨_, h'⟩ := goR_cons.1 h
    refine List.Pairwise.cons (fun x hx he => ?_) (goR_keys' ys y.id _ h')
    exact goR_new' ys y.id _ h' x hx (by simp [he.1, he.2])
theorem find_id {l : List CallV} (h : l.Pairwise fun a b => a.id < b.id) {x : CallV} (hx : x ∈ l) : l.find? (fun y => y.id == x.id) = some x := by
  induction l with
  | nil => cases hx
  | cons y l ih =>
    rw [List.pairwise_cons] at h
    rcases List.mem_cons.1 hx with rfl | hx
    · simp
    · have hm := h.1 x hx
      have hne : (y.id == x.id) = false := by apply Bool.eq_false_iff.2; intro he; have := beq_iff_eq.1 he; omega
      rw [List.find?_cons, hne]
      exact ih h.2 hx
/-- How many calls of a list are a duty's. -/
def manyC (l : List CallV) (d : DutyV) : Nat := l.countP fun x => x.kind == d.kind && x.key == d.key
theorem many_one {l : List CallV} (h : l.Pairwise fun a b => ¬ (b.kind = a.kind ∧ b.key = a.key)) {d : DutyV} (hx : hasB l d.kind d.key = true) : manyC l d = 1 := by
  induction l with
  | nil => cases hx
  | cons y l ih =>
    rw [List.pairwise_cons] at h
    unfold manyC
    rw [List.countP_cons]
    by_cases hy : (y.kind == d.kind && y.key == d.key) = true
    · rw [if_pos hy]
      have : l.countP (fun x => x.kind == d.kind && x.key == d.key) = 0 := by
        rw [List.countP_eq_zero]
        intro z hz he
        simp only [Bool.and_eq_true, beq_iff_eq] at he hy
        exact h.1 z hz ⟨by rw [he.1, hy.1], by rw [he.2, hy.2]⟩
      rw [this]
    · rw [if_neg hy, Nat.add_zero]
      refine ih h.2 ?_
      unfold hasB at hx ⊢
      simp only [List.any_cons, Bool.or_eq_true] at hx
      rcases hx with hx | hx
      · exact absurd hx hy
      · exact hx
theorem many_take {l : List CallV} {d : DutyV} {k : Nat} {x : CallV} (hx : l[k]? = some x) : manyC (l.take (k + 1)) d = manyC (l.take k) d + if (x.kind == d.kind && x.key == d.key) = true then 1 else 0 := by
  unfold manyC
  rw [take_snoc l k x hx, List.countP_append]
  simp [List.countP_cons]

/-- What DutyOnce looks for. -/
structure OnceF (I : List IntentV) (K : List KeptV) (now : Int) (C : CallsV) (T : CallsV × List AskV) : Prop where
  right : rightB T.1 = true
  again : openD I now T.1 (dutiesL I K) = (T.1, [])
  len : T.1.opens.length = C.opens.length + T.2.length
  few : T.2.length ≤ (dutiesL I K).length
  one : ∀ d ∈ dutiesL I K, manyC T.1.opens d = 1
  asks : ∀ (i : Nat) (a : AskV), T.2[i]? = some a → ∃ x : CallV, findC T.1.opens a.call = (x, true) ∧ x.kind = a.kind ∧ x.key = a.a ∧ x.sent = now ∧ hasB C.opens x.kind x.key = false ∧ (⟨a.kind, a.a⟩ : DutyV) ∈ dutiesL I K
theorem onceF_of {seq : Int} {I : List IntentV} {K : List KeptV} (h : RF seq I K) {now : Int} (hn : numB now = true) {C : CallsV} (hC : rightB C = true) (hl : C.next + 2 * (dutiesL I K).length ≤ 1048576) : OnceF I K now C (openD I now C (dutiesL I K)) := by
  obtain ⟨e, hr⟩ := openD_go I now hn (dutiesL I K) C [] hC (duties_fit h) (duties_nodup h) (by omega)
  obtain ⟨M, hM⟩ : ∃ M, fresh C.opens (dutiesL I K) = M := ⟨_, rfl⟩
  rw [hM] at e hr
  have hml : M.length ≤ (dutiesL I K).length := by rw [← hM]; exact List.length_filter_le _ _
  have eo : openD I now C (dutiesL I K) = (⟨C.epoch, C.next + M.length, C.opens ++ newC C.epoch now C.next M⟩, newA I C.epoch C.next M) := by unfold openD; rw [e]; rfl
  have hsub : ∀ d ∈ M, d ∈ dutiesL I K ∧ hasB C.opens d.kind d.key = false := by
    intro d hd
    rw [← hM] at hd
    obtain ⟨h1, h2⟩ := List.mem_filter.1 hd
    exact ⟨h1, by simpa using h2⟩
  have hgo := (rightB_iff.1 hr).2
  have hhas : ∀ d ∈ dutiesL I K, hasB (C.opens ++ newC C.epoch now C.next M) d.kind d.key = true := by
    intro d hd
    unfold hasB
    rw [List.any_append]
    cases hh : hasB C.opens d.kind d.key with
    | true => unfold hasB at hh; rw [hh]; rfl
    | false =>
      have hm : d ∈ M := by rw [← hM]; exact List.mem_filter.2 ⟨hd, by simp [hh]⟩
      obtain ⟨i, hi⟩ := List.getElem?_of_mem hm
      have hg := newC_get C.epoch now M C.next i
      rw [hi] at hg
      rw [Bool.or_eq_true]
      refine .inr (List.any_eq_true.2 ⟨_, mem_get hg, by simp⟩)
  rw [eo]
  refine ⟨hr, ?_, ?_, ?_, ?_, ?_⟩
  · have hf : fresh (C.opens ++ newC C.epoch now C.next M) (dutiesL I K) = [] := by
      unfold fresh
      rw [List.filter_eq_nil_iff]
      intro d hd
      simp [hhas d hd]
    have e2 := (openD_go I now hn (dutiesL I K) ⟨C.epoch, C.next + M.length, C.opens ++ newC C.epoch now C.next M⟩ [] hr (duties_fit h) (duties_nodup h) (by simp only; omega)).1
    unfold openD
    rw [e2]
    simp only [hf, newC, newA, List.length_nil, List.append_nil]
    simp
  · simp [newC_len, newA_len]
  · simpa [newA_len] using hml
  · intro d hd
    exact many_one (goR_keys' _ _ _ hgo) (hhas d hd)
  · intro i a ha
    rw [newA_get] at ha
    obtain ⟨d, hd, rfl⟩ := Option.map_eq_some_iff.1 ha
    obtain ⟨k1, k2, k3⟩ := askV_kind I d (C.epoch * 1048576 + (C.next + i))
    have hg := newC_get C.epoch now M C.next i
    rw [hd] at hg
    obtain ⟨hs1, hs2⟩ := hsub d (mem_get hd)
    refine ⟨⟨C.epoch * 1048576 + (C.next + i), d.kind, d.key, now⟩, ?_, by rw [k1], by rw [k3], rfl, hs2, ?_⟩
    · have hx := find_id (goR_ids' _ _ _ hgo) (List.mem_append_right C.opens (mem_get hg))
      unfold findC
      rw [k2]
      simp only at hx
      rw [hx]
    · rw [k1, k3]
      exact hs1
end Go.Proofs.YtljmhmdpihpafaaDoor
