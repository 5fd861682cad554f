import Derived.Test.YthhgpiolcnojfaaGreatDoorCfm
import Derived.Test.YthhgpiolcnojfaaGreatDoorWd
/- Calls in memory. What the document says of calls, in Lean. -/
namespace Go.Proofs.YthhgpiolcnojfaaGreatDoor
open Go.RowKit Go.Shelf

structure CallV where
 id : Int
 kind : Int
 key : Int
 sent : Int

instance : DecidableEq CallV := fun a b =>
 decidable_of_iff (a.id = b.id ∧ a.kind = b.kind ∧ a.key = b.key ∧ a.sent = b.sent)
  ⟨fun h => by cases a; cases b; simp_all, fun h => by subst h; exact ⟨rfl, rfl, rfl, rfl⟩⟩

def encC (x : CallV) : List Value := [.int .i64 x.id, .int .u8 x.kind, .int .i64 x.key, .int .i64 x.sent]
def encS (x : CallV) : Value := .agg #[.int .i64 x.id, .int .u8 x.kind, .int .i64 x.key, .int .i64 x.sent]

structure CallsV where
 epoch : Int
 next : Int
 opens : List CallV

def calls (epoch next : Int) (s : Value) : Value := .agg #[.int .i64 epoch, .int .i64 next, s]

abbrev Row12 := RowOf 4 encC

def CallV.wf (x : CallV) : Prop := in64 x.id ∧ in8 x.kind ∧ in64 x.key ∧ in64 x.sent
def CallsV.wf (c : CallsV) : Prop := in64 c.epoch ∧ in64 c.next ∧ ∀ x ∈ c.opens, x.wf

theorem row4 {w : World} {b off : Nat} {l : List CallV} (h : RowAt 4 encC w b off l) {i : Nat} {x : CallV} (hi : l[i]? = some x) :
  w.cell? ⟨b, off + i * 4, none⟩ = some (.int .i64 x.id) ∧ w.cell? ⟨b, off + i * 4 + 1, none⟩ = some (.int .u8 x.kind) ∧
  w.cell? ⟨b, off + i * 4 + 2, none⟩ = some (.int .i64 x.key) ∧ w.cell? ⟨b, off + i * 4 + 3, none⟩ = some (.int .i64 x.sent) :=
 ⟨h i x hi 0 _ rfl, h i x hi 1 _ rfl, h i x hi 2 _ rfl, h i x hi 3 _ rfl⟩

def hasB (l : List CallV) (kd ky : Int) : Bool := l.any fun x => x.kind == kd && x.key == ky

theorem hasB_snoc (l : List CallV) (x : CallV) (kd ky : Int) : hasB (l ++ [x]) kd ky = (hasB l kd ky || (x.kind == kd && x.key == ky)) := by
 simp [hasB]
theorem hasB_at {l : List CallV} {kd ky : Int} {k : Nat} {x : CallV} (hx : l[k]? = some x) (h1 : x.kind = kd) (h2 : x.key = ky) : hasB l kd ky = true :=
 List.any_eq_true.2 ⟨x, mem_get hx, by simp [h1, h2]⟩
end Go.Proofs.YthhgpiolcnojfaaGreatDoor

/- A part of the proofs about open calls: contracts of functions, or plain facts that they want. -/
namespace Go.Proofs.YthhgpiolcnojfaaGreatDoor
open Go.RowKit Go.Shelf

def entry (n : Int) : PanicEntry := { v := .iface 97 (.int .i64 n), recovered := false }
def errno (n : Int) : List PanicEntry := [entry n]

/-- How a call that may leave by an error ends: it is so, or it has left by the error. -/
def EndsBy (b : Bool) (n : Int) (e : Ending) : Prop := e = if b then .returned (.tuple #[]) else .panicked (errno n)

set_option maxHeartbeats 400000 in
theorem must_yes (n : Int) (w : World) :
  Calls Tryz.prog 116 #[.bool true, .int .i64 n] w fun e w' => e = .returned (.tuple #[]) ∧ w = w' := by
 go_enter Tryz.func116, Tryz.ntmps116
 go_wp2
 go_end0
 exact ⟨rfl, rfl⟩

set_option maxHeartbeats 400000 in
theorem must_no (n : Int) (w : World) :
  Calls Tryz.prog 116 #[.bool false, .int .i64 n] w fun e w' => e = .panicked (errno n) ∧ w = w' := by
 go_enter Tryz.func116, Tryz.ntmps116
 go_wp2
 exact ⟨rfl, rfl, rfl⟩

set_option maxHeartbeats 400000 in
theorem kind_yes (k : Int) (w : World) (h1 : 1 ≤ k) (h2 : k < 8) :
  Calls Tryz.prog 117 #[.int .u8 k] w fun e w' => e = .returned (.tuple #[]) ∧ w = w' := by
 have d1 : decide (1 ≤ k) = true := by simpa using h1
 have d2 : decide (k < 8) = true := by simpa using h2
 go_enter Tryz.func117, Tryz.ntmps117
 go_wp2_with (go_at_call 116; refine (must_yes _ _).mono ?_; rintro e w' ⟨rfl, rfl⟩)
 go_end0
 exact ⟨rfl, rfl⟩

set_option maxHeartbeats 400000 in
theorem kind_no (k : Int) (w : World) (h : k < 1 ∨ 8 ≤ k) :
  Calls Tryz.prog 117 #[.int .u8 k] w fun e w' => e = .panicked (errno 2) ∧ w = w' := by
 by_cases h1 : 1 ≤ k
 ·have d1 : decide (1 ≤ k) = true := by simpa using h1
  have d2 : decide (k < 8) = false := by simp; omega
  go_enter Tryz.func117, Tryz.ntmps117
  go_wp2_with (go_at_call 116; refine (must_no _ _).mono ?_; rintro e w' ⟨rfl, rfl⟩)
  exact ⟨rfl, rfl, rfl⟩
 ·have d1 : decide (1 ≤ k) = false := by simp; omega
  go_enter Tryz.func117, Tryz.ntmps117
  go_wp2_with (go_at_call 116; refine (must_no _ _).mono ?_; rintro e w' ⟨rfl, rfl⟩)
  exact ⟨rfl, rfl, rfl⟩

def kindB (k : Int) : Bool := decide (1 ≤ k ∧ k < 8)
def numB (n : Int) : Bool := decide (0 ≤ n ∧ n ≤ 1099511627776)
theorem kindB_yes {k : Int} (h : kindB k = true) : 1 ≤ k ∧ k < 8 := by simpa [kindB] using h
theorem kindB_no {k : Int} (h : kindB k = false) : k < 1 ∨ 8 ≤ k := by simp [kindB] at h; omega
theorem numB_yes {n : Int} (h : numB n = true) : 0 ≤ n ∧ n ≤ 1099511627776 := by simpa [numB] using h

set_option maxHeartbeats 400000 in
theorem numbers_row (b off cap : Nat) (l : List Int) (w : World) (hm : l.length ≤ 1000000) (hc : ∀ i x, l[i]? = some x → w.cell? ⟨b, off + i, none⟩ = some (.int .i64 x)) :
  Calls Tryz.prog 118 #[.slice (some ⟨b, off, none⟩) l.length cap] w fun e w' => EndsBy (l.all numB) 2 e ∧ w = w' := by
 have HC := hid hc
 clear hc
 go_enter Tryz.func118, Tryz.ntmps118
 go_wp2
 go_loop [6] (fun i => ∃ k : Nat, k ≤ l.length ∧ i = .int .i64 k ∧ (l.take k).all numB = true) (fun i => l.length - (intOf i).toNat)
 case atStart => exact ⟨0, Nat.zero_le _, rfl, rfl⟩
 case round =>
  obtain ⟨k, hk, rfl, hall⟩ := hrel
  have HA := hid hall
  clear hall
  by_cases hlt : k < l.length
  ·obtain ⟨x, hx⟩ := get_lt hlt
   have hcell := HC.out k x hx
   have HS := hid (take_snoc l k x hx)
   have HX := hid hx
   clear hx
   by_cases h1 : 0 ≤ x
   ·have d1 : decide (0 ≤ x) = true := by simpa using h1
    by_cases h2 : x ≤ 1099511627776
    ·have d2 : decide (x ≤ 1099511627776) = true := by simpa using h2
     go_wp2_with (go_at_call 116; refine (must_yes _ _).mono ?_; rintro e w' ⟨rfl, rfl⟩)
     go_round
     case rel => exact ⟨k + 1, by omega, by go_num, by rw [HS.out, List.all_append, HA.out]; simp [numB, h1, h2]⟩
     case measure => simp [intOf]; omega
    ·have d2 : decide (x ≤ 1099511627776) = false := by simpa using h2
     go_wp2_with (go_at_call 116; refine (must_no _ _).mono ?_; rintro e w' ⟨rfl, rfl⟩)
     refine ⟨rfl, ?_, rfl⟩
     have : l.all numB = false := by
      rw [List.all_eq_false]; exact ⟨x, mem_get HX.out, by simp [numB, h2]⟩
     rw [this]; rfl
   ·have d1 : decide (0 ≤ x) = false := by simpa using h1
    go_wp2_with (go_at_call 116; refine (must_no _ _).mono ?_; rintro e w' ⟨rfl, rfl⟩)
    refine ⟨rfl, ?_, rfl⟩
    have : l.all numB = false := by
     rw [List.all_eq_false]; exact ⟨x, mem_get HX.out, by simp [numB]; omega⟩
    rw [this]; rfl
  ·obtain rfl : k = l.length := by omega
   go_wp2
   go_end0
   refine ⟨?_, rfl⟩
   have := HA.out
   rw [List.take_length] at this
   rw [this]; rfl

theorem numbers2 (b : Nat) (x y : Int) (w : World) (h0 : w.cell? ⟨b, 0, none⟩ = some (.int .i64 x)) (h1 : w.cell? ⟨b, 1, none⟩ = some (.int .i64 y)) :
  Calls Tryz.prog 118 #[.slice (some ⟨b, 0, none⟩) 2 2] w fun e w' => EndsBy (numB x && numB y) 2 e ∧ w = w' := by
 have h := numbers_row b 0 2 [x, y] w (by simp) (fun i z hi => by
  match i, hi with
  | 0, hi => simp at hi; subst hi; simpa using h0
  | 1, hi => simp at hi; subst hi; simpa using h1
  | i + 2, hi => simp at hi)
 refine Calls.mono h ?_
 rintro e w' ⟨he, hw⟩
 exact ⟨by simpa [List.all] using he, hw⟩
theorem numbers2_yes (b : Nat) (x y : Int) (w : World) (h0 : w.cell? ⟨b, 0, none⟩ = some (.int .i64 x)) (h1 : w.cell? ⟨b, 1, none⟩ = some (.int .i64 y)) (hx : numB x = true) (hy : numB y = true) :
  Calls Tryz.prog 118 #[.slice (some ⟨b, 0, none⟩) 2 2] w fun e w' => e = .returned (.tuple #[]) ∧ w = w' :=
 (numbers2 b x y w h0 h1).mono fun e w' ⟨he, hw⟩ => ⟨by simpa [EndsBy, hx, hy] using he, hw⟩
theorem numbers2_no (b : Nat) (x y : Int) (w : World) (h0 : w.cell? ⟨b, 0, none⟩ = some (.int .i64 x)) (h1 : w.cell? ⟨b, 1, none⟩ = some (.int .i64 y)) (hx : (numB x && numB y) = false) :
  Calls Tryz.prog 118 #[.slice (some ⟨b, 0, none⟩) 2 2] w fun e w' => e = .panicked (errno 2) ∧ w = w' :=
 (numbers2 b x y w h0 h1).mono fun e w' ⟨he, hw⟩ => ⟨by simpa [EndsBy, hx] using he, hw⟩

theorem told1_panicking (p : Addr) (x n : Int) (older : List PanicEntry) (w : World) (hc : w.cell? p = some (.int .i64 x)) (hz : w.frozen? p = false) :
  CallsD Tryz.prog 115 #[.pointer (some p)] (.panicking (entry n :: older)) w fun e u' w' =>
   e = .returned (.tuple #[]) ∧ u' = .panicking ({ entry n with recovered := true } :: older) ∧ w' = w.setCell p (.int .i64 n) := by
 refine callsD_of_wpS Tryz.func115 rfl fun c₀ cs hu => ?_
 unfold entry at hu
 have hta : ∀ w, (Instr.typeAssert (.iface 97 (.int .i64 n)) 20 97 true).run Tryz.prog w = .ok (.tuple #[.int .i64 n, .bool true]) w := fun w => by kernel_rfl
 apply wpS_seq
 apply wpS_region
 simp [wpOpsS, go_sem, recoverD, hu, Tryz.ntmps115, Exit.thenS, hta]
 apply wpS_seq
 apply wpS_region
 simp [wpOpsS, go_sem, Exit.thenS]
 refine wpS_cond (t := true) (by simp [Act.eval, Array.replicate]) ?_
 simp only [if_true]
 apply wpS_region
 simp [wpOpsS, go_sem, hc, hz, bodyPostS, results, Tryz.results115, entry]

theorem told1_idle (p : Addr) (w : World) :
  CallsD Tryz.prog 115 #[.pointer (some p)] .returning w fun e u' w' => e = .returned (.tuple #[]) ∧ u' = .returning ∧ w' = w := by
 refine callsD_of_wpS Tryz.func115 rfl fun c₀ cs hu => ?_
 have hta : ∀ w, (Instr.typeAssert .nilIface 20 97 true).run Tryz.prog w = .ok (.tuple #[.int .i64 0, .bool false]) w := fun w => by kernel_rfl
 apply wpS_seq
 apply wpS_region
 simp [wpOpsS, go_sem, recoverD, hu, Tryz.ntmps115, Exit.thenS, hta]
 apply wpS_seq
 apply wpS_region
 simp [wpOpsS, go_sem, Exit.thenS]
 refine wpS_cond (t := false) (by simp [Act.eval, Array.replicate]) ?_
 simp only [Bool.false_eq_true, if_false]
 refine wpS_of_wp (wp_skip ?_)
 cases c₀
 simp_all [bodyPostS, results, Tryz.results115]

/-- The world in which told calls what it was handed. -/
def toldW (w : World) : World := w.alloc (.cells #[.int .i64 0] 97)

set_option maxHeartbeats 400000 in
theorem told_any (g : Nat) (cap : Array Value) (b : Bool) (n : Int) (R : World → Prop) (w : World)
  (he : ∀ args w, (callFunc g args).run Tryz.prog w = .ok (.enter g args) w)
  (hR : ∀ w1, R w1 → w1.cell? ⟨w.heap.size, 0, none⟩ = some (.int .i64 0) ∧ w1.frozen? ⟨w.heap.size, 0, none⟩ = false)
  (hc : Calls Tryz.prog g cap (toldW w) fun e w' => EndsBy b n e ∧ R w') :
  Calls Tryz.prog 101 #[.func (.func g) #[] cap] w fun e w' => e = .returned (.int .i64 (if b then 0 else n)) ∧ ∃ w1, R w1 ∧ w' = w1.setCell ⟨w.heap.size, 0, none⟩ (.int .i64 (if b then 0 else n)) := by
 have hmf := mkfunc
 have HR := hid hR
 have HC := hid hc
 clear hR hc
 go_enter_defers Tryz.func101, Tryz.ntmps101
 go_wp2_with fail
 refine HC.out.mono ?_
 rintro e w1 ⟨he1, h1⟩
 obtain ⟨c1, f1⟩ := HR.out w1 h1
 unfold EndsBy at he1
 cases b with
 | true =>
  obtain rfl := he1
  go_wp2
  refine leaves_cons (f := 115) (args := #[.pointer (some ⟨w.heap.size, 0, none⟩)]) (by simp) (by simp [go_sem]) ?_
  refine (told1_idle _ _).mono ?_
  rintro e u' w'' ⟨rfl, rfl, rfl⟩
  simp [Leaves, settle, results, Tryz.results101, go_sem, c1]
  exact ⟨_, h1, rfl⟩
 | false =>
  obtain rfl := he1
  go_wp2
  refine leaves_cons (f := 115) (args := #[.pointer (some ⟨w.heap.size, 0, none⟩)]) (by simp) (by simp [go_sem]) ?_
  refine (told1_panicking _ 0 n [] w1 c1 f1).mono ?_
  rintro e u' w'' ⟨rfl, rfl, rfl⟩
  simp [Leaves, settle, results, Tryz.results101, go_sem, c1]
  exact ⟨_, h1, rfl⟩
end Go.Proofs.YthhgpiolcnojfaaGreatDoor

/- A part of the proofs about open calls: contracts of functions, or plain facts that they want. -/
namespace Go.Proofs.YthhgpiolcnojfaaGreatDoor
open Go.RowKit Go.Shelf

theorem arr2_eqIn (n : Nat) (a b c d : Int) (w : World) : (Op.equalIn (n + 2) 184 (.agg #[.int .i64 a, .int .i64 b]) (.agg #[.int .i64 c, .int .i64 d])).run Tryz.prog w = .ok (a == c && b == d) w := by
 have hu : Tryz.prog.underlying 184 = some (.array 2 3) := by kernel_rfl
 have hi : Tryz.prog.underlying 3 = some (.int .i64) := by kernel_rfl
 have hs : ∀ w, (sizeOf 3).run Tryz.prog w = .ok 1 w := fun w => by kernel_rfl
 have hp0 : ∀ w, (part 3 #[.int .i64 a, .int .i64 b] 0).run Tryz.prog w = .ok (.int .i64 a) w := fun w => by kernel_rfl
 have hp1 : ∀ w, (part 3 #[.int .i64 a, .int .i64 b] 1).run Tryz.prog w = .ok (.int .i64 b) w := fun w => by kernel_rfl
 have hq0 : ∀ w, (part 3 #[.int .i64 c, .int .i64 d] 0).run Tryz.prog w = .ok (.int .i64 c) w := fun w => by kernel_rfl
 have hq1 : ∀ w, (part 3 #[.int .i64 c, .int .i64 d] 1).run Tryz.prog w = .ok (.int .i64 d) w := fun w => by kernel_rfl
 rw [Op.equalIn]
 simp only [Sem.run_bind, run_underlying hu, Result.andThen_ok, hs, Std.Legacy.Range.forIn_eq_forIn_range', Std.Legacy.Range.size]
 simp [List.range', hp0, hp1, hq0, hq1, run_equalIn_int w n 3 .i64 .i64 _ _ hi]
 by_cases h1 : a = c <;> by_cases h2 : b = d <;> simp [h1, h2]

theorem arr2_eq (a b c d : Int) (w : World) : (Op.equal 184 (.agg #[.int .i64 a, .int .i64 b]) (.agg #[.int .i64 c, .int .i64 d])).run Tryz.prog w = .ok (a == c && b == d) w :=
 arr2_eqIn 9998 a b c d w

def encK (k : Int × Int) : Value := .agg #[.int .i64 k.1, .int .i64 k.2]

/-- A block is a map from pairs to bools that holds just these keys, each with true. -/
def SeenMap (w : World) (b : Nat) (ks : List (Int × Int)) : Prop :=
 ∃ es clock, w.heap[b]? = some (.map es clock) ∧ es.toList.map (·.key) = ks.map encK ∧ ∀ e ∈ es.toList, e.val = .bool true

theorem SeenMap.alloc {w : World} {b : Nat} {ks : List (Int × Int)} (h : SeenMap w b ks) (o : Obj) : SeenMap (w.alloc o) b ks := by
 obtain ⟨es, cl, hb, h⟩ := h
 exact ⟨es, cl, (Below.heap_alloc w o b (Array.getElem?_eq_some_iff.1 hb).1).trans hb, h⟩
theorem SeenMap.drew {w : World} {b : Nat} {ks : List (Int × Int)} (h : SeenMap w b ks) : SeenMap w.drew b ks := h

theorem asking (q : Int × Int) (w : World) : ∀ (es : List MapEntry) (ks : List (Int × Int)) (i : Nat), es.map (·.key) = ks.map encK → (∀ e ∈ es, e.val = .bool true) →
  ∃ r, (Instr.findAsking 184 (encK q) es i).run Tryz.prog w = .ok r w ∧ ((∃ j, r = some (j, .bool true)) ∧ q ∈ ks ∨ r = none ∧ q ∉ ks)
 | [], ks, i, hk, _ => by
  have : ks = [] := by cases ks <;> simp_all
  subst this
  exact ⟨none, by simp [Instr.findAsking], .inr ⟨rfl, by simp⟩⟩
 | e :: es, [], i, hk, _ => by simp at hk
 | e :: es, k :: ks, i, hk, hv => by
  simp only [List.map_cons, List.cons.injEq] at hk
  obtain ⟨r, hr, hs⟩ := asking q w es ks (i + 1) hk.2 (fun e he => hv e (List.mem_cons_of_mem _ he))
  have he := arr2_eq q.1 q.2 k.1 k.2 w
  by_cases h : q = k
  ·refine ⟨some (i, e.val), ?_, .inl ⟨⟨i, by rw [hv e (List.mem_cons_self ..)]⟩, by simp [h]⟩⟩
   subst h
   simp only [Instr.findAsking, Sem.run_bind, hk.1, encK, he]
   simp
  ·refine ⟨r, ?_, ?_⟩
   ·have : (q.1 == k.1 && q.2 == k.2) = false := by
     rw [Bool.and_eq_false_iff]
     by_cases h1 : q.1 = k.1
     ·right; simp; intro h2; exact h (Prod.ext h1 h2)
     ·left; simpa using h1
    simp only [Instr.findAsking, Sem.run_bind, hk.1, encK, he, this]
    simpa [encK] using hr
   ·rcases hs with ⟨hj, hm⟩ | ⟨hn, hm⟩
    ·exact .inl ⟨hj, List.mem_cons_of_mem _ hm⟩
    ·exact .inr ⟨hn, by simp [h, hm]⟩

theorem keyOk (em : Bool) (q : Int × Int) (w : World) : (Instr.checkKey em 10000 184 (encK q)).run Tryz.prog w = .ok () w := by
 have hu : Tryz.prog.underlying 184 = some (.array 2 3) := by kernel_rfl
 have hi : Tryz.prog.underlying 3 = some (.int .i64) := by kernel_rfl
 have hs : ∀ w, (sizeOf 3).run Tryz.prog w = .ok 1 w := fun w => by kernel_rfl
 have hp0 : ∀ w, (part 3 #[.int .i64 q.1, .int .i64 q.2] 0).run Tryz.prog w = .ok (.int .i64 q.1) w := fun w => by kernel_rfl
 have hp1 : ∀ w, (part 3 #[.int .i64 q.1, .int .i64 q.2] 1).run Tryz.prog w = .ok (.int .i64 q.2) w := fun w => by kernel_rfl
 have hck : ∀ (n : Nat) (x : Int) (w : World), (Instr.checkKey em (n + 1) 3 (.int .i64 x)).run Tryz.prog w = .ok () w := fun n x w => by
  rw [Instr.checkKey]
  simp only [Sem.run_bind, run_underlying hi, Result.andThen_ok]
  simp
 rw [show (10000 : Nat) = 9999 + 1 from rfl, Instr.checkKey]
 simp only [encK, Sem.run_bind, run_underlying hu, Result.andThen_ok, Std.Legacy.Range.forIn_eq_forIn_range', Std.Legacy.Range.size]
 simp [List.range', hs, hp0, hp1, hck 9998]

theorem findKey_run (q : Int × Int) (w : World) (es : List MapEntry) (ks : List (Int × Int)) (hk : es.map (·.key) = ks.map encK) (hv : ∀ e ∈ es, e.val = .bool true) :
  ∃ r, (Instr.findKey 184 (encK q) es).run Tryz.prog w = .ok r w ∧ ((∃ j, r = some (j, .bool true)) ∧ q ∈ ks ∨ r = none ∧ q ∉ ks) := by
 have hu : Tryz.prog.underlying 184 = some (.array 2 3) := by kernel_rfl
 obtain ⟨r, hr, hs⟩ := asking q w es ks 0 hk hv
 refine ⟨r, ?_, hs⟩
 cases es with
 | nil =>
  have : ks = [] := by cases ks <;> simp_all
  subst this
  rcases hs with ⟨_, h⟩ | ⟨rfl, _⟩
  ·cases h
  ·simp [Instr.findKey, Instr.findNow, run_underlying hu]
 | cons e es =>
  simp only [Instr.findKey, Sem.run_bind, run_underlying hu, Result.andThen_ok]
  simpa [Instr.findNow, Instr.sameNow] using hr

theorem lookup_run (q : Int × Int) (w : World) (b : Nat) (ks : List (Int × Int)) (h : SeenMap w b ks) :
  (Instr.lookup 181 (.map (some b)) (encK q) false).run Tryz.prog w = .ok (.bool (decide (q ∈ ks))) w := by
 have hm : Tryz.prog.underlying 181 = some (.map 184 4) := by kernel_rfl
 have hz : ∀ w, (zeroValue 4).run Tryz.prog w = .ok (.bool false) w := fun w => by kernel_rfl
 obtain ⟨es, clock, hb, hk, hv⟩ := h
 have hg : (getObj b).run Tryz.prog w = .ok (.map es clock) w := by simp [getObj, Sem.run, hb]
 obtain ⟨r, hr, hs⟩ := findKey_run q w es.toList ks hk hv
 simp only [Instr.lookup, Sem.run_bind, run_underlying hm, Result.andThen_ok, hg, keyOk]
 simp only [Sem.run_pure, Result.andThen_ok, hr]
 rcases hs with ⟨⟨j, rfl⟩, hq⟩ | ⟨rfl, hq⟩
 ·simp [hq]
 ·simp [hq, hz]

theorem update_run (q : Int × Int) (w : World) (b : Nat) (ks : List (Int × Int)) (h : SeenMap w b ks) (hq : q ∉ ks) :
  ∃ w', (Instr.mapUpdate 181 (.map (some b)) (encK q) (.bool true)).run Tryz.prog w = .ok () w' ∧ SeenMap w' b (ks ++ [q]) ∧ w.grownBy w' (some b) := by
 have hm : Tryz.prog.underlying 181 = some (.map 184 4) := by kernel_rfl
 obtain ⟨es, clock, hb, hk, hv⟩ := h
 have hg : (getObj b).run Tryz.prog w = .ok (.map es clock) w := by simp [getObj, Sem.run, hb]
 obtain ⟨r, hr, hs⟩ := findKey_run q w es.toList ks hk hv
 rcases hs with ⟨_, h⟩ | ⟨rfl, _⟩
 ·exact (hq h).elim
 have hlt : b < w.heap.size := (Array.getElem?_eq_some_iff.1 hb).1
 refine ⟨{ w with heap := w.heap.setIfInBounds b (.map (es.push { key := encK q, val := .bool true, born := clock }) (clock + 1)) }, ?_, ?_, ?_⟩
 ·simp only [Instr.mapUpdate, Sem.run_bind, run_underlying hm, Result.andThen_ok, hg, keyOk, hr]
  simp [setObj, Sem.run, hb]
 ·exact ⟨es.push { key := encK q, val := .bool true, born := clock }, clock + 1, by simp [hlt], by simp [hk], by
   intro e he
   simp only [Array.toList_push, List.mem_append, List.mem_singleton] at he
   rcases he with he | rfl
   ·exact hv e he
   ·rfl⟩
 ·exact ⟨rfl, rfl, rfl, by simp, fun i hi hne => by simp only [Array.getElem?_setIfInBounds]; rw [if_neg (fun e => hne (by rw [e]))]⟩
end Go.Proofs.YthhgpiolcnojfaaGreatDoor

/- A part of the proofs about open calls: contracts of functions, or plain facts that they want. -/
namespace Go.Proofs.YthhgpiolcnojfaaGreatDoor
open Go.RowKit Go.Shelf

def goR (hi : Int) : Int → List (Int × Int) → List CallV → Bool
 | _, _, [] => true
 | last, seen, x :: xs => kindB x.kind && numB x.key && numB x.sent && decide (last < x.id) && decide (x.id < hi) && decide ((x.kind, x.key) ∉ seen) && goR hi x.id (seen ++ [(x.kind, x.key)]) xs

def crightB (c : CallsV) : Bool :=
 decide (0 ≤ c.epoch) && decide (c.epoch ≤ 524288) && decide (1 ≤ c.next) && decide (c.next ≤ 1048576) && goR (c.epoch * 1048576 + c.next) (c.epoch * 1048576) [] c.opens

theorem drop_get {α : Type} {l : List α} {k : Nat} {x : α} (h : l[k]? = some x) : l.drop k = x :: l.drop (k + 1) := by
 obtain ⟨hk, rfl⟩ := List.getElem?_eq_some_iff.1 h
 exact List.drop_eq_getElem_cons hk

theorem goR_step {hi last : Int} {seen : List (Int × Int)} {x : CallV} {xs : List CallV} (h1 : kindB x.kind = true) (h2 : numB x.key = true) (h3 : numB x.sent = true) (h4 : last < x.id) (h5 : x.id < hi) (h6 : (x.kind, x.key) ∉ seen) :
  goR hi last seen (x :: xs) = goR hi x.id (seen ++ [(x.kind, x.key)]) xs := by
 rw [goR]; simp [h1, h2, h3, h4, h5, h6]
theorem goR_not {hi last : Int} {seen : List (Int × Int)} {x : CallV} {xs : List CallV} (h : ¬ (kindB x.kind = true ∧ (numB x.key && numB x.sent) = true ∧ last < x.id ∧ x.id < hi ∧ (x.kind, x.key) ∉ seen)) :
  goR hi last seen (x :: xs) = false := by
 rw [goR]
 simp only [Bool.and_eq_true] at h
 apply Bool.eq_false_iff.2
 simp only [Bool.and_eq_true, decide_eq_true_eq, ne_eq]
 rintro ⟨⟨⟨⟨⟨⟨a, b⟩, c⟩, d⟩, e⟩, f⟩, _⟩
 exact h ⟨a, ⟨b, c⟩, d, e, f⟩
theorem endsBy_no {b : Bool} {n : Int} (h : b = false) : EndsBy b n (.panicked (errno n)) := by subst h; rfl
theorem endsBy_yes {b : Bool} {n : Int} (h : b = true) : EndsBy b n (.returned (.tuple #[])) := by subst h; rfl

/-- The round's state in 'check'. -/
structure ChkR (l : List CallV) (ep nx : Int) (B : Nat) (W : World) (m : Nat) (k : Nat) (last : Int) (seen : List (Int × Int)) (wr : World) : Prop where
 le : k ≤ l.length
 lo : 0 ≤ last
 hi : last ≤ 1099511627776
 map : SeenMap wr m seen
 same : goR (ep * 1048576 + nx) last seen (l.drop k) = goR (ep * 1048576 + nx) (ep * 1048576) [] l
 below : Below B W wr

set_option maxHeartbeats 400000 in
set_option maxRecDepth 100000 in
theorem check_in (ep nx : Int) (s : Value) (l : List CallV) (w : World) (hn : l.length ≤ 1000000) (hs : Row12 w s l)
  (h1 : 0 ≤ ep) (h2 : ep ≤ 524288) (h3 : 1 ≤ nx) (h4 : nx ≤ 1048576) :
  Calls Tryz.prog 103 #[calls ep nx s] w fun e w' => EndsBy (goR (ep * 1048576 + nx) (ep * 1048576) [] l) 2 e ∧ Below w.heap.size w w' := by
 unfold calls
 obtain ⟨a, c, rfl, hl1, hl2, hl3, hop⟩ := hs.open
 have HOP := hid hop
 clear hop hs
 have hmm := @run_makeMap Tryz.prog
 have d1 : decide (0 ≤ ep) = true := by simpa using h1
 have d2 : decide (ep ≤ 524288) = true := by simpa using h2
 have d3 : decide (1 ≤ nx) = true := by simpa using h3
 have d4 : decide (nx ≤ 1048576) = true := by simpa using h4
 go_enter Tryz.func103, Tryz.ntmps103
 go_wp2_with (go_at_call 116; refine (must_yes _ _).mono ?_; rintro e w' ⟨rfl, rfl⟩)
 have hW0 : ∃ W0 : World, W0 = w.alloc (.cells #[.int .i64 ep, .int .i64 nx, .slice a l.length c] 33) := ⟨_, rfl⟩
 obtain ⟨W0, hW0⟩ := hW0
 have HW0 := hid hW0
 go_loopw [2, 33] (fun la i wr => ∃ (k : Nat) (last : Int) (seen : List (Int × Int)), i = .int .i64 k ∧ la = .int .i64 last ∧ ChkR l ep nx (w.heap.size + 1) W0 (w.heap.size + 1) k last seen wr) (fun _ i _ => l.length - (intOf i).toNat)
 case atStart =>
  refine ⟨0, ep * 1048576, [], rfl, rfl, ⟨Nat.zero_le _, by omega, by omega, ?_, rfl, ?_⟩⟩
  ·exact ⟨#[], 0, heap_new2 _ _ _, rfl, by simp⟩
  ·rw [HW0.out]; exact (Below.refl _ _).alloc (by simp) _
 case round =>
  obtain ⟨k, last, seen, rfl, rfl, hR⟩ := hrel
  have hk := hR.le
  have hlo := hR.lo
  have hhi := hR.hi
  have HM := hid hR.map
  have HSm := hid hR.same
  have hB := hR.below
  obtain ⟨hc, hf⟩ := bcell hB
  have hsz := hB.size
  clear hR
  subst hW0
  simp at hsz
  by_cases hlt : k < l.length
  ·obtain ⟨b, off, rfl, hb, hrow⟩ := HOP.out (by omega)
   obtain ⟨x, hx⟩ := get_lt hlt
   obtain ⟨g0, g1, g2, g3⟩ := row4 hrow hx
   have HD := hid (drop_get hx)
   clear hx
   have z0 : w.heap.size < wr.heap.size := by omega
   have z1 : w.heap.size < wr.heap.size + 1 := by omega
   have z2 : w.heap.size < wr.heap.size + 1 + 1 := by omega
   have hB0 : Below w.heap.size w wr := ((Below.refl _ _).alloc (Nat.le_refl _) _).trans (hB.mono (by omega))
   by_cases e1 : kindB x.kind = true
   ·obtain ⟨e1a, e1b⟩ := kindB_yes e1
    have E1 := hid e1
    clear e1
    by_cases e2 : (numB x.key && numB x.sent) = true
    ·have HE := hid (Bool.and_eq_true_iff.1 e2)
     obtain ⟨k1, k2⟩ := numB_yes HE.out.1
     clear e2
     by_cases e3 : last < x.id
     ·have f1 : decide (last < x.id) = true := by simpa using e3
      by_cases e4 : x.id < ep * 1048576 + nx
      ·have f2 : decide (x.id < ep * 1048576 + nx) = true := by simpa using e4
       have hlook : ∀ o1 o2 o3, (Instr.lookup 181 (.map (some (w.heap.size + 1))) (.agg #[.int .i64 x.kind, .int .i64 x.key]) false).run Tryz.prog (((wr.alloc o1).alloc o2).alloc o3) = .ok (.bool (decide ((x.kind, x.key) ∈ seen))) (((wr.alloc o1).alloc o2).alloc o3) :=
        fun o1 o2 o3 => lookup_run (x.kind, x.key) (((wr.alloc o1).alloc o2).alloc o3) (w.heap.size + 1) seen (((HM.out.alloc o1).alloc o2).alloc o3)
       by_cases e5 : (x.kind, x.key) ∈ seen
       ·have E5 := hid e5
        rw [decide_eq_true e5] at hlook
        clear e5
        go_wp2_with (first | (go_at_call 117; refine (kind_yes _ _ e1a e1b).mono ?_; rintro e w' ⟨rfl, rfl⟩) | (go_at_call 118; refine (numbers2_yes _ x.key x.sent _ (by simp [go_sem]) (by simp [go_sem]) HE.out.1 HE.out.2).mono ?_; rintro e w' ⟨rfl, rfl⟩) | (go_at_call 116; refine (must_no _ _).mono ?_; rintro e w' ⟨rfl, rfl⟩))
        refine ⟨rfl, endsBy_no (by rw [← HSm.out, HD.out]; exact goR_not fun h => h.2.2.2.2 E5.out), ?_⟩
        exact (((hB0.alloc (by omega) _).alloc (by simp; omega) _).alloc (by simp; omega) _)
       ·rw [decide_eq_false e5] at hlook
        obtain ⟨w2, hrun, hmap2, hgrow⟩ := update_run (x.kind, x.key) ((((wr.alloc (.cells #[.int .i64 x.id, .int .u8 x.kind, .int .i64 x.key, .int .i64 x.sent] 40)).alloc (.cells #[.int .i64 x.key, .int .i64 x.sent] 3)).alloc (.cells #[.int .i64 x.kind, .int .i64 x.key] 184)).drew) (w.heap.size + 1) seen (((HM.out.alloc _).alloc _).alloc _).drew e5
        simp only [encK] at hrun
        have E5 := hid e5
        clear e5
        go_wp2_with (first | (go_at_call 117; refine (kind_yes _ _ e1a e1b).mono ?_; rintro e w' ⟨rfl, rfl⟩) | (go_at_call 118; refine (numbers2_yes _ x.key x.sent _ (by simp [go_sem]) (by simp [go_sem]) HE.out.1 HE.out.2).mono ?_; rintro e w' ⟨rfl, rfl⟩) | (go_at_call 116; refine (must_yes _ _).mono ?_; rintro e w' ⟨rfl, rfl⟩))
        go_region
        all_goals go_wp2
        go_roundw
        case rel =>
         refine ⟨k + 1, x.id, seen ++ [(x.kind, x.key)], by go_num, rfl, ⟨by omega, by omega, by omega, hmap2, ?_, ?_⟩⟩
         ·rw [← HSm.out, HD.out, goR_step E1.out HE.out.1 HE.out.2 e3 e4 E5.out]
         ·exact ((((hB.alloc (by omega) _).alloc (by simp; omega) _).alloc (by simp; omega) _).drew).grown hgrow (by simp; omega) (fun k e => by cases e; omega)
        case measure => simp [intOf]; omega
      ·have f2 : decide (x.id < ep * 1048576 + nx) = false := by simpa using e4
       go_wp2_with (first | (go_at_call 117; refine (kind_yes _ _ e1a e1b).mono ?_; rintro e w' ⟨rfl, rfl⟩) | (go_at_call 118; refine (numbers2_yes _ x.key x.sent _ (by simp [go_sem]) (by simp [go_sem]) HE.out.1 HE.out.2).mono ?_; rintro e w' ⟨rfl, rfl⟩) | (go_at_call 116; refine (must_no _ _).mono ?_; rintro e w' ⟨rfl, rfl⟩))
       refine ⟨rfl, endsBy_no (by rw [← HSm.out, HD.out]; exact goR_not fun h => by have := h.2.2.2.1; omega), ?_⟩
       exact (((hB0.alloc (by omega) _).alloc (by simp; omega) _).alloc (by simp; omega) _)
     ·have f1 : decide (last < x.id) = false := by simpa using e3
      go_wp2_with (first | (go_at_call 117; refine (kind_yes _ _ e1a e1b).mono ?_; rintro e w' ⟨rfl, rfl⟩) | (go_at_call 118; refine (numbers2_yes _ x.key x.sent _ (by simp [go_sem]) (by simp [go_sem]) HE.out.1 HE.out.2).mono ?_; rintro e w' ⟨rfl, rfl⟩) | (go_at_call 116; refine (must_no _ _).mono ?_; rintro e w' ⟨rfl, rfl⟩))
      refine ⟨rfl, endsBy_no (by rw [← HSm.out, HD.out]; exact goR_not fun h => by have := h.2.2.1; omega), ?_⟩
      exact (((hB0.alloc (by omega) _).alloc (by simp; omega) _).alloc (by simp; omega) _)
    ·have e2' : (numB x.key && numB x.sent) = false := by simpa using e2
     have E2 := hid e2
     have E2' := hid e2'
     clear e2 e2'
     go_wp2_with (first | (go_at_call 117; refine (kind_yes _ _ e1a e1b).mono ?_; rintro e w' ⟨rfl, rfl⟩) | (go_at_call 118; refine (numbers2_no _ x.key x.sent _ (by simp [go_sem]) (by simp [go_sem]) E2'.out).mono ?_; rintro e w' ⟨rfl, rfl⟩))
     refine ⟨rfl, endsBy_no (by rw [← HSm.out, HD.out]; exact goR_not fun h => E2.out h.2.1), ?_⟩
     exact ((hB0.alloc (by omega) _).alloc (by simp; omega) _)
   ·have e1' := kindB_no (by simpa using e1)
    have E1 := hid e1
    have E1' := hid e1'
    clear e1 e1'
    go_wp2_with (go_at_call 117; refine (kind_no _ _ E1'.out).mono ?_; rintro e w' ⟨rfl, rfl⟩)
    refine ⟨rfl, endsBy_no (by rw [← HSm.out, HD.out]; exact goR_not fun h => E1.out h.1), ?_⟩
    exact (hB0.alloc (by omega) _)
  ·obtain rfl : k = l.length := by omega
   go_wp2
   go_end0
   refine ⟨endsBy_yes ?_, ((Below.refl _ _).alloc (Nat.le_refl _) _).trans (hB.mono (by omega))⟩
   rw [← HSm.out, List.drop_length, goR]
end Go.Proofs.YthhgpiolcnojfaaGreatDoor

/- A part of the proofs about open calls: contracts of functions, or plain facts that they want. -/
namespace Go.Proofs.YthhgpiolcnojfaaGreatDoor
open Go.RowKit Go.Shelf

set_option maxHeartbeats 400000 in
theorem check_out (ep nx : Int) (s : Value) (w : World) (h : ¬ (0 ≤ ep ∧ ep ≤ 524288 ∧ 1 ≤ nx ∧ nx ≤ 1048576)) :
  Calls Tryz.prog 103 #[calls ep nx s] w fun e w' => e = .panicked (errno 2) ∧ Below w.heap.size w w' := by
 unfold calls
 by_cases h1 : 0 ≤ ep
 ·have d1 : decide (0 ≤ ep) = true := by simpa using h1
  by_cases h2 : ep ≤ 524288
  ·have d2 : decide (ep ≤ 524288) = true := by simpa using h2
   by_cases h3 : 1 ≤ nx
   ·have d3 : decide (1 ≤ nx) = true := by simpa using h3
    have d4 : decide (nx ≤ 1048576) = false := by simp; omega
    go_enter Tryz.func103, Tryz.ntmps103
    go_wp2_with (go_at_call 116; refine (must_no _ _).mono ?_; rintro e w' ⟨rfl, rfl⟩)
    exact ⟨rfl, rfl, (Below.refl _ _).alloc (Nat.le_refl _) _⟩
   ·have d3 : decide (1 ≤ nx) = false := by simp; omega
    go_enter Tryz.func103, Tryz.ntmps103
    go_wp2_with (go_at_call 116; refine (must_no _ _).mono ?_; rintro e w' ⟨rfl, rfl⟩)
    exact ⟨rfl, rfl, (Below.refl _ _).alloc (Nat.le_refl _) _⟩
  ·have d2 : decide (ep ≤ 524288) = false := by simp; omega
   go_enter Tryz.func103, Tryz.ntmps103
   go_wp2_with (go_at_call 116; refine (must_no _ _).mono ?_; rintro e w' ⟨rfl, rfl⟩)
   exact ⟨rfl, rfl, (Below.refl _ _).alloc (Nat.le_refl _) _⟩
 ·have d1 : decide (0 ≤ ep) = false := by simp; omega
  go_enter Tryz.func103, Tryz.ntmps103
  go_wp2_with (go_at_call 116; refine (must_no _ _).mono ?_; rintro e w' ⟨rfl, rfl⟩)
  exact ⟨rfl, rfl, (Below.refl _ _).alloc (Nat.le_refl _) _⟩

theorem check_any (ep nx : Int) (s : Value) (l : List CallV) (w : World) (hn : l.length ≤ 1000000) (hs : Row12 w s l) :
  Calls Tryz.prog 103 #[calls ep nx s] w fun e w' => EndsBy (crightB ⟨ep, nx, l⟩) 2 e ∧ Below w.heap.size w w' := by
 by_cases h : 0 ≤ ep ∧ ep ≤ 524288 ∧ 1 ≤ nx ∧ nx ≤ 1048576
 ·have : crightB ⟨ep, nx, l⟩ = goR (ep * 1048576 + nx) (ep * 1048576) [] l := by simp [crightB, h]
  rw [this]
  exact check_in ep nx s l w hn hs h.1 h.2.1 h.2.2.1 h.2.2.2
 ·have : crightB ⟨ep, nx, l⟩ = false := by
   simp only [crightB]
   apply Bool.eq_false_iff.2
   simp only [Bool.and_eq_true, decide_eq_true_eq, ne_eq]
   rintro ⟨⟨⟨⟨a, b⟩, c⟩, d⟩, _⟩
   exact h ⟨a, b, c, d⟩
  rw [this]
  exact (check_out ep nx s w h).mono fun e w' ⟨he, hw⟩ => ⟨he, hw⟩

/-- Right's closure: it checks the calls in the variable that it has caught. -/
theorem right1_any (p : Addr) (ep nx : Int) (s : Value) (l : List CallV) (w : World) (hn : l.length ≤ 1000000) (hs : Row12 w s l)
  (h0 : w.cell? ⟨p.block, 0, none⟩ = some (.int .i64 ep)) (h1 : w.cell? ⟨p.block, 1, none⟩ = some (.int .i64 nx)) (h2 : w.cell? ⟨p.block, 2, none⟩ = some s) :
  Calls Tryz.prog 102 #[.pointer (some ⟨p.block, 0, none⟩)] w fun e w' => EndsBy (crightB ⟨ep, nx, l⟩) 2 e ∧ Below w.heap.size w w' := by
 have HC := hid (check_any ep nx s l w hn hs)
 clear hs
 generalize crightB ⟨ep, nx, l⟩ = bb at HC ⊢
 go_enter Tryz.func102, Tryz.ntmps102
 go_wp2_with fail
 refine HC.out.mono ?_
 rintro e w1 ⟨he, hb⟩
 cases bb with
 | true =>
  obtain rfl : e = .returned (.tuple #[]) := he
  go_wp2
  go_end0
  exact ⟨rfl, hb⟩
 | false =>
  obtain rfl : e = .panicked (errno 2) := he
  exact ⟨rfl, rfl, hb⟩

theorem frozen_new (w : World) (c : Array Value) (t : TypeId) (i : Nat) : (w.alloc (.cells c t)).frozen? ⟨w.heap.size, i, none⟩ = false := by
 unfold World.frozen?
 rw [show (w.alloc (.cells c t)).heap[w.heap.size]? = some (.cells c t) from heap_new w _]
 simp

/-- What told leaves behind, where what it calls keeps all that was there. -/
theorem told_below (g : Nat) (cap : Array Value) (b : Bool) (n : Int) (w : World)
  (he : ∀ args w, (callFunc g args).run Tryz.prog w = .ok (.enter g args) w)
  (hc : Calls Tryz.prog g cap (toldW w) fun e w' => EndsBy b n e ∧ Below (toldW w).heap.size (toldW w) w') :
  Calls Tryz.prog 101 #[.func (.func g) #[] cap] w fun e w' => e = .returned (.int .i64 (if b then 0 else n)) ∧ Below w.heap.size w w' := by
 refine (told_any g cap b n (fun w1 => Below (toldW w).heap.size (toldW w) w1) w he (fun w1 h1 => ?_) hc).mono ?_
 ·have hlt : w.heap.size < (toldW w).heap.size := by simp [toldW]
  rw [h1.cell (p := ⟨w.heap.size, 0, none⟩) hlt, h1.frozen (p := ⟨w.heap.size, 0, none⟩) hlt]
  exact ⟨by simp [toldW], frozen_new _ _ _ _⟩
 ·rintro e w' ⟨rfl, w1, h1, rfl⟩
  refine ⟨rfl, ?_⟩
  have h0 : Below w.heap.size w (toldW w) := (Below.refl _ _).alloc (Nat.le_refl _) _
  exact (h0.trans (h1.mono (by simp [toldW]))).setCell (p := ⟨w.heap.size, 0, none⟩) (Nat.le_refl _) _

set_option maxHeartbeats 400000 in
theorem cright_any (ep nx : Int) (s : Value) (l : List CallV) (w : World) (hn : l.length ≤ 1000000) (hs : Row12 w s l) :
  Calls Tryz.prog 91 #[calls ep nx s] w fun e w' => e = .returned (.bool (crightB ⟨ep, nx, l⟩)) ∧ Below w.heap.size w w' := by
 have hmf := mkfunc
 have hC : Calls Tryz.prog 101 #[.func (.func 102) #[] #[.pointer (some ⟨w.heap.size, 0, none⟩)]] (w.alloc (.cells #[.int .i64 ep, .int .i64 nx, s] 33)) fun e w' => e = .returned (.int .i64 (if crightB ⟨ep, nx, l⟩ then 0 else 2)) ∧ Below w.heap.size w w' := by
  refine (told_below 102 _ (crightB ⟨ep, nx, l⟩) 2 _ (enters_of Tryz.func102 (by kernel_rfl) rfl) ?_).mono fun e w' ⟨he, hb⟩ => ⟨he, ?_⟩
  ·refine right1_any ⟨w.heap.size, 0, none⟩ ep nx s l _ hn (hs.below ?_) (by simp [toldW, go_sem]) (by simp [toldW, go_sem]) (by simp [toldW, go_sem])
   exact ((Below.refl _ _).alloc (Nat.le_refl _) _).alloc (by simp) _
  ·exact ((Below.refl _ _).alloc (Nat.le_refl _) _).trans (hb.mono (by simp))
 have HC := hid hC
 clear hC hs
 unfold calls
 generalize crightB ⟨ep, nx, l⟩ = bb at HC ⊢
 go_enter Tryz.func91, Tryz.ntmps91
 go_wp2_with fail
 refine HC.out.mono ?_
 rintro e w1 ⟨rfl, hb⟩
 cases bb with
 | true =>
  simp only [if_true]
  go_wp2
  go_ret
  exact ⟨rfl, hb⟩
 | false =>
  simp only [Bool.false_eq_true, if_false]
  go_wp2
  go_ret
  exact ⟨rfl, hb⟩
end Go.Proofs.YthhgpiolcnojfaaGreatDoor
