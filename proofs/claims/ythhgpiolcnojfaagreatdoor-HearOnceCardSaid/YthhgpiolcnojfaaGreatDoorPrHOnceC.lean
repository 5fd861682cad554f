import Derived.Test.YthhgpiolcnojfaaGreatDoorOpm
import Derived.Test.YthhgpiolcnojfaaGreatDoorLho
import Derived.Test.YthhgpiolcnojfaaGreatDoorCards
import Derived.Test.YthhgpiolcnojfaaGreatDoorTie
import Derived.SevenTiedAt
/- The statement HearOnce of herdlaw22: an answer is heard once. -/
namespace Go.Proofs.YthhgpiolcnojfaaGreatDoor
open Go.ChangeShapes Go.WideShapes Go.ChangeAt Go.RowKit Go.Deep Go.Joins

set_option maxRecDepth 100000 in
theorem hearOnce_lifted (os : Os) (started : os.Started) (H : Type) (enc : TypeId × Value → H) :
  ReturnsInHanded {} Tryz.checked os 4 .any (fun w args => (Rows.hearOnceSpec.pre enc Tryz.prog Tryz.f4 [] false w args ∧ laidMetH Tryz.prog [("herd/conf.limits", Rows.laid_herd_conf_limits), ("herd/brain.changes", Rows.laid_herd_brain_changes), ("herd/duty.asked", Rows.laid_herd_duty_asked)] w) ∧ sizedMet enc Tryz.prog Tryz.f4 (OpenSpec.ofChange Rows.hearOnceSpec) false w args)
   (Rows.hearOnceSpec.post enc Tryz.prog Tryz.f4 false true false false) := by
 refine returnsInHanded_of_change_and (C := Tryz.checked) (X := fun w _ => laidMetH Tryz.prog [("herd/conf.limits", Rows.laid_herd_conf_limits), ("herd/brain.changes", Rows.laid_herd_brain_changes), ("herd/duty.asked", Rows.laid_herd_duty_asked)] w) (fun _ _ _ hh h => h.of_heap hh) ownKnob_none started (by kernel_rfl) Tryz.func4
  (ChangeSpec.witness_shaped (enc := enc) (C := Tryz.checked) (os := os) (X := fun w _ => laidMetH Tryz.prog [("herd/conf.limits", Rows.laid_herd_conf_limits), ("herd/brain.changes", Rows.laid_herd_brain_changes), ("herd/duty.asked", Rows.laid_herd_duty_asked)] w) false (World.doorLaid Tryz.prog 100 os) #[.agg #[.int .i64 0, .int .i64 0, .bool false, .int .i64 0, .int .i64 0, .int .i64 0, .int .i64 0, .int .i64 0, .int .i64 0, .int .i64 0, .int .i64 0, .int .i64 0, .int .i64 0, .int .i64 0, .int .i64 0, .int .i64 0, .bool false, .slice none 0 0, .slice none 0 0, .slice none 0 0, .int .u8 0, .int .i64 0, .int .i64 0, .int .i64 0, .bool false, .int .i64 0, .int .i64 0], .agg #[.int .i64 0, .int .i64 0, .slice none 0 0], .agg #[.int .i64 0, .int .u8 0, .int .u8 0, .int .i64 0, .slice none 0 0, .bool false], .int .i64 0] 8 rfl (World.shaped_of_RefB (by kernel_rfl) (by kernel_rfl)) (by kernel_rfl) (by kernel_rfl) (by kernel_rfl)
   (laidMetH_of_parts3 (fuel := 8) (laidMet_of_run' 8 (by kernel_rfl) (by kernel_rfl)) (by kernel_rfl) (by kernel_rfl))) ?_
 intro W base args ds gs before hval0 hW _ hsz0 hL _
 have hTab := tables3 hL
 have hval : ∀ (j : Nat) t v, Tryz.f4.params[j]? = some t → args[j]? = some v → Value.okWide Tryz.prog W .any base t v := hval0
 have hW' := hW
 obtain ⟨p, q, hA0, hV, rfl, hfz, hnd⟩ := hW
 have hA : DataW.TrodAll enc Tryz.prog W 0 (fun _ => true) true Tryz.f4.params.toList args.toList ds p := hA0
 have hlt : ∀ x ∈ p, x.block < W.heap.size := fun x hx => by simpa using hW'.lt x (List.mem_append_left _ hx)
 have hback : ∀ W', Below W.heap.size W W' → DataW.TrodAll enc Tryz.prog W' 0 (fun b => decide (b < W.heap.size)) true Tryz.f4.params.toList args.toList ds p := fun W' hb =>
  trodAll_below hb _ _ _ _ (by
   rw [Tryz.params4]
   intro t ht
   simp only [List.mem_cons, List.mem_nil_iff, or_false] at ht
   rcases ht with rfl | rfl | rfl | rfl <;> exact ⟨by kernel_rfl, of_decide_eq_true (by kernel_rfl)⟩) hA hlt
 have hsz : (DataW.weightsEach Tryz.prog (Tryz.f4.params.toList ++ Rows.hearOnceSpec.plain.varTypes Tryz.prog) (ds ++ gs)).all (· ≤ reachBytes) = true := hsz0
 rw [Tryz.params4] at hA hval hsz
 obtain ⟨v0, vs0, d0, ds0, p0, q0, hargs, rfl, rfl, h0, r0⟩ := trodAll_cons hA
 obtain ⟨v1, vs1, d1, ds1, p1, q1, rfl, rfl, rfl, h1, r1⟩ := trodAll_cons r0
 obtain ⟨v2, vs2, d2, ds2, p2, q2, rfl, rfl, rfl, h2, r2⟩ := trodAll_cons r1
 obtain ⟨v3, vs3, d3, ds3, p3, q3, rfl, rfl, rfl, h3, r3⟩ := trodAll_cons r2
 obtain ⟨rfl, rfl, rfl⟩ := trodAll_nil r3
 obtain rfl : args = #[v0, v1, v2, v3] := by cases args; simp_all
 obtain ⟨rfl, rfl⟩ := trodVars_none hV
 have hbr0 := h0
 obtain ⟨f0, g0, mv0, iv0, kv0, I0, K0, M0, rfl, hI0, hK0, hM0, hwf0⟩ := open_brain (hval 0 30 v0 rfl rfl) h0
 obtain ⟨bv0, hbv0⟩ : ∃ bv, bv = brT f0 g0 mv0 iv0 kv0 := ⟨_, rfl⟩
 have hB0 : BrIs W ⟨f0, g0, M0, I0, K0⟩ (.agg (brT f0 g0 mv0 iv0 kv0)) := ⟨mv0, iv0, kv0, rfl, hM0, hI0, hK0⟩
 have hM90 := brain_reach hbr0 hM0 hsz (j := 0) rfl rfl
 obtain ⟨C1, s1, wf1, rfl, hr1⟩ := open_calls (hval 1 33 v1 rfl rfl) h1
 obtain ⟨tc2, tk2, td2, ti2, ta2, tn2, tp2, tm2, rfl, wc2, wk2, wd2, wi2⟩ := open_tell (hval 2 36 v2 rfl rfl) h2
 obtain ⟨dn2, hdn2⟩ : ∃ n : Nat, td2 = (n : Int) := ⟨td2.toNat, by have := wd2.1; omega⟩
 subst hdn2
 have h82 : dn2 ≤ 255 := by have := wd2.2; omega
 obtain ⟨a3, rfl, rfl, rfl, w3⟩ := open_int Tryz.underlying3 (hval 3 3 v3 rfl rfl) h3
 clear hA0 hval0
 refine (honce_law ⟨f0, g0, M0, I0, K0⟩ _ C1 tc2 tk2 ti2 a3 dn2 _ ta2 tn2 tp2 tm2 W hB0 hr1 wf1.2.2 hwf0 h82 hM90 hTab.2.2 hTab.2.1 hTab.1).mono fun e W' ⟨he, hg⟩ => ?_
 subst he
 exact ⟨_, rfl, _, _, _, [], _, [], hW', trodAll_cons_mk (shut_bool Tryz.underlying4 _) trodAll_mk0, hback W' hg, rfl, hg.frame _, fun h => by cases h⟩

theorem hearOnce_holds : Rows.HearOnceSaid :=
 OpenClaim.holds_of_wide 4 Tryz.f4 rfl rfl rfl rfl rfl rfl rfl ⟨rfl, rfl, rfl, rfl, rfl⟩ rfl rfl rfl rfl rfl (by kernel_rfl) Tryz.func4 (by kernel_rfl)
  (of_decide_eq_true (by kernel_rfl)) (by unfold Func.isWrapper; first | (rw [if_pos (by decide +kernel)]; kernel_rfl) | (rw [if_neg (by decide +kernel)]; exact ⟨rfl, rfl⟩))
  (fun os started H enc _ => hearOnce_lifted os started H enc)
#print axioms hearOnce_holds
end Go.Proofs.YthhgpiolcnojfaaGreatDoor

/- The card of HearOnce. -/
namespace Go.Proofs.YthhgpiolcnojfaaGreatDoor
open Go

theorem hearOnceCard_holds : Rows.HearOnceCardSaid :=
 Claim7.holds_tied_plain_at .later [] [.data, .widerDeep, .mapped] true (true, "d77c9e732341cc98aab2ed5a574ef42bcee1bfd9c5e8a805cf6a49fc9dfe05a1") true
  hearOnce_holds (fun _ h => by cases h) (by kernel_rfl) (fun _ h => by cases h) hearOnce_row_tie rfl ⟨rfl, rfl⟩ (by kernel_rfl) rfl
  (fun f fn hf hfn => by
   obtain rfl : f = 4 := Option.some.inj ((show Tryz.prog.funcNamed "herd/herdlaw22.HearOnce" = some 4 by kernel_rfl).symm.trans hf) |>.symm
   obtain rfl : fn = Tryz.f4 := (Option.some.inj (Tryz.func4.symm.trans hfn)).symm
   exact ⟨by kernel_rfl, fun j t ht => by
    rw [Tryz.params4] at ht
    have h3 : t = 30 ∨ t = 33 ∨ t = 36 ∨ t = 3 := by
     rcases j with _ | _ | _ | _ | j
     ·exact .inl (by simpa using ht.symm)
     ·exact .inr (.inl (by simpa using ht.symm))
     ·exact .inr (.inr (.inl (by simpa using ht.symm)))
     ·exact .inr (.inr (.inr (by simpa using ht.symm)))
     ·simp at ht
    rcases h3 with rfl | rfl | rfl | rfl
    ·exact (show Tryz.prog.wantsStandIn 30 = false by kernel_rfl)
    ·exact (show Tryz.prog.wantsStandIn 33 = false by kernel_rfl)
    ·exact (show Tryz.prog.wantsStandIn 36 = false by kernel_rfl)
    ·exact (show Tryz.prog.wantsStandIn 3 = false by kernel_rfl)⟩)
  (by kernel_rfl)
#print axioms hearOnceCard_holds
end Go.Proofs.YthhgpiolcnojfaaGreatDoor
