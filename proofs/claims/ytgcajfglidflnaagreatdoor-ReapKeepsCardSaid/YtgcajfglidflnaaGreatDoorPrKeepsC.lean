import Derived.Test.YtgcajfglidflnaaGreatDoorOpm
import Derived.Test.YtgcajfglidflnaaGreatDoorLkp
import Derived.Test.YtgcajfglidflnaaGreatDoorCards
import Derived.Test.YtgcajfglidflnaaGreatDoorTie
import Derived.SevenTiedAt
/- The statement ReapKeeps of herdlaw21: behind a whole listing what is shown is kept, what is not is not. -/
namespace Go.Proofs.YtgcajfglidflnaaGreatDoor
open Go.ChangeShapes Go.WideShapes Go.ChangeAt Go.RowKit Go.Deep Go.Joins

set_option maxRecDepth 100000 in
theorem reapKeeps_lifted (os : Os) (started : os.Started) (H : Type) (enc : TypeId × Value → H) :
  ReturnsInHanded {} Tryz.checked os 3 .any (fun w args => (Rows.reapKeepsSpec.pre enc Tryz.prog Tryz.f3 [] false w args ∧ laidMetH Tryz.prog [("herd/conf.limits", Rows.laid_herd_conf_limits), ("herd/brain.changes", Rows.laid_herd_brain_changes)] w) ∧ sizedMet enc Tryz.prog Tryz.f3 (OpenSpec.ofChange Rows.reapKeepsSpec) false w args)
   (Rows.reapKeepsSpec.post enc Tryz.prog Tryz.f3 false true false false) := by
 refine returnsInHanded_of_change_and (C := Tryz.checked) (X := fun w _ => laidMetH Tryz.prog [("herd/conf.limits", Rows.laid_herd_conf_limits), ("herd/brain.changes", Rows.laid_herd_brain_changes)] w) (fun _ _ _ hh h => h.of_heap hh) ownKnob_none started (by kernel_rfl) Tryz.func3
  (ChangeSpec.witness_shaped (enc := enc) (C := Tryz.checked) (os := os) (X := fun w _ => laidMetH Tryz.prog [("herd/conf.limits", Rows.laid_herd_conf_limits), ("herd/brain.changes", Rows.laid_herd_brain_changes)] w) false (World.doorLaid Tryz.prog 34 os) #[.agg #[.slice none 0 0, .int .i64 0, .int .i64 0, .int .i64 0, .bool false], .agg #[.int .i64 0, .int .i64 0, .bool false, .int .i64 0, .int .i64 0, .int .i64 0, .int .i64 0, .int .i64 0, .int .i64 0, .int .i64 0, .int .i64 0, .int .i64 0, .int .i64 0, .int .i64 0, .int .i64 0, .int .i64 0, .bool false, .slice none 0 0, .slice none 0 0, .slice none 0 0, .int .u8 0, .int .i64 0, .int .i64 0, .int .i64 0, .bool false, .int .i64 0, .int .i64 0], .int .i64 0] 8 rfl (World.shaped_of_RefB (by kernel_rfl) (by kernel_rfl)) (by kernel_rfl) (by kernel_rfl) (by kernel_rfl)
   (laidMetH_of_parts3 (fuel := 8) (laidMet_of_run' 8 (by kernel_rfl) (by kernel_rfl)) (by kernel_rfl) (by kernel_rfl))) ?_
 intro W base args ds gs before hval0 hW _ _ hL _
 have hTab := tables_of hL
 have hval : ∀ (j : Nat) t v, Tryz.f3.params[j]? = some t → args[j]? = some v → Value.okWide Tryz.prog W .any base t v := hval0
 have hW' := hW
 obtain ⟨p, q, hA0, hV, rfl, hfz, hnd⟩ := hW
 have hA : DataW.TrodAll enc Tryz.prog W 0 (fun _ => true) true Tryz.f3.params.toList args.toList ds p := hA0
 have hlt : ∀ x ∈ p, x.block < W.heap.size := fun x hx => by simpa using hW'.lt x (List.mem_append_left _ hx)
 have hback : ∀ W', Below W.heap.size W W' → DataW.TrodAll enc Tryz.prog W' 0 (fun b => decide (b < W.heap.size)) true Tryz.f3.params.toList args.toList ds p := fun W' hb =>
  trodAll_below hb _ _ _ _ (by
   rw [Tryz.params3]
   intro t ht
   simp only [List.mem_cons, List.mem_nil_iff, or_false] at ht
   rcases ht with rfl | rfl | rfl <;> exact ⟨by kernel_rfl, of_decide_eq_true (by kernel_rfl)⟩) hA hlt
 rw [Tryz.params3] at hA hval
 obtain ⟨v0, vs0, d0, ds0, p0, q0, hargs, rfl, rfl, h0, r0⟩ := trodAll_cons hA
 obtain ⟨v1, vs1, d1, ds1, p1, q1, rfl, rfl, rfl, h1, r1⟩ := trodAll_cons r0
 obtain ⟨v2, vs2, d2, ds2, p2, q2, rfl, rfl, rfl, h2, r2⟩ := trodAll_cons r1
 obtain ⟨rfl, rfl, rfl⟩ := trodAll_nil r2
 obtain rfl : args = #[v0, v1, v2] := by cases args; simp_all
 obtain ⟨rfl, rfl⟩ := trodVars_none hV
 obtain ⟨C0, s0, rfl, hr0⟩ := open_cloud (hval 0 24 v0 rfl rfl) h0
 obtain ⟨f1, g1, mv1, iv1, kv1, I1, K1, M1, rfl, hI1, hK1, hM1, hwf1⟩ := open_brain (hval 1 33 v1 rfl rfl) h1
 obtain ⟨bv1, hbv1⟩ : ∃ bv, bv = brT f1 g1 mv1 iv1 kv1 := ⟨_, rfl⟩
 have hB1 : BrIs W ⟨f1, g1, M1, I1, K1⟩ (.agg (brT f1 g1 mv1 iv1 kv1)) := ⟨mv1, iv1, kv1, rfl, hM1, hI1, hK1⟩
 obtain ⟨a2, rfl, rfl, rfl, w2⟩ := open_int Tryz.underlying3 (hval 2 3 v2 rfl rfl) h2
 clear hA0 hval0
 refine (keeps_law C0 s0 ⟨f1, g1, M1, I1, K1⟩ _ a2 W hr0 hB1 hwf1 hTab.2 hTab.1).mono fun e W' ⟨he, hg⟩ => ?_
 subst he
 exact ⟨_, rfl, _, _, _, [], _, [], hW', trodAll_cons_mk (shut_bool Tryz.underlying4 _) trodAll_mk0, hback W' hg, rfl, hg.frame _, fun h => by cases h⟩

theorem reapKeeps_holds : Rows.ReapKeepsSaid :=
 OpenClaim.holds_of_wide 3 Tryz.f3 rfl rfl rfl rfl rfl rfl rfl ⟨rfl, rfl, rfl, rfl, rfl⟩ rfl rfl rfl rfl rfl (by kernel_rfl) Tryz.func3 (by kernel_rfl)
  (of_decide_eq_true (by kernel_rfl)) (by unfold Func.isWrapper; first | (rw [if_pos (by decide +kernel)]; kernel_rfl) | (rw [if_neg (by decide +kernel)]; exact ⟨rfl, rfl⟩))
  (fun os started H enc _ => reapKeeps_lifted os started H enc)
#print axioms reapKeeps_holds
end Go.Proofs.YtgcajfglidflnaaGreatDoor

/- The card of ReapKeeps. -/
namespace Go.Proofs.YtgcajfglidflnaaGreatDoor
open Go

theorem reapKeepsCard_holds : Rows.ReapKeepsCardSaid :=
 Claim7.holds_tied_plain_at .later [] [.data, .widerDeep] true (true, "693eae2b37b180eedb86200d405e3c45aacbe6460d03ccd7eb5fd0e8203bf98e") false
  reapKeeps_holds (fun _ h => by cases h) (by kernel_rfl) (fun _ h => by cases h) reapKeeps_row_tie rfl ⟨rfl, rfl⟩ (by kernel_rfl) rfl
  (fun f fn hf hfn => by
   obtain rfl : f = 3 := Option.some.inj ((show Tryz.prog.funcNamed "herd/herdlaw21.ReapKeeps" = some 3 by kernel_rfl).symm.trans hf) |>.symm
   obtain rfl : fn = Tryz.f3 := (Option.some.inj (Tryz.func3.symm.trans hfn)).symm
   exact ⟨by kernel_rfl, fun j t ht => by
    rw [Tryz.params3] at ht
    have h3 : t = 24 ∨ t = 33 ∨ t = 3 := by
     rcases j with _ | _ | _ | j
     ·exact .inl (by simpa using ht.symm)
     ·exact .inr (.inl (by simpa using ht.symm))
     ·exact .inr (.inr (by simpa using ht.symm))
     ·simp at ht
    rcases h3 with rfl | rfl | rfl
    ·exact (show Tryz.prog.wantsStandIn 24 = false by kernel_rfl)
    ·exact (show Tryz.prog.wantsStandIn 33 = false by kernel_rfl)
    ·exact (show Tryz.prog.wantsStandIn 3 = false by kernel_rfl)⟩)
  (by kernel_rfl)
#print axioms reapKeepsCard_holds
end Go.Proofs.YtgcajfglidflnaaGreatDoor
