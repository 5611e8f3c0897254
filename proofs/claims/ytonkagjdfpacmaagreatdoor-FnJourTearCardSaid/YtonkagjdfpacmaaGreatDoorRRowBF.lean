/-
  Joined by program (merge.py): RowBF. It shows what the single texts show; conditions: none but those of each lemma.
-/
import Derived.Test.YtonkagjdfpacmaaGreatDoorWd
set_option linter.unusedVariables false
set_option linter.unusedSimpArgs false
set_option linter.unusedSectionVars false
/-
  FnJourTear returns true for every input, and its arguments read as they did. Conditions: none.
-/
namespace Go.Proofs.YtonkagjdfpacmaaGreatDoor.fnJourTear
open Go.ChangeShapes Go.WideShapes Go.ChangeAt Go.RowKit Vx
set_option linter.unusedVariables false

set_option maxHeartbeats 1000000 in
set_option maxRecDepth 100000 in
theorem lifted (os : Os) (started : os.Started) (H : Type) (enc : TypeId × Value -> H) :
    ReturnsInHanded {} Tryz.checked os 8 .any (fun w args => (Rows.fnJourTearSpec.pre enc Tryz.prog Tryz.f8 [] false w args /\ laidMetH Tryz.prog Rows.fnJourTearRow.laid w) /\ sizedMet enc Tryz.prog Tryz.f8 (OpenSpec.ofChange Rows.fnJourTearSpec) false w args)
      (Rows.fnJourTearSpec.post enc Tryz.prog Tryz.f8 false true false false) := by
  refine returnsInHanded_of_change_and (C := Tryz.checked) (X := fun w _ => laidMetH Tryz.prog Rows.fnJourTearRow.laid w) (fun _ _ _ hh h => h.of_heap hh) mC started (by kernel_rfl) Tryz.func8
    (ChangeSpec.witness_shaped (enc := enc) (C := Tryz.checked) (os := os) (X := fun w _ => laidMetH Tryz.prog Rows.fnJourTearRow.laid w) false (World.laidAll Tryz.prog os Rows.fnJourTearRow.laid) #[.slice none 0 0] 8 (World.laidAll_os _ _ _)
      (World.shaped_of_ZipB (by kernel_rfl) (by kernel_rfl)) (by kernel_rfl) (by kernel_rfl) (by kernel_rfl)
      (by rw [MakeChecks.laidMetH_plain _ _ _ (by kernel_rfl)]; exact laidMet_laidAll _ (by kernel_rfl) (by kernel_rfl))) ?_
  intro W base args ds gs before hval0 hW _ _ hL _
  have hval : ∀ (j : Nat) t v, Tryz.f8.params[j]? = some t -> args[j]? = some v -> Value.okWide Tryz.prog W .any base t v := hval0
  have hW' := hW
  obtain ⟨p, q, hA0, hV, rfl, _, _⟩ := hW
  have hA : DataW.TrodAll enc Tryz.prog W 0 (fun _ => true) true Tryz.f8.params.toList args.toList ds p := hA0
  rw [Tryz.params8] at hA hval
  obtain ⟨v0, d0, rfl, rfl, h0⟩ := trodAll_one hA
  obtain ⟨rfl, rfl⟩ := trodVars_none hV
  obtain ⟨l0, f0, r0⟩ := xh (by kernel_rfl) (hval 0 _ v0 rfl rfl) h0
  simp only [List.append_nil] at hW'
  have hlt0 : ∀ y ∈ p, y.block < W.heap.size := fun y hy => by simpa using hW'.lt y (by simp [hy])
  refine (nZ H2 (x := l0) (W := W) (vs := [v0]) trivial rfl rfl rfl (.sl r0 .nil) rfl (show (1 : Nat) <= 96 by decide) (fun _ => rfl) (mr (by kernel_rfl) (show laidMet Tryz.prog Rows.fnJourTearRow.laid W by rw [<- MakeChecks.laidMetH_plain _ _ _ (by kernel_rfl)]; exact hL))).mono fun e W' ⟨he, hb⟩ => ?_
  subst he
  exact ⟨_, rfl, _, _, _, [], _, [], hW', trodAll_mk1 (shut_bool (by kernel_rfl) _), trodAll_mk1 (Below.trod laidOut (by kernel_rfl) (of_decide_eq_true (by kernel_rfl)) h0 hb hlt0), rfl, hb.frame _, fun h => by cases h⟩

theorem jf1 : Tryz.pinned.checked.prog.inPlace 8 = Rows.fnJourTearRow.inPlace := by kernel_rfl
theorem jf2 : Tryz.pinned.checked.prog.unfollowed 8 = Rows.fnJourTearRow.unfollowed := by kernel_rfl
theorem jf3 : Tryz.pinned.checked.prog.recurses 8 = Rows.fnJourTearRow.recurses := by kernel_rfl
theorem jf4 : Tryz.pinned.checked.prog.varsNamed 8 = Rows.fnJourTearRow.named := by kernel_rfl
theorem jf : joinedFacts Tryz.pinned.checked.prog 8 Tryz.f8 Rows.fnJourTearSpec Rows.fnJourTearRow = true := by
  unfold joinedFacts
  rw [jf1, jf2, jf3, jf4, l7, mb, mc, lZ, l8]
  kernel_rfl
theorem jn : Tryz.pinned.checked.prog.funcNamed Rows.fnJourTearRow.func = some 8 := by kernel_rfl
theorem ji : Tryz.f8.isInstance Tryz.pinned.checked.prog Rows.fnJourTearRow.origin Rows.fnJourTearRow.targs := of_decide_eq_true (by kernel_rfl)
theorem jw : Tryz.f8.isWrapper Tryz.pinned.checked.prog Rows.fnJourTearRow.wrapper Rows.fnJourTearRow.mainSum := by unfold Func.isWrapper; first | (rw [if_pos (by decide +kernel)]; kernel_rfl) | (rw [if_neg (by decide +kernel)]; exact ⟨rfl, rfl⟩)
theorem holds : Rows.FnJourTearSaid :=
  OpenClaim.holds_of_wide 8 Tryz.f8 rfl rfl rfl rfl rfl rfl rfl ⟨rfl, rfl, rfl, rfl, rfl⟩ rfl rfl rfl rfl rfl jn Tryz.func8 jf ji jw
    (fun os started H enc _ => lifted os started H enc)

theorem cw : Rows.fnJourTearRow.wfByText (OpenSpec.ofChange Rows.fnJourTearSpec) = true := by kernel_rfl
theorem cg : false = Rows.fnJourTearRow.goesBy Tryz.pinned.checked.prog := by kernel_rfl
theorem card_holds : Rows.FnJourTearCardSaid :=
  Claim7.holds_tied_plain_at .later [] Rows.fnJourTearCard.laidKinds true Rows.fnJourTearCard.stood.harness Rows.fnJourTearCard.stood.looks holds (fun _ h => by cases h) cw (fun _ h => by cases h) fnJourTear_row_tie rfl ⟨rfl, rfl⟩ ma rfl
    (fun f fn hf hfn => by
      obtain rfl : f = 8 := Option.some.inj ((show Tryz.prog.funcNamed Rows.fnJourTearRow.func = some 8 by kernel_rfl).symm.trans hf) |>.symm
      obtain rfl : fn = Tryz.f8 := (Option.some.inj (Tryz.func8.symm.trans hfn)).symm
      exact ⟨l9, fun j t ht => by
        rw [Tryz.params8] at ht
        have hm : t ∈ [48] := by simpa using Array.mem_of_getElem? ht
        have hall : ([48].all fun u => !Tryz.prog.wantsStandIn u) = true := by kernel_rfl
        exact (show Tryz.prog.wantsStandIn t = false by simpa using List.all_eq_true.1 hall t hm)⟩)
    cg

end Go.Proofs.YtonkagjdfpacmaaGreatDoor.fnJourTear
