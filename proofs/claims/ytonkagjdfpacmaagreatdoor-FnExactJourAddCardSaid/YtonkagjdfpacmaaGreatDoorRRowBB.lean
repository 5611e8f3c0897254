/-
  Joined by program (merge.py): RowBB. It shows what the single texts show; conditions: none but those of each lemma.
-/
import Derived.Test.YtonkagjdfpacmaaGreatDoorWd
set_option linter.unusedVariables false
set_option linter.unusedSimpArgs false
set_option linter.unusedSectionVars false
/-
  FnExactJourAdd returns true for every input, and its arguments read as they did. Conditions: none.
-/
namespace Go.Proofs.YtonkagjdfpacmaaGreatDoor.fnExactJourAdd
open Go.ChangeShapes Go.WideShapes Go.ChangeAt Go.RowKit Vx
set_option linter.unusedVariables false

set_option maxHeartbeats 1000000 in
set_option maxRecDepth 100000 in
theorem lifted (os : Os) (started : os.Started) (H : Type) (enc : TypeId × Value -> H) :
    ReturnsInHanded {} Tryz.checked os 4 .any (fun w args => (Rows.fnExactJourAddSpec.pre enc Tryz.prog Tryz.f4 [] false w args /\ laidMetH Tryz.prog Rows.fnExactJourAddRow.laid w) /\ sizedMet enc Tryz.prog Tryz.f4 (OpenSpec.ofChange Rows.fnExactJourAddSpec) false w args)
      (Rows.fnExactJourAddSpec.post enc Tryz.prog Tryz.f4 false true false false) := by
  refine returnsInHanded_of_change_and (C := Tryz.checked) (X := fun w _ => laidMetH Tryz.prog Rows.fnExactJourAddRow.laid w) (fun _ _ _ hh h => h.of_heap hh) mC started (by kernel_rfl) Tryz.func4
    (ChangeSpec.witness_shaped (enc := enc) (C := Tryz.checked) (os := os) (X := fun w _ => laidMetH Tryz.prog Rows.fnExactJourAddRow.laid w) false (World.laidAll Tryz.prog os Rows.fnExactJourAddRow.laid) #[.string ⟨#[]⟩, .agg #[.int .i64 0, .string ⟨#[]⟩, .string ⟨#[]⟩, .string ⟨#[]⟩, .string ⟨#[]⟩, .int .i64 0, .slice none 0 0]] 8 (World.laidAll_os _ _ _)
      (World.shaped_of_ZipB (by kernel_rfl) (by kernel_rfl)) (by kernel_rfl) (by kernel_rfl) (by kernel_rfl)
      (by rw [MakeChecks.laidMetH_plain _ _ _ (by kernel_rfl)]; exact laidMet_laidAll _ (by kernel_rfl) (by kernel_rfl))) ?_
  intro W base args ds gs before hval0 hW _ _ hL _
  have hval : ∀ (j : Nat) t v, Tryz.f4.params[j]? = some t -> args[j]? = some v -> Value.okWide Tryz.prog W .any base t v := hval0
  have hW' := hW
  obtain ⟨p, q, hA0, hV, rfl, _, _⟩ := hW
  have hA : DataW.TrodAll enc Tryz.prog W 0 (fun _ => true) true Tryz.f4.params.toList args.toList ds p := hA0
  rw [Tryz.params4] at hA hval
  obtain ⟨v0, v1, d0, d1, p0, p1, rfl, rfl, rfl, h0, h1⟩ := trodAll_two hA
  obtain ⟨rfl, rfl⟩ := trodVars_none hV
  obtain ⟨l0, e0, w0⟩ := xi (by kernel_rfl) (hval 0 _ v0 rfl rfl) h0
  obtain ⟨l1, us1, f1, e1, u1, r1⟩ := CJ (by kernel_rfl) (hval 1 _ v1 rfl rfl) h1
  simp only [List.append_nil] at hW'
  have hlt0 : ∀ y ∈ p0, y.block < W.heap.size := fun y hy => by simpa using hW'.lt y (by simp [hy])
  have hlt1 : ∀ y ∈ p1, y.block < W.heap.size := fun y hy => by simpa using hW'.lt y (by simp [hy])
  subst e0
  subst e1
  refine (nZ HX (x := (l0, l1)) (W := W) (vs := [.string ⟨l0.toArray⟩, .agg us1.toArray]) trivial rfl rfl rfl (.str w0 (.agg r1 u1 .nil)) rfl (show (2 : Nat) <= 47 by decide) (fun _ => rfl) (mr (by kernel_rfl) (show laidMet Tryz.prog Rows.fnExactJourAddRow.laid W by rw [<- MakeChecks.laidMetH_plain _ _ _ (by kernel_rfl)]; exact hL))).mono fun e W' ⟨he, hb⟩ => ?_
  subst he
  exact ⟨_, rfl, _, _, _, [], _, [], hW', trodAll_mk1 (shut_bool (by kernel_rfl) _), trodAll_mk2 (Below.trod laidOut (by kernel_rfl) (of_decide_eq_true (by kernel_rfl)) h0 hb hlt0) (Below.trod laidOut (by kernel_rfl) (of_decide_eq_true (by kernel_rfl)) h1 hb hlt1), rfl, hb.frame _, fun h => by cases h⟩

theorem jf1 : Tryz.pinned.checked.prog.inPlace 4 = Rows.fnExactJourAddRow.inPlace := by kernel_rfl
theorem jf2 : Tryz.pinned.checked.prog.unfollowed 4 = Rows.fnExactJourAddRow.unfollowed := by kernel_rfl
theorem jf3 : Tryz.pinned.checked.prog.recurses 4 = Rows.fnExactJourAddRow.recurses := by kernel_rfl
theorem jf4 : Tryz.pinned.checked.prog.varsNamed 4 = Rows.fnExactJourAddRow.named := by kernel_rfl
theorem jf : joinedFacts Tryz.pinned.checked.prog 4 Tryz.f4 Rows.fnExactJourAddSpec Rows.fnExactJourAddRow = true := by
  unfold joinedFacts
  rw [jf1, jf2, jf3, jf4, l7, mb, mc, lZ, l8]
  kernel_rfl
theorem jn : Tryz.pinned.checked.prog.funcNamed Rows.fnExactJourAddRow.func = some 4 := by kernel_rfl
theorem ji : Tryz.f4.isInstance Tryz.pinned.checked.prog Rows.fnExactJourAddRow.origin Rows.fnExactJourAddRow.targs := of_decide_eq_true (by kernel_rfl)
theorem jw : Tryz.f4.isWrapper Tryz.pinned.checked.prog Rows.fnExactJourAddRow.wrapper Rows.fnExactJourAddRow.mainSum := by unfold Func.isWrapper; first | (rw [if_pos (by decide +kernel)]; kernel_rfl) | (rw [if_neg (by decide +kernel)]; exact ⟨rfl, rfl⟩)
theorem holds : Rows.FnExactJourAddSaid :=
  OpenClaim.holds_of_wide 4 Tryz.f4 rfl rfl rfl rfl rfl rfl rfl ⟨rfl, rfl, rfl, rfl, rfl⟩ rfl rfl rfl rfl rfl jn Tryz.func4 jf ji jw
    (fun os started H enc _ => lifted os started H enc)

theorem cw : Rows.fnExactJourAddRow.wfByText (OpenSpec.ofChange Rows.fnExactJourAddSpec) = true := by kernel_rfl
theorem cg : false = Rows.fnExactJourAddRow.goesBy Tryz.pinned.checked.prog := by kernel_rfl
theorem card_holds : Rows.FnExactJourAddCardSaid :=
  Claim7.holds_tied_plain_at .later [] Rows.fnExactJourAddCard.laidKinds true Rows.fnExactJourAddCard.stood.harness Rows.fnExactJourAddCard.stood.looks holds (fun _ h => by cases h) cw (fun _ h => by cases h) fnExactJourAdd_row_tie rfl ⟨rfl, rfl⟩ ma rfl
    (fun f fn hf hfn => by
      obtain rfl : f = 4 := Option.some.inj ((show Tryz.prog.funcNamed Rows.fnExactJourAddRow.func = some 4 by kernel_rfl).symm.trans hf) |>.symm
      obtain rfl : fn = Tryz.f4 := (Option.some.inj (Tryz.func4.symm.trans hfn)).symm
      exact ⟨l9, fun j t ht => by
        rw [Tryz.params4] at ht
        have hm : t ∈ [9, 38] := by simpa using Array.mem_of_getElem? ht
        have hall : ([9, 38].all fun u => !Tryz.prog.wantsStandIn u) = true := by kernel_rfl
        exact (show Tryz.prog.wantsStandIn t = false by simpa using List.all_eq_true.1 hall t hm)⟩)
    cg

end Go.Proofs.YtonkagjdfpacmaaGreatDoor.fnExactJourAdd
