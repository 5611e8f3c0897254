/-
  Joined by program (merge.py): RowBG. It shows what the single texts show; conditions: none but those of each lemma.
-/
import Derived.Test.YthgfdbfmnbgkaaaGreatDoorWc
set_option linter.unusedVariables false
set_option linter.unusedSimpArgs false
set_option linter.unusedSectionVars false
/-
  FnReviewLand returns true for every input, and its arguments read as they did. Conditions: none.
-/
namespace Go.Proofs.YthgfdbfmnbgkaaaGreatDoor.fnReviewLand
open Go.ChangeShapes Go.WideShapes Go.ChangeAt Go.RowKit Vx
set_option linter.unusedVariables false

set_option maxHeartbeats 1000000 in
set_option maxRecDepth 100000 in
theorem lifted (os : Os) (started : os.Started) (H : Type) (enc : TypeId × Value -> H) :
    ReturnsInHanded {} Tryz.checked os 7 .any (fun w args => (Rows.fnReviewLandSpec.pre enc Tryz.prog Tryz.f7 [] false w args /\ laidMetH Tryz.prog Rows.fnReviewLandRow.laid w) /\ sizedMet enc Tryz.prog Tryz.f7 (OpenSpec.ofChange Rows.fnReviewLandSpec) false w args)
      (Rows.fnReviewLandSpec.post enc Tryz.prog Tryz.f7 false true false false) := by
  refine returnsInHanded_of_change_and (C := Tryz.checked) (X := fun w _ => laidMetH Tryz.prog Rows.fnReviewLandRow.laid w) (fun _ _ _ hh h => h.of_heap hh) y9 started (by kernel_rfl) Tryz.func7
    (ChangeSpec.witness_shaped (enc := enc) (C := Tryz.checked) (os := os) (X := fun w _ => laidMetH Tryz.prog Rows.fnReviewLandRow.laid w) false (World.laidAll Tryz.prog os Rows.fnReviewLandRow.laid) #[.slice none 0 0] 8 (World.laidAll_os _ _ _)
      (World.shaped_of_ZipB (by kernel_rfl) (by kernel_rfl)) (by kernel_rfl) (by kernel_rfl) (by kernel_rfl)
      (by rw [MakeChecks.laidMetH_plain _ _ _ (by kernel_rfl)]; exact laidMet_laidAll _ (by kernel_rfl) (by kernel_rfl))) ?_
  intro W base args ds gs before hval0 hW _ _ _ _
  have hval : ∀ (j : Nat) t v, Tryz.f7.params[j]? = some t -> args[j]? = some v -> Value.okWide Tryz.prog W .any base t v := hval0
  have hW' := hW
  obtain ⟨p, q, hA0, hV, rfl, _, _⟩ := hW
  have hA : DataW.TrodAll enc Tryz.prog W 0 (fun _ => true) true Tryz.f7.params.toList args.toList ds p := hA0
  rw [Tryz.params7] at hA hval
  obtain ⟨v0, d0, rfl, rfl, h0⟩ := trodAll_one hA
  obtain ⟨rfl, rfl⟩ := trodVars_none hV
  obtain ⟨l0, f0, r0⟩ := yS (by kernel_rfl) (hval 0 _ v0 rfl rfl) h0
  simp only [List.append_nil] at hW'
  have hlt0 : ∀ y ∈ p, y.block < W.heap.size := fun y hy => by simpa using hW'.lt y (by simp [hy])
  refine (yc DN (x := l0) (W := W) (vs := [v0]) trivial rfl rfl rfl (.sl r0 .nil) rfl (show (1 : Nat) <= 112 by decide) (fun _ => rfl)).mono fun e W' ⟨he, hb⟩ => ?_
  subst he
  exact ⟨_, rfl, _, _, _, [], _, [], hW', trodAll_mk1 (shut_bool (by kernel_rfl) _), trodAll_mk1 (Below.trod laidOut (by kernel_rfl) (of_decide_eq_true (by kernel_rfl)) h0 hb hlt0), rfl, hb.frame _, fun h => by cases h⟩

theorem jf1 : Tryz.pinned.checked.prog.inPlace 7 = Rows.fnReviewLandRow.inPlace := by kernel_rfl
theorem jf2 : Tryz.pinned.checked.prog.unfollowed 7 = Rows.fnReviewLandRow.unfollowed := by kernel_rfl
theorem jf3 : Tryz.pinned.checked.prog.recurses 7 = Rows.fnReviewLandRow.recurses := by kernel_rfl
theorem jf4 : Tryz.pinned.checked.prog.varsNamed 7 = Rows.fnReviewLandRow.named := by kernel_rfl
theorem jf : joinedFacts Tryz.pinned.checked.prog 7 Tryz.f7 Rows.fnReviewLandSpec Rows.fnReviewLandRow = true := by
  unfold joinedFacts
  rw [jf1, jf2, jf3, jf4, xl, xp, xq, xk, xm]
  kernel_rfl
theorem jn : Tryz.pinned.checked.prog.funcNamed Rows.fnReviewLandRow.func = some 7 := by kernel_rfl
theorem ji : Tryz.f7.isInstance Tryz.pinned.checked.prog Rows.fnReviewLandRow.origin Rows.fnReviewLandRow.targs := of_decide_eq_true (by kernel_rfl)
theorem jw : Tryz.f7.isWrapper Tryz.pinned.checked.prog Rows.fnReviewLandRow.wrapper Rows.fnReviewLandRow.mainSum := by unfold Func.isWrapper; first | (rw [if_pos (by decide +kernel)]; kernel_rfl) | (rw [if_neg (by decide +kernel)]; exact ⟨rfl, rfl⟩)
theorem holds : Rows.FnReviewLandSaid :=
  OpenClaim.holds_of_wide 7 Tryz.f7 rfl rfl rfl rfl rfl rfl rfl ⟨rfl, rfl, rfl, rfl, rfl⟩ rfl rfl rfl rfl rfl jn Tryz.func7 jf ji jw
    (fun os started H enc _ => lifted os started H enc)

theorem cw : Rows.fnReviewLandRow.wfByText (OpenSpec.ofChange Rows.fnReviewLandSpec) = true := by kernel_rfl
theorem cg : false = Rows.fnReviewLandRow.goesBy Tryz.pinned.checked.prog := by kernel_rfl
theorem card_holds : Rows.FnReviewLandCardSaid :=
  Claim7.holds_tied_plain_at .later [] Rows.fnReviewLandCard.laidKinds true Rows.fnReviewLandCard.stood.harness Rows.fnReviewLandCard.stood.looks holds (fun _ h => by cases h) cw (fun _ h => by cases h) fnReviewLand_row_tie rfl ⟨rfl, rfl⟩ xo rfl
    (fun f fn hf hfn => by
      obtain rfl : f = 7 := Option.some.inj ((show Tryz.prog.funcNamed Rows.fnReviewLandRow.func = some 7 by kernel_rfl).symm.trans hf) |>.symm
      obtain rfl : fn = Tryz.f7 := (Option.some.inj (Tryz.func7.symm.trans hfn)).symm
      exact ⟨xn, fun j t ht => by
        rw [Tryz.params7] at ht
        have hm : t ∈ [28] := by simpa using Array.mem_of_getElem? ht
        have hall : ([28].all fun u => !Tryz.prog.wantsStandIn u) = true := by kernel_rfl
        exact (show Tryz.prog.wantsStandIn t = false by simpa using List.all_eq_true.1 hall t hm)⟩)
    cg

end Go.Proofs.YthgfdbfmnbgkaaaGreatDoor.fnReviewLand
