/-
  Joined by program (merge.py): RowBK. It shows what the single texts show; conditions: none but those of each lemma.
-/
import Derived.Test.YthgfdbfmnbgkaaaGreatDoorWd
set_option linter.unusedVariables false
set_option linter.unusedSimpArgs false
set_option linter.unusedSectionVars false
/-
  FnSessionKeep returns true for every input, and its arguments read as they did. Conditions: none.
-/
namespace Go.Proofs.YthgfdbfmnbgkaaaGreatDoor.fnSessionKeep
open Go.ChangeShapes Go.WideShapes Go.ChangeAt Go.RowKit Vx
set_option linter.unusedVariables false

set_option maxHeartbeats 1000000 in
set_option maxRecDepth 100000 in
theorem lifted (os : Os) (started : os.Started) (H : Type) (enc : TypeId × Value -> H) :
    ReturnsInHanded {} Tryz.checked os 5 .any (fun w args => (Rows.fnSessionKeepSpec.pre enc Tryz.prog Tryz.f5 [] false w args /\ laidMetH Tryz.prog Rows.fnSessionKeepRow.laid w) /\ sizedMet enc Tryz.prog Tryz.f5 (OpenSpec.ofChange Rows.fnSessionKeepSpec) false w args)
      (Rows.fnSessionKeepSpec.post enc Tryz.prog Tryz.f5 false true false false) := by
  refine returnsInHanded_of_change_and (C := Tryz.checked) (X := fun w _ => laidMetH Tryz.prog Rows.fnSessionKeepRow.laid w) (fun _ _ _ hh h => h.of_heap hh) xb started (by kernel_rfl) Tryz.func5
    (ChangeSpec.witness_shaped (enc := enc) (C := Tryz.checked) (os := os) (X := fun w _ => laidMetH Tryz.prog Rows.fnSessionKeepRow.laid w) false (World.laidAll Tryz.prog os Rows.fnSessionKeepRow.laid) #[.slice none 0 0] 8 (World.laidAll_os _ _ _)
      (World.shaped_of_ZipB (by kernel_rfl) (by kernel_rfl)) (by kernel_rfl) (by kernel_rfl) (by kernel_rfl)
      (by rw [MakeChecks.laidMetH_plain _ _ _ (by kernel_rfl)]; exact laidMet_laidAll _ (by kernel_rfl) (by kernel_rfl))) ?_
  intro W base args ds gs before hval0 hW _ _ hL _
  have hval : ∀ (j : Nat) t v, Tryz.f5.params[j]? = some t -> args[j]? = some v -> Value.okWide Tryz.prog W .any base t v := hval0
  have hW' := hW
  obtain ⟨p, q, hA0, hV, rfl, _, _⟩ := hW
  have hA : DataW.TrodAll enc Tryz.prog W 0 (fun _ => true) true Tryz.f5.params.toList args.toList ds p := hA0
  rw [Tryz.params5] at hA hval
  obtain ⟨v0, d0, rfl, rfl, h0⟩ := trodAll_one hA
  obtain ⟨rfl, rfl⟩ := trodVars_none hV
  obtain ⟨l0, f0, r0⟩ := w8 (by kernel_rfl) (hval 0 _ v0 rfl rfl) h0
  simp only [List.append_nil] at hW'
  have hlt0 : ∀ y ∈ p, y.block < W.heap.size := fun y hy => by simpa using hW'.lt y (by simp [hy])
  refine (wH Hq (x := l0) (W := W) (vs := [v0]) trivial rfl rfl rfl (.sl r0 .nil) rfl (show (1 : Nat) <= 62 by decide) (fun _ => rfl) (wG (by kernel_rfl) (show laidMet Tryz.prog Rows.fnSessionKeepRow.laid W by rw [<- MakeChecks.laidMetH_plain _ _ _ (by kernel_rfl)]; exact hL))).mono fun e W' ⟨he, hb⟩ => ?_
  subst he
  exact ⟨_, rfl, _, _, _, [], _, [], hW', trodAll_mk1 (shut_bool (by kernel_rfl) _), trodAll_mk1 (Below.trod laidOut (by kernel_rfl) (of_decide_eq_true (by kernel_rfl)) h0 hb hlt0), rfl, hb.frame _, fun h => by cases h⟩

theorem jf1 : Tryz.pinned.checked.prog.inPlace 5 = Rows.fnSessionKeepRow.inPlace := by kernel_rfl
theorem jf2 : Tryz.pinned.checked.prog.unfollowed 5 = Rows.fnSessionKeepRow.unfollowed := by kernel_rfl
theorem jf3 : Tryz.pinned.checked.prog.recurses 5 = Rows.fnSessionKeepRow.recurses := by kernel_rfl
theorem jf4 : Tryz.pinned.checked.prog.varsNamed 5 = Rows.fnSessionKeepRow.named := by kernel_rfl
theorem jf : joinedFacts Tryz.pinned.checked.prog 5 Tryz.f5 Rows.fnSessionKeepSpec Rows.fnSessionKeepRow = true := by
  unfold joinedFacts
  rw [jf1, jf2, jf3, jf4, vz, vE, vF, vv, vA]
  kernel_rfl
theorem jn : Tryz.pinned.checked.prog.funcNamed Rows.fnSessionKeepRow.func = some 5 := by kernel_rfl
theorem ji : Tryz.f5.isInstance Tryz.pinned.checked.prog Rows.fnSessionKeepRow.origin Rows.fnSessionKeepRow.targs := of_decide_eq_true (by kernel_rfl)
theorem jw : Tryz.f5.isWrapper Tryz.pinned.checked.prog Rows.fnSessionKeepRow.wrapper Rows.fnSessionKeepRow.mainSum := by unfold Func.isWrapper; first | (rw [if_pos (by decide +kernel)]; kernel_rfl) | (rw [if_neg (by decide +kernel)]; exact ⟨rfl, rfl⟩)
theorem holds : Rows.FnSessionKeepSaid :=
  OpenClaim.holds_of_wide 5 Tryz.f5 rfl rfl rfl rfl rfl rfl rfl ⟨rfl, rfl, rfl, rfl, rfl⟩ rfl rfl rfl rfl rfl jn Tryz.func5 jf ji jw
    (fun os started H enc _ => lifted os started H enc)

theorem cw : Rows.fnSessionKeepRow.wfByText (OpenSpec.ofChange Rows.fnSessionKeepSpec) = true := by kernel_rfl
theorem cg : false = Rows.fnSessionKeepRow.goesBy Tryz.pinned.checked.prog := by kernel_rfl
theorem card_holds : Rows.FnSessionKeepCardSaid :=
  Claim7.holds_tied_plain_at .later [] Rows.fnSessionKeepCard.laidKinds true Rows.fnSessionKeepCard.stood.harness Rows.fnSessionKeepCard.stood.looks holds (fun _ h => by cases h) cw (fun _ h => by cases h) fnSessionKeep_row_tie rfl ⟨rfl, rfl⟩ vD rfl
    (fun f fn hf hfn => by
      obtain rfl : f = 5 := Option.some.inj ((show Tryz.prog.funcNamed Rows.fnSessionKeepRow.func = some 5 by kernel_rfl).symm.trans hf) |>.symm
      obtain rfl : fn = Tryz.f5 := (Option.some.inj (Tryz.func5.symm.trans hfn)).symm
      exact ⟨vC, fun j t ht => by
        rw [Tryz.params5] at ht
        have hm : t ∈ [28] := by simpa using Array.mem_of_getElem? ht
        have hall : ([28].all fun u => !Tryz.prog.wantsStandIn u) = true := by kernel_rfl
        exact (show Tryz.prog.wantsStandIn t = false by simpa using List.all_eq_true.1 hall t hm)⟩)
    cg

end Go.Proofs.YthgfdbfmnbgkaaaGreatDoor.fnSessionKeep
