/-
  Joined by program (merge.py): RowBJ. It shows what the single texts show; conditions: none but those of each lemma.
-/
import Derived.Test.YthgfdbfmnbgkaaaGreatDoorWd
set_option linter.unusedVariables false
set_option linter.unusedSimpArgs false
set_option linter.unusedSectionVars false
/-
  FnSession returns true for every input, and its arguments read as they did. Conditions: none.
-/
namespace Go.Proofs.YthgfdbfmnbgkaaaGreatDoor.fnSession
open Go.ChangeShapes Go.WideShapes Go.ChangeAt Go.RowKit Vx
set_option linter.unusedVariables false

set_option maxHeartbeats 1000000 in
set_option maxRecDepth 100000 in
theorem lifted (os : Os) (started : os.Started) (H : Type) (enc : TypeId × Value -> H) :
    ReturnsInHanded {} Tryz.checked os 4 .any (fun w args => (Rows.fnSessionSpec.pre enc Tryz.prog Tryz.f4 [] false w args /\ laidMetH Tryz.prog Rows.fnSessionRow.laid w) /\ sizedMet enc Tryz.prog Tryz.f4 (OpenSpec.ofChange Rows.fnSessionSpec) false w args)
      (Rows.fnSessionSpec.post enc Tryz.prog Tryz.f4 false true false false) := by
  refine returnsInHanded_of_change_and (C := Tryz.checked) (X := fun w _ => laidMetH Tryz.prog Rows.fnSessionRow.laid w) (fun _ _ _ hh h => h.of_heap hh) xb started (by kernel_rfl) Tryz.func4
    (ChangeSpec.witness_shaped (enc := enc) (C := Tryz.checked) (os := os) (X := fun w _ => laidMetH Tryz.prog Rows.fnSessionRow.laid w) false (World.laidAll Tryz.prog os Rows.fnSessionRow.laid) #[.slice none 0 0, .slice none 0 0] 8 (World.laidAll_os _ _ _)
      (World.shaped_of_ZipB (by kernel_rfl) (by kernel_rfl)) (by kernel_rfl) (by kernel_rfl) (by kernel_rfl)
      (by rw [MakeChecks.laidMetH_plain _ _ _ (by kernel_rfl)]; exact laidMet_laidAll _ (by kernel_rfl) (by kernel_rfl))) ?_
  intro W base args ds gs before hval0 hW _ _ hL _
  have hval : ∀ (j : Nat) t v, Tryz.f4.params[j]? = some t -> args[j]? = some v -> Value.okWide Tryz.prog W .any base t v := hval0
  have hW' := hW
  obtain ⟨p, q, hA0, hV, rfl, _, _⟩ := hW
  have hA : DataW.TrodAll enc Tryz.prog W 0 (fun _ => true) true Tryz.f4.params.toList args.toList ds p := hA0
  rw [Tryz.params4] at hA hval
  obtain ⟨v0, v1, d0, d1, p0, p1, rfl, rfl, rfl, h0, h1⟩ := trodAll_two hA
  obtain ⟨rfl, rfl⟩ := trodVars_none hV
  obtain ⟨l0, f0, r0⟩ := w8 (by kernel_rfl) (hval 0 _ v0 rfl rfl) h0
  obtain ⟨l1, f1, r1⟩ := w8 (by kernel_rfl) (hval 1 _ v1 rfl rfl) h1
  simp only [List.append_nil] at hW'
  have hlt0 : ∀ y ∈ p0, y.block < W.heap.size := fun y hy => by simpa using hW'.lt y (by simp [hy])
  have hlt1 : ∀ y ∈ p1, y.block < W.heap.size := fun y hy => by simpa using hW'.lt y (by simp [hy])
  refine (wH Hr (x := (l0, l1)) (W := W) (vs := [v0, v1]) trivial rfl rfl rfl (.sl r0 (.sl r1 .nil)) rfl (show (2 : Nat) <= 48 by decide) (fun _ => rfl) (wG (by kernel_rfl) (show laidMet Tryz.prog Rows.fnSessionRow.laid W by rw [<- MakeChecks.laidMetH_plain _ _ _ (by kernel_rfl)]; exact hL))).mono fun e W' ⟨he, hb⟩ => ?_
  subst he
  exact ⟨_, rfl, _, _, _, [], _, [], hW', trodAll_mk1 (shut_bool (by kernel_rfl) _), trodAll_mk2 (Below.trod laidOut (by kernel_rfl) (of_decide_eq_true (by kernel_rfl)) h0 hb hlt0) (Below.trod laidOut (by kernel_rfl) (of_decide_eq_true (by kernel_rfl)) h1 hb hlt1), rfl, hb.frame _, fun h => by cases h⟩

theorem jf1 : Tryz.pinned.checked.prog.inPlace 4 = Rows.fnSessionRow.inPlace := by kernel_rfl
theorem jf2 : Tryz.pinned.checked.prog.unfollowed 4 = Rows.fnSessionRow.unfollowed := by kernel_rfl
theorem jf3 : Tryz.pinned.checked.prog.recurses 4 = Rows.fnSessionRow.recurses := by kernel_rfl
theorem jf4 : Tryz.pinned.checked.prog.varsNamed 4 = Rows.fnSessionRow.named := by kernel_rfl
theorem jf : joinedFacts Tryz.pinned.checked.prog 4 Tryz.f4 Rows.fnSessionSpec Rows.fnSessionRow = true := by
  unfold joinedFacts
  rw [jf1, jf2, jf3, jf4, vz, vE, vF, vv, vA]
  kernel_rfl
theorem jn : Tryz.pinned.checked.prog.funcNamed Rows.fnSessionRow.func = some 4 := by kernel_rfl
theorem ji : Tryz.f4.isInstance Tryz.pinned.checked.prog Rows.fnSessionRow.origin Rows.fnSessionRow.targs := of_decide_eq_true (by kernel_rfl)
theorem jw : Tryz.f4.isWrapper Tryz.pinned.checked.prog Rows.fnSessionRow.wrapper Rows.fnSessionRow.mainSum := by unfold Func.isWrapper; first | (rw [if_pos (by decide +kernel)]; kernel_rfl) | (rw [if_neg (by decide +kernel)]; exact ⟨rfl, rfl⟩)
theorem holds : Rows.FnSessionSaid :=
  OpenClaim.holds_of_wide 4 Tryz.f4 rfl rfl rfl rfl rfl rfl rfl ⟨rfl, rfl, rfl, rfl, rfl⟩ rfl rfl rfl rfl rfl jn Tryz.func4 jf ji jw
    (fun os started H enc _ => lifted os started H enc)

theorem cw : Rows.fnSessionRow.wfByText (OpenSpec.ofChange Rows.fnSessionSpec) = true := by kernel_rfl
theorem cg : false = Rows.fnSessionRow.goesBy Tryz.pinned.checked.prog := by kernel_rfl
theorem card_holds : Rows.FnSessionCardSaid :=
  Claim7.holds_tied_plain_at .later [] Rows.fnSessionCard.laidKinds true Rows.fnSessionCard.stood.harness Rows.fnSessionCard.stood.looks holds (fun _ h => by cases h) cw (fun _ h => by cases h) fnSession_row_tie rfl ⟨rfl, rfl⟩ vD rfl
    (fun f fn hf hfn => by
      obtain rfl : f = 4 := Option.some.inj ((show Tryz.prog.funcNamed Rows.fnSessionRow.func = some 4 by kernel_rfl).symm.trans hf) |>.symm
      obtain rfl : fn = Tryz.f4 := (Option.some.inj (Tryz.func4.symm.trans hfn)).symm
      exact ⟨vC, fun j t ht => by
        rw [Tryz.params4] at ht
        have hm : t ∈ [28, 28] := by simpa using Array.mem_of_getElem? ht
        have hall : ([28, 28].all fun u => !Tryz.prog.wantsStandIn u) = true := by kernel_rfl
        exact (show Tryz.prog.wantsStandIn t = false by simpa using List.all_eq_true.1 hall t hm)⟩)
    cg

end Go.Proofs.YthgfdbfmnbgkaaaGreatDoor.fnSession
