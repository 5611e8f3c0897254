/-
  Joined by program (merge.py): RowL. It shows what the single texts show; conditions: none but those of each lemma.
-/
import Derived.Test.YtlhkmgbmnbkaeaaDoorWb
set_option linter.unusedVariables false
set_option linter.unusedSimpArgs false
set_option linter.unusedSectionVars false
/-
  FnExactMarkNear returns true for every input, and its arguments read as they did. Conditions: none.
-/
namespace Go.Proofs.YtlhkmgbmnbkaeaaDoor.fnExactMarkNear
open Go.ChangeShapes Go.WideShapes Go.ChangeAt Go.RowKit Vx
set_option linter.unusedVariables false

set_option maxHeartbeats 1000000 in
set_option maxRecDepth 100000 in
theorem lifted (os : Os) (started : os.Started) (H : Type) (enc : TypeId × Value → H) :
    ReturnsInHanded {} Tryd.checked os 8 .any (fun w args => (Rows.fnExactMarkNearSpec.pre enc Tryd.prog Tryd.f8 [] false w args ∧ laidMetH Tryd.prog Rows.fnExactMarkNearRow.laid w) ∧ sizedMet enc Tryd.prog Tryd.f8 (OpenSpec.ofChange Rows.fnExactMarkNearSpec) false w args)
      (Rows.fnExactMarkNearSpec.post enc Tryd.prog Tryd.f8 false true false false) := by
  refine returnsInHanded_of_change_and (C := Tryd.checked) (X := fun w _ => laidMetH Tryd.prog Rows.fnExactMarkNearRow.laid w) (fun _ _ _ hh h => h.of_heap hh) own_knob started (by kernel_rfl) Tryd.func8
    (ChangeSpec.witness_shaped (enc := enc) (C := Tryd.checked) (os := os) (X := fun w _ => laidMetH Tryd.prog Rows.fnExactMarkNearRow.laid w) false (World.laidAll Tryd.prog os Rows.fnExactMarkNearRow.laid) #[.agg #[.slice none 0 0, .slice none 0 0], .slice none 0 0, .int .i64 0] 8 (World.laidAll_os _ _ _)
      (World.shaped_of_ZipB (by kernel_rfl) (by kernel_rfl)) (by kernel_rfl) (by kernel_rfl) (by kernel_rfl)
      (by rw [MakeChecks.laidMetH_plain _ _ _ (by kernel_rfl)]; exact laidMet_laidAll _ (by kernel_rfl) (by kernel_rfl))) ?_
  intro W base args ds gs before hval0 hW _ _ _ _
  have hval : ∀ (j : Nat) t v, Tryd.f8.params[j]? = some t → args[j]? = some v → Value.okWide Tryd.prog W .any base t v := hval0
  have hW' := hW
  obtain ⟨p, q, hA0, hV, rfl, _, _⟩ := hW
  have hA : DataW.TrodAll enc Tryd.prog W 0 (fun _ => true) true Tryd.f8.params.toList args.toList ds p := hA0
  rw [Tryd.params8] at hA hval
  obtain ⟨v0, v1, v2, d0, d1, d2, p0, p1, p2, rfl, rfl, rfl, h0, h1, h2⟩ := trodAll_three hA
  obtain ⟨rfl, rfl⟩ := trodVars_none hV
  obtain ⟨l0, us0, f0, e0, u0, r0⟩ := open_repo (by kernel_rfl) (hval 0 _ v0 rfl rfl) h0
  obtain ⟨l1, f1, r1⟩ := open_heads (by kernel_rfl) (hval 1 _ v1 rfl rfl) h1
  obtain ⟨l2, e2⟩ := open_int0 (by kernel_rfl) (hval 2 _ v2 rfl rfl) h2
  simp only [List.append_nil] at hW'
  have hlt0 : ∀ y ∈ p0, y.block < W.heap.size := fun y hy => by simpa using hW'.lt y (by simp [hy])
  have hlt1 : ∀ y ∈ p1, y.block < W.heap.size := fun y hy => by simpa using hW'.lt y (by simp [hy])
  have hlt2 : ∀ y ∈ p2, y.block < W.heap.size := fun y hy => by simpa using hW'.lt y (by simp [hy])
  subst e0
  subst e2
  refine (law_calls fnExactMarkNear_has (x := (l0, l1, l2)) (W := W) (vs := [.agg us0.toArray, v1, .int .i64 l2]) trivial rfl rfl rfl (.agg r0 u0 (.sl r1 (.int .nil))) rfl (show (3 : Nat) ≤ 62 by decide) (fun _ => rfl)).mono fun e W' ⟨he, hb⟩ => ?_
  subst he
  exact ⟨_, rfl, _, _, _, [], _, [], hW', trodAll_mk1 (shut_bool (by kernel_rfl) _), trodAll_mk3 (Below.trod laidOut (by kernel_rfl) (of_decide_eq_true (by kernel_rfl)) h0 hb hlt0) (Below.trod laidOut (by kernel_rfl) (of_decide_eq_true (by kernel_rfl)) h1 hb hlt1) (Below.trod laidOut (by kernel_rfl) (of_decide_eq_true (by kernel_rfl)) h2 hb hlt2), rfl, hb.frame _, fun h => by cases h⟩

theorem jf1 : Tryd.pinned.checked.prog.inPlace 8 = Rows.fnExactMarkNearRow.inPlace := by kernel_rfl
theorem jf2 : Tryd.pinned.checked.prog.unfollowed 8 = Rows.fnExactMarkNearRow.unfollowed := by kernel_rfl
theorem jf3 : Tryd.pinned.checked.prog.recurses 8 = Rows.fnExactMarkNearRow.recurses := by kernel_rfl
theorem jf4 : Tryd.pinned.checked.prog.varsNamed 8 = Rows.fnExactMarkNearRow.named := by kernel_rfl
theorem jf : joinedFacts Tryd.pinned.checked.prog 8 Tryd.f8 Rows.fnExactMarkNearSpec Rows.fnExactMarkNearRow = true := by
  unfold joinedFacts
  rw [jf1, jf2, jf3, jf4]
  kernel_rfl
theorem jn : Tryd.pinned.checked.prog.funcNamed Rows.fnExactMarkNearRow.func = some 8 := by kernel_rfl
theorem ji : Tryd.f8.isInstance Tryd.pinned.checked.prog Rows.fnExactMarkNearRow.origin Rows.fnExactMarkNearRow.targs := of_decide_eq_true (by kernel_rfl)
theorem jw : Tryd.f8.isWrapper Tryd.pinned.checked.prog Rows.fnExactMarkNearRow.wrapper Rows.fnExactMarkNearRow.mainSum := by unfold Func.isWrapper; first | (rw [if_pos (by decide +kernel)]; kernel_rfl) | (rw [if_neg (by decide +kernel)]; exact ⟨rfl, rfl⟩)
theorem holds : Rows.FnExactMarkNearSaid :=
  OpenClaim.holds_of_wide 8 Tryd.f8 rfl rfl rfl rfl rfl rfl rfl ⟨rfl, rfl, rfl, rfl, rfl⟩ rfl rfl rfl rfl rfl jn Tryd.func8 jf ji jw
    (fun os started H enc _ => lifted os started H enc)

theorem card_holds : Rows.FnExactMarkNearCardSaid :=
  Claim7.holds_tied_plain_at .later [] Rows.fnExactMarkNearCard.laidKinds true Rows.fnExactMarkNearCard.stood.harness false holds (fun _ h => by cases h) (by kernel_rfl) (fun _ h => by cases h) fnExactMarkNear_row_tie rfl ⟨rfl, rfl⟩ (by kernel_rfl) rfl
    (fun f fn hf hfn => by
      obtain rfl : f = 8 := Option.some.inj ((show Tryd.prog.funcNamed Rows.fnExactMarkNearRow.func = some 8 by kernel_rfl).symm.trans hf) |>.symm
      obtain rfl : fn = Tryd.f8 := (Option.some.inj (Tryd.func8.symm.trans hfn)).symm
      exact ⟨by kernel_rfl, fun j t ht => by
        rw [Tryd.params8] at ht
        have hm : t ∈ [57, 55, 3] := by simpa using Array.mem_of_getElem? ht
        have hall : ([57, 55, 3].all fun u => !Tryd.prog.wantsStandIn u) = true := by kernel_rfl
        exact (show Tryd.prog.wantsStandIn t = false by simpa using List.all_eq_true.1 hall t hm)⟩)
    (by kernel_rfl)

end Go.Proofs.YtlhkmgbmnbkaeaaDoor.fnExactMarkNear
