/-
  Joined by program (merge.py): RowJ. It shows what the single texts show; conditions: none but those of each lemma.
-/
import Derived.Test.YtlhkmgbmnbkaeaaDoorWb
import Derived.Carry
set_option linter.unusedVariables false
set_option linter.unusedSimpArgs false
set_option linter.unusedSectionVars false
/-
  FnExactMarkPut returns true for every input, and its arguments read as they did. Conditions: none.
-/
namespace Go.Proofs.YtlhkmgbmnbkaeaaDoor.fnExactMarkPut
open Go.ChangeShapes Go.WideShapes Go.ChangeAt Go.RowKit Vx
set_option linter.unusedVariables false

set_option maxHeartbeats 1000000 in
set_option maxRecDepth 100000 in
theorem lifted (os : Os) (started : os.Started) (H : Type) (enc : TypeId × Value → H) :
    ReturnsInHanded {} Tryd.checked os 12 .any (fun w args => (Rows.fnExactMarkPutSpec.pre enc Tryd.prog Tryd.f12 [] false w args ∧ laidMetH Tryd.prog Rows.fnExactMarkPutRow.laid w) ∧ sizedMet enc Tryd.prog Tryd.f12 (OpenSpec.ofChange Rows.fnExactMarkPutSpec) false w args)
      (Rows.fnExactMarkPutSpec.post enc Tryd.prog Tryd.f12 false true false false) := by
  refine returnsInHanded_of_change_and (C := Tryd.checked) (X := fun w _ => laidMetH Tryd.prog Rows.fnExactMarkPutRow.laid w) (fun _ _ _ hh h => h.of_heap hh) own_knob started (by kernel_rfl) Tryd.func12
    (ChangeSpec.witness_shaped (enc := enc) (C := Tryd.checked) (os := os) (X := fun w _ => laidMetH Tryd.prog Rows.fnExactMarkPutRow.laid w) false (World.laidAll Tryd.prog os Rows.fnExactMarkPutRow.laid) #[.agg #[.slice none 0 0, .slice none 0 0], .slice none 0 0, .string ⟨#[]⟩, .int .i64 0] 8 (World.laidAll_os _ _ _)
      (World.shaped_of_ZipB (by kernel_rfl) (by kernel_rfl)) (by kernel_rfl) (by kernel_rfl) (by kernel_rfl)
      (by rw [MakeChecks.laidMetH_plain _ _ _ (by kernel_rfl)]; exact laidMet_laidAll _ (by kernel_rfl) (by kernel_rfl))) ?_
  intro W base args ds gs before hval0 hW _ _ _ _
  have hval : ∀ (j : Nat) t v, Tryd.f12.params[j]? = some t → args[j]? = some v → Value.okWide Tryd.prog W .any base t v := hval0
  have hW' := hW
  obtain ⟨p, q, hA0, hV, rfl, _, _⟩ := hW
  have hA : DataW.TrodAll enc Tryd.prog W 0 (fun _ => true) true Tryd.f12.params.toList args.toList ds p := hA0
  rw [Tryd.params12] at hA hval
  obtain ⟨v0, v1, v2, v3, d0, d1, d2, d3, p0, p1, p2, p3, rfl, rfl, rfl, h0, h1, h2, h3⟩ := trodAll_four hA
  obtain ⟨rfl, rfl⟩ := trodVars_none hV
  obtain ⟨l0, us0, f0, e0, u0, r0⟩ := open_repo (by kernel_rfl) (hval 0 _ v0 rfl rfl) h0
  obtain ⟨l1, f1, r1⟩ := open_heads (by kernel_rfl) (hval 1 _ v1 rfl rfl) h1
  obtain ⟨l2, e2, w2⟩ := open_str (by kernel_rfl) (hval 2 _ v2 rfl rfl) h2
  obtain ⟨l3, e3⟩ := open_int0 (by kernel_rfl) (hval 3 _ v3 rfl rfl) h3
  simp only [List.append_nil, List.append_assoc] at hW'
  have hlt0 : ∀ y ∈ p0, y.block < W.heap.size := fun y hy => by simpa using hW'.lt y (by simp [hy])
  have hlt1 : ∀ y ∈ p1, y.block < W.heap.size := fun y hy => by simpa using hW'.lt y (by simp [hy])
  have hlt2 : ∀ y ∈ p2, y.block < W.heap.size := fun y hy => by simpa using hW'.lt y (by simp [hy])
  have hlt3 : ∀ y ∈ p3, y.block < W.heap.size := fun y hy => by simpa using hW'.lt y (by simp [hy])
  subst e0
  subst e2
  subst e3
  refine (law_calls fnExactMarkPut_has (x := (l0, l1, ⟨l2, l3⟩)) (W := W) (vs := [.agg us0.toArray, v1, .string ⟨l2.toArray⟩, .int .i64 l3]) trivial rfl rfl rfl (.agg r0 u0 (.sl r1 (.str w2 (.int .nil)))) rfl (show (4 : Nat) ≤ 132 by decide) (fun _ => rfl)).mono fun e W' ⟨he, hb⟩ => ?_
  subst he
  exact ⟨_, rfl, _, _, _, [], _, [], hW', trodAll_mk1 (shut_bool (by kernel_rfl) _), trodAll_mk4 (Below.trod laidOut (by kernel_rfl) (of_decide_eq_true (by kernel_rfl)) h0 hb hlt0) (Below.trod laidOut (by kernel_rfl) (of_decide_eq_true (by kernel_rfl)) h1 hb hlt1) (Below.trod laidOut (by kernel_rfl) (of_decide_eq_true (by kernel_rfl)) h2 hb hlt2) (Below.trod laidOut (by kernel_rfl) (of_decide_eq_true (by kernel_rfl)) h3 hb hlt3), rfl, hb.frame _, fun h => by cases h⟩

theorem jf1 : Tryd.pinned.checked.prog.inPlace 12 = Rows.fnExactMarkPutRow.inPlace := by kernel_rfl
theorem jf2 : Tryd.pinned.checked.prog.unfollowed 12 = Rows.fnExactMarkPutRow.unfollowed := by kernel_rfl
theorem jf3 : Tryd.pinned.checked.prog.recurses 12 = Rows.fnExactMarkPutRow.recurses := by kernel_rfl
theorem jf4 : Tryd.pinned.checked.prog.varsNamed 12 = Rows.fnExactMarkPutRow.named := by kernel_rfl
theorem jf : joinedFacts Tryd.pinned.checked.prog 12 Tryd.f12 Rows.fnExactMarkPutSpec Rows.fnExactMarkPutRow = true := by
  unfold joinedFacts
  rw [jf1, jf2, jf3, jf4]
  kernel_rfl
theorem jn : Tryd.pinned.checked.prog.funcNamed Rows.fnExactMarkPutRow.func = some 12 := by kernel_rfl
theorem ji : Tryd.f12.isInstance Tryd.pinned.checked.prog Rows.fnExactMarkPutRow.origin Rows.fnExactMarkPutRow.targs := of_decide_eq_true (by kernel_rfl)
theorem jw : Tryd.f12.isWrapper Tryd.pinned.checked.prog Rows.fnExactMarkPutRow.wrapper Rows.fnExactMarkPutRow.mainSum := by unfold Func.isWrapper; first | (rw [if_pos (by decide +kernel)]; kernel_rfl) | (rw [if_neg (by decide +kernel)]; exact ⟨rfl, rfl⟩)
theorem holds : Rows.FnExactMarkPutSaid :=
  OpenClaim.holds_of_wide 12 Tryd.f12 rfl rfl rfl rfl rfl rfl rfl ⟨rfl, rfl, rfl, rfl, rfl⟩ rfl rfl rfl rfl rfl jn Tryd.func12 jf ji jw
    (fun os started H enc _ => lifted os started H enc)

theorem card_holds : Rows.FnExactMarkPutCardSaid :=
  Claim7.holds_tied_plain_at .later [] Rows.fnExactMarkPutCard.laidKinds true Rows.fnExactMarkPutCard.stood.harness false holds (fun _ h => by cases h) (by kernel_rfl) (fun _ h => by cases h) fnExactMarkPut_row_tie rfl ⟨rfl, rfl⟩ (by kernel_rfl) rfl
    (fun f fn hf hfn => by
      obtain rfl : f = 12 := Option.some.inj ((show Tryd.prog.funcNamed Rows.fnExactMarkPutRow.func = some 12 by kernel_rfl).symm.trans hf) |>.symm
      obtain rfl : fn = Tryd.f12 := (Option.some.inj (Tryd.func12.symm.trans hfn)).symm
      exact ⟨by kernel_rfl, fun j t ht => by
        rw [Tryd.params12] at ht
        have hm : t ∈ [57, 55, 9, 3] := by simpa using Array.mem_of_getElem? ht
        have hall : ([57, 55, 9, 3].all fun u => !Tryd.prog.wantsStandIn u) = true := by kernel_rfl
        exact (show Tryd.prog.wantsStandIn t = false by simpa using List.all_eq_true.1 hall t hm)⟩)
    (by kernel_rfl)

end Go.Proofs.YtlhkmgbmnbkaeaaDoor.fnExactMarkPut
