/-
  Joined by program (merge.py): RowAW. It shows what the single texts show; conditions: none but those of each lemma.
-/
import Derived.Test.YtokdjnbcdokpjabGreatDoorWc
set_option linter.unusedVariables false
set_option linter.unusedSimpArgs false
set_option linter.unusedSectionVars false
/-
  FnExactRepoDo returns true for every input, and its arguments read as they did. Conditions: none.
-/
namespace Go.Proofs.YtokdjnbcdokpjabGreatDoor.fnExactRepoDo
open Go.ChangeShapes Go.WideShapes Go.ChangeAt Go.RowKit Vx
set_option linter.unusedVariables false

set_option maxHeartbeats 1000000 in
set_option maxRecDepth 100000 in
theorem lifted (os : Os) (started : os.Started) (H : Type) (enc : TypeId × Value -> H) :
    ReturnsInHanded {} Tryz.checked os 10 .any (fun w args => (Rows.fnExactRepoDoSpec.pre enc Tryz.prog Tryz.f10 [] false w args /\ laidMetH Tryz.prog Rows.fnExactRepoDoRow.laid w) /\ sizedMet enc Tryz.prog Tryz.f10 (OpenSpec.ofChange Rows.fnExactRepoDoSpec) false w args)
      (Rows.fnExactRepoDoSpec.post enc Tryz.prog Tryz.f10 false true false false) := by
  refine returnsInHanded_of_change_and (C := Tryz.checked) (X := fun w _ => laidMetH Tryz.prog Rows.fnExactRepoDoRow.laid w) (fun _ _ _ hh h => h.of_heap hh) c8l started (by kernel_rfl) Tryz.func10
    (ChangeSpec.witness_shaped (enc := enc) (C := Tryz.checked) (os := os) (X := fun w _ => laidMetH Tryz.prog Rows.fnExactRepoDoRow.laid w) false (World.laidAll Tryz.prog os Rows.fnExactRepoDoRow.laid) #[.agg #[.slice none 0 0, .slice none 0 0], .agg #[.int .i64 0, .string ⟨#[]⟩, .string ⟨#[]⟩, .string ⟨#[]⟩, .string ⟨#[]⟩, .int .i64 0, .slice none 0 0]] 8 (World.laidAll_os _ _ _)
      (World.shaped_of_ZipB (by kernel_rfl) (by kernel_rfl)) (by kernel_rfl) (by kernel_rfl) (by kernel_rfl)
      (by rw [MakeChecks.laidMetH_plain _ _ _ (by kernel_rfl)]; exact laidMet_laidAll _ (by kernel_rfl) (by kernel_rfl))) ?_
  intro W base args ds gs before hval0 hW _ _ _ _
  have hval : ∀ (j : Nat) t v, Tryz.f10.params[j]? = some t -> args[j]? = some v -> Value.okWide Tryz.prog W .any base t v := hval0
  have hW' := hW
  obtain ⟨p, q, hA0, hV, rfl, _, _⟩ := hW
  have hA : DataW.TrodAll enc Tryz.prog W 0 (fun _ => true) true Tryz.f10.params.toList args.toList ds p := hA0
  rw [Tryz.params10] at hA hval
  obtain ⟨v0, v1, d0, d1, p0, p1, rfl, rfl, rfl, h0, h1⟩ := trodAll_two hA
  obtain ⟨rfl, rfl⟩ := trodVars_none hV
  obtain ⟨l0, us0, f0, e0, u0, r0⟩ := c5v (by kernel_rfl) (hval 0 _ v0 rfl rfl) h0
  obtain ⟨l1, us1, f1, e1, u1, r1⟩ := d0H (by kernel_rfl) (hval 1 _ v1 rfl rfl) h1
  simp only [List.append_nil] at hW'
  have hlt0 : ∀ y ∈ p0, y.block < W.heap.size := fun y hy => by simpa using hW'.lt y (by simp [hy])
  have hlt1 : ∀ y ∈ p1, y.block < W.heap.size := fun y hy => by simpa using hW'.lt y (by simp [hy])
  subst e0
  subst e1
  refine (a9A (x := (l0, l1)) trivial (W := W) (vs := [.agg us0.toArray, .agg us1.toArray]) (.agg r0 u0 (.agg r1 u1 .nil)) (show (2 : Nat) <= 119 by decide)).mono fun e W' ⟨he, hb⟩ => ?_
  subst he
  exact ⟨_, rfl, _, _, _, [], _, [], hW', trodAll_mk1 (shut_bool (by kernel_rfl) _), trodAll_mk2 (Below.trod laidOut (by kernel_rfl) (of_decide_eq_true (by kernel_rfl)) h0 hb hlt0) (Below.trod laidOut (by kernel_rfl) (of_decide_eq_true (by kernel_rfl)) h1 hb hlt1), rfl, hb.frame _, fun h => by cases h⟩

theorem jf1 : Tryz.pinned.checked.prog.inPlace 10 = Rows.fnExactRepoDoRow.inPlace := by kernel_rfl
theorem jf2 : Tryz.pinned.checked.prog.unfollowed 10 = Rows.fnExactRepoDoRow.unfollowed := by kernel_rfl
theorem jf3 : Tryz.pinned.checked.prog.recurses 10 = Rows.fnExactRepoDoRow.recurses := by kernel_rfl
theorem jf4 : Tryz.pinned.checked.prog.varsNamed 10 = Rows.fnExactRepoDoRow.named := by kernel_rfl
theorem jf : joinedFacts Tryz.pinned.checked.prog 10 Tryz.f10 Rows.fnExactRepoDoSpec Rows.fnExactRepoDoRow = true := by
  unfold joinedFacts
  rw [jf1, jf2, jf3, jf4, d1U, d1X, d0f, d0d, d1V]
  kernel_rfl
theorem jn : Tryz.pinned.checked.prog.funcNamed Rows.fnExactRepoDoRow.func = some 10 := by kernel_rfl
theorem ji : Tryz.f10.isInstance Tryz.pinned.checked.prog Rows.fnExactRepoDoRow.origin Rows.fnExactRepoDoRow.targs := of_decide_eq_true (by kernel_rfl)
theorem jw : Tryz.f10.isWrapper Tryz.pinned.checked.prog Rows.fnExactRepoDoRow.wrapper Rows.fnExactRepoDoRow.mainSum := by unfold Func.isWrapper; first | (rw [if_pos (by decide +kernel)]; kernel_rfl) | (rw [if_neg (by decide +kernel)]; exact ⟨rfl, rfl⟩)
theorem holds : Rows.FnExactRepoDoSaid :=
  OpenClaim.holds_of_wide 10 Tryz.f10 rfl rfl rfl rfl rfl rfl rfl ⟨rfl, rfl, rfl, rfl, rfl⟩ rfl rfl rfl rfl rfl jn Tryz.func10 jf ji jw
    (fun os started H enc _ => lifted os started H enc)

theorem cw : Rows.fnExactRepoDoRow.wfByText (OpenSpec.ofChange Rows.fnExactRepoDoSpec) = true := by kernel_rfl
theorem cg : false = Rows.fnExactRepoDoRow.goesBy Tryz.pinned.checked.prog := by kernel_rfl
theorem card_holds : Rows.FnExactRepoDoCardSaid :=
  Claim7.holds_tied_plain_at .later [] Rows.fnExactRepoDoCard.laidKinds true Rows.fnExactRepoDoCard.stood.harness Rows.fnExactRepoDoCard.stood.looks holds (fun _ h => by cases h) cw (fun _ h => by cases h) fnExactRepoDo_row_tie rfl ⟨rfl, rfl⟩ d1W rfl
    (fun f fn hf hfn => by
      obtain rfl : f = 10 := Option.some.inj ((show Tryz.prog.funcNamed Rows.fnExactRepoDoRow.func = some 10 by kernel_rfl).symm.trans hf) |>.symm
      obtain rfl : fn = Tryz.f10 := (Option.some.inj (Tryz.func10.symm.trans hfn)).symm
      exact ⟨d0e, fun j t ht => by
        rw [Tryz.params10] at ht
        have hm : t ∈ [25, 76] := by simpa using Array.mem_of_getElem? ht
        have hall : ([25, 76].all fun u => !Tryz.prog.wantsStandIn u) = true := by kernel_rfl
        exact (show Tryz.prog.wantsStandIn t = false by simpa using List.all_eq_true.1 hall t hm)⟩)
    cg

end Go.Proofs.YtokdjnbcdokpjabGreatDoor.fnExactRepoDo
