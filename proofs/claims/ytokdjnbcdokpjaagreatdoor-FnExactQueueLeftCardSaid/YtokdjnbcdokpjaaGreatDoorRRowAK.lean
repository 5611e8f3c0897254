/-
  Joined by program (merge.py): RowAK. It shows what the single texts show; conditions: none but those of each lemma.
-/
import Derived.Test.YtokdjnbcdokpjaaGreatDoorWc
set_option linter.unusedVariables false
set_option linter.unusedSimpArgs false
set_option linter.unusedSectionVars false
/-
  FnExactQueueLeft returns true for every input, and its arguments read as they did. Conditions: none.
-/
namespace Go.Proofs.YtokdjnbcdokpjaaGreatDoor.fnExactQueueLeft
open Go.ChangeShapes Go.WideShapes Go.ChangeAt Go.RowKit Vx
set_option linter.unusedVariables false

set_option maxHeartbeats 1000000 in
set_option maxRecDepth 100000 in
theorem lifted (os : Os) (started : os.Started) (H : Type) (enc : TypeId × Value -> H) :
    ReturnsInHanded {} Tryz.checked os 5 .any (fun w args => (Rows.fnExactQueueLeftSpec.pre enc Tryz.prog Tryz.f5 [] false w args /\ laidMetH Tryz.prog Rows.fnExactQueueLeftRow.laid w) /\ sizedMet enc Tryz.prog Tryz.f5 (OpenSpec.ofChange Rows.fnExactQueueLeftSpec) false w args)
      (Rows.fnExactQueueLeftSpec.post enc Tryz.prog Tryz.f5 false true false false) := by
  refine returnsInHanded_of_change_and (C := Tryz.checked) (X := fun w _ => laidMetH Tryz.prog Rows.fnExactQueueLeftRow.laid w) (fun _ _ _ hh h => h.of_heap hh) c4g started (by kernel_rfl) Tryz.func5
    (ChangeSpec.witness_shaped (enc := enc) (C := Tryz.checked) (os := os) (X := fun w _ => laidMetH Tryz.prog Rows.fnExactQueueLeftRow.laid w) false (World.laidAll Tryz.prog os Rows.fnExactQueueLeftRow.laid) #[.agg #[.slice none 0 0, .slice none 0 0], .string ⟨#[]⟩, .string ⟨#[]⟩, .slice none 0 0] 8 (World.laidAll_os _ _ _)
      (World.shaped_of_ZipB (by kernel_rfl) (by kernel_rfl)) (by kernel_rfl) (by kernel_rfl) (by kernel_rfl)
      (by rw [MakeChecks.laidMetH_plain _ _ _ (by kernel_rfl)]; exact laidMet_laidAll _ (by kernel_rfl) (by kernel_rfl))) ?_
  intro W base args ds gs before hval0 hW _ _ _ _
  have hval : ∀ (j : Nat) t v, Tryz.f5.params[j]? = some t -> args[j]? = some v -> Value.okWide Tryz.prog W .any base t v := hval0
  have hW' := hW
  obtain ⟨p, q, hA0, hV, rfl, _, _⟩ := hW
  have hA : DataW.TrodAll enc Tryz.prog W 0 (fun _ => true) true Tryz.f5.params.toList args.toList ds p := hA0
  rw [Tryz.params5] at hA hval
  obtain ⟨v0, v1, v2, v3, d0, d1, d2, d3, p0, p1, p2, p3, rfl, rfl, rfl, h0, h1, h2, h3⟩ := trodAll_four hA
  obtain ⟨rfl, rfl⟩ := trodVars_none hV
  obtain ⟨l0, us0, f0, e0, u0, r0⟩ := c1E (by kernel_rfl) (hval 0 _ v0 rfl rfl) h0
  obtain ⟨l1, e1, w1⟩ := b5d (by kernel_rfl) (hval 1 _ v1 rfl rfl) h1
  obtain ⟨l2, e2, w2⟩ := b5d (by kernel_rfl) (hval 2 _ v2 rfl rfl) h2
  obtain ⟨l3, f3, r3⟩ := open_strs (by kernel_rfl) (hval 3 _ v3 rfl rfl) h3
  simp only [List.append_nil, List.append_assoc] at hW'
  have hlt0 : ∀ y ∈ p0, y.block < W.heap.size := fun y hy => by simpa using hW'.lt y (by simp [hy])
  have hlt1 : ∀ y ∈ p1, y.block < W.heap.size := fun y hy => by simpa using hW'.lt y (by simp [hy])
  have hlt2 : ∀ y ∈ p2, y.block < W.heap.size := fun y hy => by simpa using hW'.lt y (by simp [hy])
  have hlt3 : ∀ y ∈ p3, y.block < W.heap.size := fun y hy => by simpa using hW'.lt y (by simp [hy])
  subst e0
  subst e1
  subst e2
  refine (c1n a7g (x := (l0, l1, l2, l3)) (W := W) (vs := [.agg us0.toArray, .string ⟨l1.toArray⟩, .string ⟨l2.toArray⟩, v3]) trivial rfl rfl rfl (.agg r0 u0 (.str w1 (.str w2 (.sl r3 .nil)))) rfl (show (4 : Nat) <= 108 by decide) (fun _ => rfl)).mono fun e W' ⟨he, hb⟩ => ?_
  subst he
  exact ⟨_, rfl, _, _, _, [], _, [], hW', trodAll_mk1 (shut_bool (by kernel_rfl) _), trodAll_mk4 (Below.trod laidOut (by kernel_rfl) (of_decide_eq_true (by kernel_rfl)) h0 hb hlt0) (Below.trod laidOut (by kernel_rfl) (of_decide_eq_true (by kernel_rfl)) h1 hb hlt1) (Below.trod laidOut (by kernel_rfl) (of_decide_eq_true (by kernel_rfl)) h2 hb hlt2) (Below.trod laidOut (by kernel_rfl) (of_decide_eq_true (by kernel_rfl)) h3 hb hlt3), rfl, hb.frame _, fun h => by cases h⟩

theorem jf1 : Tryz.pinned.checked.prog.inPlace 5 = Rows.fnExactQueueLeftRow.inPlace := by kernel_rfl
theorem jf2 : Tryz.pinned.checked.prog.unfollowed 5 = Rows.fnExactQueueLeftRow.unfollowed := by kernel_rfl
theorem jf3 : Tryz.pinned.checked.prog.recurses 5 = Rows.fnExactQueueLeftRow.recurses := by kernel_rfl
theorem jf4 : Tryz.pinned.checked.prog.varsNamed 5 = Rows.fnExactQueueLeftRow.named := by kernel_rfl
theorem jf : joinedFacts Tryz.pinned.checked.prog 5 Tryz.f5 Rows.fnExactQueueLeftSpec Rows.fnExactQueueLeftRow = true := by
  unfold joinedFacts
  rw [jf1, jf2, jf3, jf4, c7o, c7r, c5L, c5J, c7p]
  kernel_rfl
theorem jn : Tryz.pinned.checked.prog.funcNamed Rows.fnExactQueueLeftRow.func = some 5 := by kernel_rfl
theorem ji : Tryz.f5.isInstance Tryz.pinned.checked.prog Rows.fnExactQueueLeftRow.origin Rows.fnExactQueueLeftRow.targs := of_decide_eq_true (by kernel_rfl)
theorem jw : Tryz.f5.isWrapper Tryz.pinned.checked.prog Rows.fnExactQueueLeftRow.wrapper Rows.fnExactQueueLeftRow.mainSum := by unfold Func.isWrapper; first | (rw [if_pos (by decide +kernel)]; kernel_rfl) | (rw [if_neg (by decide +kernel)]; exact ⟨rfl, rfl⟩)
theorem holds : Rows.FnExactQueueLeftSaid :=
  OpenClaim.holds_of_wide 5 Tryz.f5 rfl rfl rfl rfl rfl rfl rfl ⟨rfl, rfl, rfl, rfl, rfl⟩ rfl rfl rfl rfl rfl jn Tryz.func5 jf ji jw
    (fun os started H enc _ => lifted os started H enc)

theorem cw : Rows.fnExactQueueLeftRow.wfByText (OpenSpec.ofChange Rows.fnExactQueueLeftSpec) = true := by kernel_rfl
theorem cg : false = Rows.fnExactQueueLeftRow.goesBy Tryz.pinned.checked.prog := by kernel_rfl
theorem card_holds : Rows.FnExactQueueLeftCardSaid :=
  Claim7.holds_tied_plain_at .later [] Rows.fnExactQueueLeftCard.laidKinds true Rows.fnExactQueueLeftCard.stood.harness Rows.fnExactQueueLeftCard.stood.looks holds (fun _ h => by cases h) cw (fun _ h => by cases h) fnExactQueueLeft_row_tie rfl ⟨rfl, rfl⟩ c7q rfl
    (fun f fn hf hfn => by
      obtain rfl : f = 5 := Option.some.inj ((show Tryz.prog.funcNamed Rows.fnExactQueueLeftRow.func = some 5 by kernel_rfl).symm.trans hf) |>.symm
      obtain rfl : fn = Tryz.f5 := (Option.some.inj (Tryz.func5.symm.trans hfn)).symm
      exact ⟨c5K, fun j t ht => by
        rw [Tryz.params5] at ht
        have hm : t ∈ [53, 9, 9, 35] := by simpa using Array.mem_of_getElem? ht
        have hall : ([53, 9, 9, 35].all fun u => !Tryz.prog.wantsStandIn u) = true := by kernel_rfl
        exact (show Tryz.prog.wantsStandIn t = false by simpa using List.all_eq_true.1 hall t hm)⟩)
    cg

end Go.Proofs.YtokdjnbcdokpjaaGreatDoor.fnExactQueueLeft
