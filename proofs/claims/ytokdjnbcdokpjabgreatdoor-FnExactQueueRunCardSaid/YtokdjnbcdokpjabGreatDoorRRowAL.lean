/-
  Joined by program (merge.py): RowAL. It shows what the single texts show; conditions: none but those of each lemma.
-/
import Derived.Test.YtokdjnbcdokpjabGreatDoorWc
set_option linter.unusedVariables false
set_option linter.unusedSimpArgs false
set_option linter.unusedSectionVars false
/-
  FnExactQueueRun returns true for every input, and its arguments read as they did. Conditions: none.
-/
namespace Go.Proofs.YtokdjnbcdokpjabGreatDoor.fnExactQueueRun
open Go.ChangeShapes Go.WideShapes Go.ChangeAt Go.RowKit Vx
set_option linter.unusedVariables false

set_option maxHeartbeats 1000000 in
set_option maxRecDepth 100000 in
theorem lifted (os : Os) (started : os.Started) (H : Type) (enc : TypeId × Value -> H) :
    ReturnsInHanded {} Tryz.checked os 3 .any (fun w args => (Rows.fnExactQueueRunSpec.pre enc Tryz.prog Tryz.f3 [] false w args /\ laidMetH Tryz.prog Rows.fnExactQueueRunRow.laid w) /\ sizedMet enc Tryz.prog Tryz.f3 (OpenSpec.ofChange Rows.fnExactQueueRunSpec) false w args)
      (Rows.fnExactQueueRunSpec.post enc Tryz.prog Tryz.f3 false true false false) := by
  refine returnsInHanded_of_change_and (C := Tryz.checked) (X := fun w _ => laidMetH Tryz.prog Rows.fnExactQueueRunRow.laid w) (fun _ _ _ hh h => h.of_heap hh) c5b started (by kernel_rfl) Tryz.func3
    (ChangeSpec.witness_shaped (enc := enc) (C := Tryz.checked) (os := os) (X := fun w _ => laidMetH Tryz.prog Rows.fnExactQueueRunRow.laid w) false (World.laidAll Tryz.prog os Rows.fnExactQueueRunRow.laid) #[.agg #[.slice none 0 0, .slice none 0 0], .string ⟨#[]⟩, .string ⟨#[]⟩, .slice none 0 0] 8 (World.laidAll_os _ _ _)
      (World.shaped_of_ZipB (by kernel_rfl) (by kernel_rfl)) (by kernel_rfl) (by kernel_rfl) (by kernel_rfl)
      (by rw [MakeChecks.laidMetH_plain _ _ _ (by kernel_rfl)]; exact laidMet_laidAll _ (by kernel_rfl) (by kernel_rfl))) ?_
  intro W base args ds gs before hval0 hW _ _ _ _
  have hval : ∀ (j : Nat) t v, Tryz.f3.params[j]? = some t -> args[j]? = some v -> Value.okWide Tryz.prog W .any base t v := hval0
  have hW' := hW
  obtain ⟨p, q, hA0, hV, rfl, _, _⟩ := hW
  have hA : DataW.TrodAll enc Tryz.prog W 0 (fun _ => true) true Tryz.f3.params.toList args.toList ds p := hA0
  rw [Tryz.params3] at hA hval
  obtain ⟨v0, v1, v2, v3, d0, d1, d2, d3, p0, p1, p2, p3, rfl, rfl, rfl, h0, h1, h2, h3⟩ := trodAll_four hA
  obtain ⟨rfl, rfl⟩ := trodVars_none hV
  obtain ⟨l0, us0, f0, e0, u0, r0⟩ := c2w (by kernel_rfl) (hval 0 _ v0 rfl rfl) h0
  obtain ⟨l1, e1, w1⟩ := b5u (by kernel_rfl) (hval 1 _ v1 rfl rfl) h1
  obtain ⟨l2, e2, w2⟩ := b5u (by kernel_rfl) (hval 2 _ v2 rfl rfl) h2
  obtain ⟨l3, f3, r3⟩ := open_strs (by kernel_rfl) (hval 3 _ v3 rfl rfl) h3
  simp only [List.append_nil, List.append_assoc] at hW'
  have hlt0 : ∀ y ∈ p0, y.block < W.heap.size := fun y hy => by simpa using hW'.lt y (by simp [hy])
  have hlt1 : ∀ y ∈ p1, y.block < W.heap.size := fun y hy => by simpa using hW'.lt y (by simp [hy])
  have hlt2 : ∀ y ∈ p2, y.block < W.heap.size := fun y hy => by simpa using hW'.lt y (by simp [hy])
  have hlt3 : ∀ y ∈ p3, y.block < W.heap.size := fun y hy => by simpa using hW'.lt y (by simp [hy])
  subst e0
  subst e1
  subst e2
  refine (a6D (x := (l0, l1, l2, l3)) trivial (W := W) (vs := [.agg us0.toArray, .string ⟨l1.toArray⟩, .string ⟨l2.toArray⟩, v3]) (.agg r0 u0 (.str w1 (.str w2 (.sl r3 .nil)))) (show (4 : Nat) <= 151 by decide)).mono fun e W' ⟨he, hb⟩ => ?_
  subst he
  exact ⟨_, rfl, _, _, _, [], _, [], hW', trodAll_mk1 (shut_bool (by kernel_rfl) _), trodAll_mk4 (Below.trod laidOut (by kernel_rfl) (of_decide_eq_true (by kernel_rfl)) h0 hb hlt0) (Below.trod laidOut (by kernel_rfl) (of_decide_eq_true (by kernel_rfl)) h1 hb hlt1) (Below.trod laidOut (by kernel_rfl) (of_decide_eq_true (by kernel_rfl)) h2 hb hlt2) (Below.trod laidOut (by kernel_rfl) (of_decide_eq_true (by kernel_rfl)) h3 hb hlt3), rfl, hb.frame _, fun h => by cases h⟩

theorem jf1 : Tryz.pinned.checked.prog.inPlace 3 = Rows.fnExactQueueRunRow.inPlace := by kernel_rfl
theorem jf2 : Tryz.pinned.checked.prog.unfollowed 3 = Rows.fnExactQueueRunRow.unfollowed := by kernel_rfl
theorem jf3 : Tryz.pinned.checked.prog.recurses 3 = Rows.fnExactQueueRunRow.recurses := by kernel_rfl
theorem jf4 : Tryz.pinned.checked.prog.varsNamed 3 = Rows.fnExactQueueRunRow.named := by kernel_rfl
theorem jf : joinedFacts Tryz.pinned.checked.prog 3 Tryz.f3 Rows.fnExactQueueRunSpec Rows.fnExactQueueRunRow = true := by
  unfold joinedFacts
  rw [jf1, jf2, jf3, jf4, c8q, c8t, c6M, c6K, c8r]
  kernel_rfl
theorem jn : Tryz.pinned.checked.prog.funcNamed Rows.fnExactQueueRunRow.func = some 3 := by kernel_rfl
theorem ji : Tryz.f3.isInstance Tryz.pinned.checked.prog Rows.fnExactQueueRunRow.origin Rows.fnExactQueueRunRow.targs := of_decide_eq_true (by kernel_rfl)
theorem jw : Tryz.f3.isWrapper Tryz.pinned.checked.prog Rows.fnExactQueueRunRow.wrapper Rows.fnExactQueueRunRow.mainSum := by unfold Func.isWrapper; first | (rw [if_pos (by decide +kernel)]; kernel_rfl) | (rw [if_neg (by decide +kernel)]; exact ⟨rfl, rfl⟩)
theorem holds : Rows.FnExactQueueRunSaid :=
  OpenClaim.holds_of_wide 3 Tryz.f3 rfl rfl rfl rfl rfl rfl rfl ⟨rfl, rfl, rfl, rfl, rfl⟩ rfl rfl rfl rfl rfl jn Tryz.func3 jf ji jw
    (fun os started H enc _ => lifted os started H enc)

theorem cw : Rows.fnExactQueueRunRow.wfByText (OpenSpec.ofChange Rows.fnExactQueueRunSpec) = true := by kernel_rfl
theorem cg : false = Rows.fnExactQueueRunRow.goesBy Tryz.pinned.checked.prog := by kernel_rfl
theorem card_holds : Rows.FnExactQueueRunCardSaid :=
  Claim7.holds_tied_plain_at .later [] Rows.fnExactQueueRunCard.laidKinds true Rows.fnExactQueueRunCard.stood.harness Rows.fnExactQueueRunCard.stood.looks holds (fun _ h => by cases h) cw (fun _ h => by cases h) fnExactQueueRun_row_tie rfl ⟨rfl, rfl⟩ c8s rfl
    (fun f fn hf hfn => by
      obtain rfl : f = 3 := Option.some.inj ((show Tryz.prog.funcNamed Rows.fnExactQueueRunRow.func = some 3 by kernel_rfl).symm.trans hf) |>.symm
      obtain rfl : fn = Tryz.f3 := (Option.some.inj (Tryz.func3.symm.trans hfn)).symm
      exact ⟨c6L, fun j t ht => by
        rw [Tryz.params3] at ht
        have hm : t ∈ [25, 9, 9, 26] := by simpa using Array.mem_of_getElem? ht
        have hall : ([25, 9, 9, 26].all fun u => !Tryz.prog.wantsStandIn u) = true := by kernel_rfl
        exact (show Tryz.prog.wantsStandIn t = false by simpa using List.all_eq_true.1 hall t hm)⟩)
    cg

end Go.Proofs.YtokdjnbcdokpjabGreatDoor.fnExactQueueRun
