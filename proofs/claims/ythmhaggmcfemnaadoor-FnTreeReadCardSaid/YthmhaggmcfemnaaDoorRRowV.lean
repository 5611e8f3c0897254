/-
  Joined by program (merge.py): RowV. It shows what the single texts show; conditions: none but those of each lemma.
-/
import Derived.Test.YthmhaggmcfemnaaDoorWb
set_option linter.unusedVariables false
set_option linter.unusedSimpArgs false
set_option linter.unusedSectionVars false
/-
  FnTreeRead returns true for every input, and its arguments read as they did. Conditions: none.
-/
namespace Go.Proofs.YthmhaggmcfemnaaDoor.fnTreeRead
open Go.ChangeShapes Go.WideShapes Go.ChangeAt Go.RowKit Vx
set_option linter.unusedVariables false

set_option maxHeartbeats 1000000 in
set_option maxRecDepth 100000 in
theorem lifted (os : Os) (started : os.Started) (H : Type) (enc : TypeId × Value → H) :
    ReturnsInHanded {} Tryd.checked os 7 .any (fun w args => (Rows.fnTreeReadSpec.pre enc Tryd.prog Tryd.f7 [] false w args ∧ laidMetH Tryd.prog Rows.fnTreeReadRow.laid w) ∧ sizedMet enc Tryd.prog Tryd.f7 (OpenSpec.ofChange Rows.fnTreeReadSpec) false w args)
      (Rows.fnTreeReadSpec.post enc Tryd.prog Tryd.f7 false true false false) := by
  refine returnsInHanded_of_change_and (C := Tryd.checked) (X := fun w _ => laidMetH Tryd.prog Rows.fnTreeReadRow.laid w) (fun _ _ _ hh h => h.of_heap hh) own_knob started (by kernel_rfl) Tryd.func7
    (ChangeSpec.witness_shaped (enc := enc) (C := Tryd.checked) (os := os) (X := fun w _ => laidMetH Tryd.prog Rows.fnTreeReadRow.laid w) false (World.laidAll Tryd.prog os Rows.fnTreeReadRow.laid) #[.slice none 0 0] 8 (World.laidAll_os _ _ _)
      (World.shaped_of_ZipB (by kernel_rfl) (by kernel_rfl)) (by kernel_rfl) (by kernel_rfl) (by kernel_rfl)
      (by rw [MakeChecks.laidMetH_plain _ _ _ (by kernel_rfl)]; exact laidMet_laidAll _ (by kernel_rfl) (by kernel_rfl))) ?_
  intro W base args ds gs before hval0 hW _ _ hL _
  have hval : ∀ (j : Nat) t v, Tryd.f7.params[j]? = some t → args[j]? = some v → Value.okWide Tryd.prog W .any base t v := hval0
  have hW' := hW
  obtain ⟨p, q, hA0, hV, rfl, _, _⟩ := hW
  have hA : DataW.TrodAll enc Tryd.prog W 0 (fun _ => true) true Tryd.f7.params.toList args.toList ds p := hA0
  rw [Tryd.params7] at hA hval
  obtain ⟨v0, d0, rfl, rfl, h0⟩ := trodAll_one hA
  obtain ⟨rfl, rfl⟩ := trodVars_none hV
  obtain ⟨l0, f0, r0⟩ := open_bytes (by kernel_rfl) (hval 0 _ v0 rfl rfl) h0
  simp only [List.append_nil] at hW'
  have hlt0 : ∀ y ∈ p, y.block < W.heap.size := fun y hy => by simpa using hW'.lt y (by simp [hy])
  refine (law_calls fnTreeRead_has (x := l0) (W := W) (vs := [v0]) trivial rfl rfl rfl (.sl r0 .nil) rfl (show (1 : Nat) ≤ 52 by decide) (fun _ => rfl) (laid_need (by kernel_rfl) (show laidMet Tryd.prog Rows.fnTreeReadRow.laid W by rw [← MakeChecks.laidMetH_plain _ _ _ (by kernel_rfl)]; exact hL))).mono fun e W' ⟨he, hb⟩ => ?_
  subst he
  exact ⟨_, rfl, _, _, _, [], _, [], hW', trodAll_mk1 (shut_bool (by kernel_rfl) _), trodAll_mk1 (Below.trod laidOut (by kernel_rfl) (of_decide_eq_true (by kernel_rfl)) h0 hb hlt0), rfl, hb.frame _, fun h => by cases h⟩

theorem jf1 : Tryd.pinned.checked.prog.inPlace 7 = Rows.fnTreeReadRow.inPlace := by kernel_rfl
theorem jf2 : Tryd.pinned.checked.prog.unfollowed 7 = Rows.fnTreeReadRow.unfollowed := by kernel_rfl
theorem jf3 : Tryd.pinned.checked.prog.recurses 7 = Rows.fnTreeReadRow.recurses := by kernel_rfl
theorem jf4 : Tryd.pinned.checked.prog.varsNamed 7 = Rows.fnTreeReadRow.named := by kernel_rfl
theorem jf : joinedFacts Tryd.pinned.checked.prog 7 Tryd.f7 Rows.fnTreeReadSpec Rows.fnTreeReadRow = true := by
  unfold joinedFacts
  rw [jf1, jf2, jf3, jf4]
  kernel_rfl
theorem jn : Tryd.pinned.checked.prog.funcNamed Rows.fnTreeReadRow.func = some 7 := by kernel_rfl
theorem ji : Tryd.f7.isInstance Tryd.pinned.checked.prog Rows.fnTreeReadRow.origin Rows.fnTreeReadRow.targs := of_decide_eq_true (by kernel_rfl)
theorem jw : Tryd.f7.isWrapper Tryd.pinned.checked.prog Rows.fnTreeReadRow.wrapper Rows.fnTreeReadRow.mainSum := by unfold Func.isWrapper; first | (rw [if_pos (by decide +kernel)]; kernel_rfl) | (rw [if_neg (by decide +kernel)]; exact ⟨rfl, rfl⟩)
theorem holds : Rows.FnTreeReadSaid :=
  OpenClaim.holds_of_wide 7 Tryd.f7 rfl rfl rfl rfl rfl rfl rfl ⟨rfl, rfl, rfl, rfl, rfl⟩ rfl rfl rfl rfl rfl jn Tryd.func7 jf ji jw
    (fun os started H enc _ => lifted os started H enc)

theorem card_holds : Rows.FnTreeReadCardSaid :=
  Claim7.holds_tied_plain_at .later [] Rows.fnTreeReadCard.laidKinds true Rows.fnTreeReadCard.stood.harness Rows.fnTreeReadCard.stood.looks holds (fun _ h => by cases h) (by kernel_rfl) (fun _ h => by cases h) fnTreeRead_row_tie rfl ⟨rfl, rfl⟩ (by kernel_rfl) rfl
    (fun f fn hf hfn => by
      obtain rfl : f = 7 := Option.some.inj ((show Tryd.prog.funcNamed Rows.fnTreeReadRow.func = some 7 by kernel_rfl).symm.trans hf) |>.symm
      obtain rfl : fn = Tryd.f7 := (Option.some.inj (Tryd.func7.symm.trans hfn)).symm
      exact ⟨by kernel_rfl, fun j t ht => by
        rw [Tryd.params7] at ht
        have hm : t ∈ [46] := by simpa using Array.mem_of_getElem? ht
        have hall : ([46].all fun u => !Tryd.prog.wantsStandIn u) = true := by kernel_rfl
        exact (show Tryd.prog.wantsStandIn t = false by simpa using List.all_eq_true.1 hall t hm)⟩)
    (by kernel_rfl)

end Go.Proofs.YthmhaggmcfemnaaDoor.fnTreeRead
