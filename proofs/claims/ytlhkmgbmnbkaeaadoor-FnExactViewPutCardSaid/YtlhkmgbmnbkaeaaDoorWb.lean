/-
  Joined by program (merge.py): Cu, Ec, Ed, Fa, Fb, Ga, Gb, Gc, Gd, RowK. It shows what the single texts show; conditions: none but those of each lemma.
-/
import Derived.Test.YtlhkmgbmnbkaeaaDoorWa
import Derived.Lib.Walk
import Derived.Lib.SliceRun
import Derived.Lib.JoinLaws
import Derived.Lib.AppendZeros
import Derived.Lib.AppendZerosOnto
import Derived.Lib.Overlaps
import Derived.Laws.Externs
import Derived.Laws.IdiomCopy
import Derived.Laws.NewBlocks
import Derived.Shelf.RegionOpenPlain
import Derived.Test.YtlhkmgbmnbkaeaaDoorRows
import Derived.Test.YtlhkmgbmnbkaeaaDoorCards
import Derived.Test.YtlhkmgbmnbkaeaaDoorTie
import Derived.ProofKit
import Derived.OpenShut
import Derived.ShutString
import Derived.Lay
import Derived.LaidMore
import Derived.SevenTiedAt
set_option linter.unusedVariables false
set_option linter.unusedSimpArgs false
set_option linter.unusedSectionVars false
/-
  Contracts: ViewOf (the reference's), marks looked for in trees; the law FnExactViewOf.
-/
namespace Go.Proofs.YtlhkmgbmnbkaeaaDoor
namespace Vx
open Go.RowKit
set_option maxRecDepth 8000

def viewOfS (t : List FileD) (l : List Str) : List FileD := if treeS t && viewS l then filB (fun f => in25 l f.path) t else []
def cViewOfS : Con := .fn 40 (List FileD × List Str) (fun a => [.sl true 2 (eFiles a.1), .sl true 1 (eStrs a.2)]) (fun _ => True) (fun a => .own 8 2 (eFiles (viewOfS a.1 a.2))) (fun a => ownFiles 8 (viewOfS a.1 a.2))
set_option maxHeartbeats 4000000 in
theorem viewOfS_has : Has Tryd.prog 29 cViewOfS := by
  refine has_walk mixed tTab_ok (l := [(72, cL4Ok), (85, cL25Paths), (86, cL4Copy), (87, cL25In)]) (HasL.cons l4Ok_has (HasL.cons l25Paths_has (HasL.cons l4Copy_has (HasL.cons l25In_has HasL.nil)))) [0, 1, 4, 5, 6, 7] ((fun a n (_ : Nat) => (fun a _ => ⟨Nat, fun i => ⟨[(1, true, .sl true 1 (eStrs a.2)), (4, true, .nil), (5, true, .own 9 2 (eFiles (filB (fun f => in25 a.2 f.path) (a.1.take i)))), (6, true, .own 10 2 (goneR (fun f => in25 a.2 f.path) a.1 i)), (7, true, .int .i64 i)], [(9, .own 32 2 true (eFiles (filB (fun f => in25 a.2 f.path) (a.1.take i)))), (10, .own 32 2 true (goneR (fun f => in25 a.2 f.path) a.1 i))]⟩, fun i => i ≤ a.1.length ∧ treeS a.1 = true ∧ viewS a.2 = true, fun i => a.1.length - i⟩) a n)) [37] Tryd.func29 (by kernel_rfl) (code := _) (by unfold Tryd.f29; rfl) (by kernel_rfl) (by decide) (fun _ => ⟨(), trivial⟩) (by intro h; first | exact fun _ => rfl | cases h) (by kernel_rfl) ?_
  intro a ha
  obtain ⟨t, l⟩ := a
  have h1 := treeS_le t
  simp -implicitDefEqProofs [vc_skip, extOf, vc_seq, vc_cond, vc_block, vc_exit, vc_ret, vc_region, vc_regionD, vc_loop, kSeq_normal, kSeq_ret, kSeq_exit, kBlock_normal, kBlock_ret, kBlock_exit, kLoop_normal, kLoop_ret, kLoop_exit, kCond_bool, kNorm_app, vcOps_nil, vcOps_cons, kOps_app, kStep_some, kStep_none, vcDL_nil, vcDL_cons, kOpsD_app, kStepD_true, kStepD_false, kStepC_some, kStepC_none, kMv_app, act3_store, act3_call, act3_bs, kAct_app, kSt2_app, stealSlots, stealL, stealOne, subIn, AV.stolen, act_store, act_bs, act_append, act_call, kSet_app, kSet2_app, kSetG_app, kSetG_app0, kStore_ptr, kStore_eptr, kCallW_some, kCallC_some, kCall_some, wk_T, wk_n, wk_keep, wk_inv, wk_act, wk_dr, wk_le, aCalm, wantC, dstOk, calm, aCallK, aCall3K, subOf, subRep, aCall2K, apnd, bsMove, putBox, putOwn, partAV, mvL, AV.mv, AV.base, AV.moved, AV.src, TI.flat, apSize, pickAV, St.val, St.cond, St.fn, St.next, St.set, St.trim, wipe_eq, wipeE_app, wipeM_app, pickEnv, get?, cGet, upd_app, withPuts, killAll, rm, freshP, Oper.hnd, Sc.st, ofConst, constOk, lenAV, elemLen, loadAV, ldL, ld1, fieldAddrAV, indexAddrAV, sliceAV, convAV, buildAV, fillAV, fieldAV, Out.of, binAV, AV.rows, AV.one, AV.cells, AV.deepOk, AV.toD, toDs, partRows, partRowsM, partsDeep, TK.zeroAV, TK.zeroD, byteOf, inR, Op.operands, Call.operands, passVs, passV, passL, pass1, passB, pasVs, pasV, pasL, pas1, ownsOk, okHs, okHs2, okFin, finOk2, rho, over, backRes, backAV, backAV1, backBlk, putBack, back2, back2_V, back2_1, m2, AV.wipe, AV.wipeV, AV.wipe1, Blk.wipe, AV.hs, AV.hs.hsL, alOps, Con.start2, Con.pk, bodyQ, fini, resAV, resA, firstId, Sc.from, renEnv, renT, renV, renVs, renL, ren1, renBox, renOwn, okRen, clOf, actB, setRow, flatRows, flatD, noInv, shr_nil, shr_some, kStepF_some, shareL, AV.viewed, AV.viewed1, cViewOfS, Con.fn, tTab, cL4Ok, cL25Paths, cL4Copy, cL25In]
  try dsimp only
  generalize hp : (fun f : FileD => in25 l f.path) = p
  have hpv : ∀ f : FileD, in25 l f.path = p f := fun f => by rw [← hp]
  have hI : ∀ x, treeS t = true → viewS l = true → x = filB p t → viewOfS t l = x := fun x a b c => by unfold viewOfS; rw [a, b, hp, c]; rfl
  have hF1 : treeS t = false → viewOfS t l = [] := fun h => by unfold viewOfS; rw [h]; rfl
  have hF2 : viewS l = false → viewOfS t l = [] := fun h => by unfold viewOfS; rw [h]; simp
  refine ⟨hF1, fun hT => ⟨hF2, fun hV => ⟨⟨by have := h1 hT; omega, fun f hf => by have := (h1 hT).2 f hf; omega⟩, ⟨0, by simp [goneR_zero, fil_nil, hT, hV]⟩, fun i hi _ _ _ => ⟨fun hlt => ?_, fun hge => ?_⟩⟩⟩⟩
  · have g2 := goneR_len p t i
    rw [g2] at hlt
    have g1 := goneR_get (p := p) hlt
    have g3 := fil_le p t i
    have g4 := (h1 hT).1
    have g5 : (goneR p t i)[i]'(by rw [g2]; exact hlt) = eFile t[i] := by
      have := g1
      rw [List.getElem?_eq_getElem (by rw [g2]; exact hlt)] at this
      exact Option.some.inj this
    simp [g1, g5, g2, eFile, D.asStr, D.asRows, hlt, and_assoc, hpv]
    refine ⟨fun hh => ⟨by omega, by omega, by omega, by omega, fun _ _ => ?_⟩, fun hh => ⟨by omega, by omega, fun _ _ => ?_⟩⟩
    · have e1 := fil_hit (p := p) hlt hh
      have e2 := goneR_hit (p := p) hlt hh
      have e3 : eFiles (filB p (t.take (i + 1))) = eFiles (filB p (t.take i)) ++ [[D.str t[i].path, D.sl 9 1 (eStrs t[i].text)]] := by rw [e1, eFiles_append]; rfl
      exact ⟨i + 1, e3, e2.symm, by omega, e3.symm, e2, by omega, hT, hV, by omega⟩
    · have e1 := fil_miss (p := p) hlt hh
      have e2 := goneR_miss (p := p) hlt hh
      exact ⟨i + 1, e1, e2, by omega, e1.symm, e2.symm, by omega, hT, hV, by omega⟩
  · rw [goneR_len] at hge
    have e1 := hI (filB p (t.take i)) hT hV (by rw [List.take_of_length_le hge])
    exact ⟨e1, e1.symm⟩

theorem kE_marks (t : List FileD) (k j : Int) : kE (markFs t k) j = kE t j := by
  have : nLines (markFs t k) = nLines t := by
    unfold nLines markFs
    rw [List.map_map]
    have : ((fun f : FileD => f.text.length) ∘ fun i : Nat => (⟨markS (kE (t.take i) k), markL (t.getD i default).text.length (kE (t.take i) k + 1)⟩ : FileD)) = fun i => (t.getD i default).text.length := by
      funext i; simp [markL_len]
    rw [this]
    congr 1
    apply List.ext_getElem (by simp)
    intro i h1 h2
    simp at h1
    simp [h1]
  unfold kE
  rw [this, markFs_len]
theorem markFs_take (t : List FileD) (k : Int) (i : Nat) (h : i ≤ t.length) : markFs (t.take i) k = (markFs t k).take i := by
  unfold markFs
  rw [← List.map_take, List.take_range, List.length_take, Nat.min_comm]
  rw [Nat.min_comm]
  apply List.map_congr_left
  intro j hj
  have hj : j < i := by simp at hj; omega
  rw [List.take_take, Nat.min_eq_left (by omega)]
  simp [List.getElem?_take, hj]
theorem markFs_same (t : List FileD) (k : Int) : markFs (markFs t k) k = markFs t k := by
  show (List.range (markFs t k).length).map _ = (List.range t.length).map _
  rw [markFs_len]
  apply List.map_congr_left
  intro i hi
  have hi : i < t.length := by simpa using hi
  rw [← markFs_take t k i (by omega), kE_marks]
  have : ((markFs t k).getD i default).text.length = (t.getD i default).text.length := by simp [markFs, hi, markL_len]
  rw [this]

def heldFs (t : List FileD) (k : Int) : Int := if t = markFs t k then kE t k else -1
theorem heldFs_mark (t : List FileD) (k : Int) : heldFs (markFs t k) k = kE t k := by
  unfold heldFs
  rw [markFs_same, if_pos rfl, kE_marks]
def cHeldFileS : Con := .fn 32 (List FileD × Int) (fun a => [.sl true 2 (eFiles a.1), .int .i64 a.2]) (fun a => 0 ≤ a.2 ∧ kE a.1 a.2 ≤ 1152921504606846976) (fun a => .int .i64 (heldFs a.1 a.2)) (fun _ => [])
theorem heldF_get {t : List FileD} {k : Int} {i : Nat} (h : i < t.length) : (markFs t k)[i]'(by rw [markFs_len]; exact h) = ⟨markS (kE (t.take i) k), markL t[i].text.length (kE (t.take i) k + 1)⟩ := by simp [markFs, h]
theorem heldF_miss {t : List FileD} {k : Int} {i : Nat} (h : i < t.length) (h2 : t[i].path ≠ markS (kE (t.take i) k) ∨ t[i].text ≠ markL t[i].text.length (kE (t.take i) k + 1)) : heldFs t k = -1 := by
  unfold heldFs
  rw [if_neg]
  intro h3
  have : t[i]? = (markFs t k)[i]? := by rw [← h3]
  rw [List.getElem?_eq_getElem h, List.getElem?_eq_getElem (by rw [markFs_len]; exact h), heldF_get h] at this
  have := Option.some.inj this
  rcases h2 with h2 | h2
  · exact h2 (congrArg FileD.path this)
  · exact h2 (congrArg FileD.text this)
theorem heldF_step {t : List FileD} {k : Int} {i : Nat} (h : i < t.length) (h1 : t.take i = (markFs t k).take i) (h2 : t[i].path = markS (kE (t.take i) k)) (h3 : t[i].text = markL t[i].text.length (kE (t.take i) k + 1)) : t.take (i + 1) = (markFs t k).take (i + 1) := by
  rw [take_succ' h, take_succ' (by rw [markFs_len]; exact h), heldF_get h, ← h1, ← h2, ← h3]
theorem heldF_end {t : List FileD} {k : Int} {i : Nat} (h : t.length ≤ i) (h1 : t.take i = (markFs t k).take i) : heldFs t k = kE (t.take i) k := by
  rw [List.take_of_length_le h, List.take_of_length_le (by rw [markFs_len]; exact h)] at h1
  unfold heldFs
  rw [if_pos h1, List.take_of_length_le h]
set_option maxHeartbeats 4000000 in
theorem heldFileS_has : Has Tryd.prog 41 cHeldFileS := by
  refine has_walk mixed tTab_ok (l := [(92, cMarkText), (93, cHeldStringS)]) (HasL.cons markText_has (HasL.cons heldStringS_has HasL.nil)) [0, 1, 4, 5] ((fun a n (_ : Nat) => (fun a _ => ⟨Nat, fun i => ⟨[(0, true, .sl true 2 (eFiles a.1)), (1, true, .int .i64 (kE (a.1.take i) a.2)), (4, true, .int .i64 0), (5, true, .int .i64 i)], []⟩, fun i => i ≤ a.1.length ∧ a.1.take i = (markFs a.1 a.2).take i, fun i => a.1.length - i⟩) a n)) [] Tryd.func41 (by kernel_rfl) (code := _) (by unfold Tryd.f41; rfl) (by kernel_rfl) (by decide) (fun _ => ⟨(), trivial⟩) (by intro h; first | exact fun _ => rfl | cases h) (by kernel_rfl) ?_
  intro a ha
  obtain ⟨t, k⟩ := a
  obtain ⟨q1, q2⟩ : 0 ≤ k ∧ kE t k ≤ 1152921504606846976 := ha
  have e1 := fun i => @heldF_miss t k i
  have e2 := fun i => @heldF_step t k i
  have e3 := fun i => @heldF_end t k i
  have e6 := fun i => @kE_step t k i
  have e7 := fun i => @kE_le t k i
  have e8 := kE_zero k
  simp -implicitDefEqProofs [vc_skip, extOf, vc_seq, vc_cond, vc_block, vc_exit, vc_ret, vc_region, vc_regionD, vc_loop, kSeq_normal, kSeq_ret, kSeq_exit, kBlock_normal, kBlock_ret, kBlock_exit, kLoop_normal, kLoop_ret, kLoop_exit, kCond_bool, kNorm_app, vcOps_nil, vcOps_cons, kOps_app, kStep_some, kStep_none, vcDL_nil, vcDL_cons, kOpsD_app, kStepD_true, kStepD_false, kStepC_some, kStepC_none, kMv_app, act3_store, act3_call, act3_bs, kAct_app, kSt2_app, stealSlots, stealL, stealOne, subIn, AV.stolen, act_store, act_bs, act_append, act_call, kSet_app, kSet2_app, kSetG_app, kSetG_app0, kStore_ptr, kStore_eptr, kCallW_some, kCallC_some, kCall_some, wk_T, wk_n, wk_keep, wk_inv, wk_act, wk_dr, wk_le, aCalm, wantC, dstOk, calm, aCallK, aCall3K, subOf, subRep, aCall2K, apnd, bsMove, putBox, putOwn, partAV, mvL, AV.mv, AV.base, AV.moved, AV.src, TI.flat, apSize, pickAV, St.val, St.cond, St.fn, St.next, St.set, St.trim, wipe_eq, wipeE_app, wipeM_app, pickEnv, get?, cGet, upd_app, withPuts, killAll, rm, freshP, Oper.hnd, Sc.st, ofConst, constOk, lenAV, elemLen, loadAV, ldL, ld1, fieldAddrAV, indexAddrAV, sliceAV, convAV, buildAV, fillAV, fieldAV, Out.of, binAV, AV.rows, AV.one, AV.cells, AV.deepOk, AV.toD, toDs, partRows, partRowsM, partsDeep, TK.zeroAV, TK.zeroD, byteOf, inR, Op.operands, Call.operands, passVs, passV, passL, pass1, passB, pasVs, pasV, pasL, pas1, ownsOk, okHs, okHs2, okFin, finOk2, rho, over, backRes, backAV, backAV1, backBlk, putBack, back2, back2_V, back2_1, m2, AV.wipe, AV.wipeV, AV.wipe1, Blk.wipe, AV.hs, AV.hs.hsL, alOps, Con.start2, Con.pk, bodyQ, fini, resAV, resA, firstId, Sc.from, renEnv, renT, renV, renVs, renL, ren1, renBox, renOwn, okRen, clOf, actB, setRow, flatRows, flatD, noInv, shr_nil, shr_some, kStepF_some, shareL, AV.viewed, AV.viewed1, cHeldFileS, Con.fn, tTab, cMarkText, cHeldStringS, e8]
  try dsimp only
  refine ⟨⟨0, by simp [e8]⟩, fun i hi hpre _ => ⟨fun hlt => ?_, fun hge => e3 i hge hpre⟩⟩
  have g := e6 i hlt
  have g1 := e7 i
  have g2 := e7 (i + 1)
  simp [hlt, eFile, D.asStr, D.asRows, and_assoc]
  have hl : ∀ l kk, heldL l kk = if l = markL l.length kk then kk + l.length else -1 := fun _ _ => rfl
  have m1 := e1 i hlt
  have m2 := e2 i hlt hpre
  by_cases ht : t[i].text = markL t[i].text.length (kE (t.take i) k + 1)
  · have hh : heldL t[i].text (kE (t.take i) k + 1) = kE (t.take (i + 1)) k := by rw [hl, if_pos ht, g]
    rw [hh]
    exact ⟨by omega, fun hn => m1 (.inl hn), fun hp => ⟨by omega, by omega, fun _ _ => ⟨by omega, by omega, fun hn => by omega, fun _ => ⟨by omega, by omega, fun _ _ => ⟨i + 1, rfl, by omega, by omega, m2 hp ht, by omega⟩⟩⟩⟩⟩
  · have hh : heldL t[i].text (kE (t.take i) k + 1) = -1 := by rw [hl, if_neg ht]
    rw [hh]
    exact ⟨by omega, fun hn => m1 (.inl hn), fun hp => ⟨by omega, by omega, fun _ _ => ⟨by omega, by omega, fun _ => m1 (.inr ht), fun hn => by omega⟩⟩⟩

theorem view_of_eq (t : List FileD) (l : List Str) : viewOfI t l = viewOfS t l := by
  unfold viewOfI viewOfS
  rw [tree_eq, view_eq]
  simp only [vis_in]
theorem viewOfS_bd (t : List FileD) (l : List Str) : (viewOfS t l).length ≤ 8 ∧ ∀ f ∈ viewOfS t l, f.text.length ≤ 64 := by
  unfold viewOfS
  split
  · rename_i h
    simp only [Bool.and_eq_true] at h
    have h1 := treeS_le t h.1
    refine ⟨Nat.le_trans (List.length_filter_le _ _) h1.1, fun f hf => h1.2 f (List.mem_filter.1 hf).1⟩
  · simp
theorem kE_bd {t : List FileD} {A B : Nat} (h1 : t.length ≤ A) (h2 : ∀ f ∈ t, f.text.length ≤ B) (k : Int) : k ≤ kE t k ∧ kE t k ≤ k + A + B * A := by
  have h3 := nLines_bd t h2
  have h4 : B * t.length ≤ B * A := Nat.mul_le_mul_left _ h1
  unfold kE
  refine ⟨by omega, ?_⟩
  have : (nLines t : Int) ≤ ((B * A : Nat) : Int) := by omega
  rw [Int.natCast_mul] at this
  omega

end Vx
end Go.Proofs.YtlhkmgbmnbkaeaaDoor
/-
  Contracts: a file put into a tree (the reference's).
-/
namespace Go.Proofs.YtlhkmgbmnbkaeaaDoor
namespace Vx
open Go.RowKit
set_option maxRecDepth 8000

def setStep (f : FileD) (acc : List FileD × Bool) (g : FileD) : List FileD × Bool :=
  if acc.2 = false ∧ Go.Op.bytesLess g.path f.path = false then (if g.path = f.path then (acc.1 ++ [f], true) else (acc.1 ++ [f] ++ [g], true))
  else (if g.path = f.path then acc else (acc.1 ++ [g], acc.2))
def setL (f : FileD) (l : List FileD) : List FileD × Bool := l.foldl (setStep f) ([], false)
def setS (t : List FileD) (f : FileD) : List FileD := if (setL f t).2 then (setL f t).1 else (setL f t).1 ++ [f]
theorem setL_succ {f : FileD} {t : List FileD} {i : Nat} (h : i < t.length) : setL f (t.take (i + 1)) = setStep f (setL f (t.take i)) t[i] := by
  unfold setL
  rw [take_succ' h, List.foldl_append]; rfl
theorem setStep_len (f : FileD) (acc : List FileD × Bool) (g : FileD) : (setStep f acc g).1.length + acc.2.toNat ≤ acc.1.length + (setStep f acc g).2.toNat + 1 := by
  unfold setStep
  split
  · rename_i h
    rw [h.1]
    split <;> simp <;> omega
  · split <;> simp <;> omega
theorem setL_len (f : FileD) (t : List FileD) : (setL f t).1.length ≤ t.length + (setL f t).2.toNat := by
  have : ∀ (t : List FileD) (acc : List FileD × Bool), (t.foldl (setStep f) acc).1.length + acc.2.toNat ≤ acc.1.length + t.length + (t.foldl (setStep f) acc).2.toNat := by
    intro t
    induction t with
    | nil => intro acc; simp
    | cons g r ih =>
      intro acc
      have h1 := ih (setStep f acc g)
      have h2 := setStep_len f acc g
      simp only [List.foldl_cons, List.length_cons]
      omega
  have := this t ([], false)
  simpa [setL] using this
theorem setL_mem (f : FileD) (t : List FileD) : ∀ g ∈ (setL f t).1, g ∈ t ∨ g = f := by
  have : ∀ (t : List FileD) (acc : List FileD × Bool), ∀ g ∈ (t.foldl (setStep f) acc).1, g ∈ acc.1 ∨ g ∈ t ∨ g = f := by
    intro t
    induction t with
    | nil => intro acc g hg; exact .inl hg
    | cons x r ih =>
      intro acc g hg
      rcases ih (setStep f acc x) g hg with h | h | h
      · unfold setStep at h
        split at h
        · split at h
          · simp at h; rcases h with h | h
            · exact .inl h
            · exact .inr (.inr h)
          · simp at h; rcases h with h | h | h
            · exact .inl h
            · exact .inr (.inr h)
            · exact .inr (.inl (by simp [h]))
        · split at h
          · exact .inl h
          · simp at h; rcases h with h | h
            · exact .inl h
            · exact .inr (.inl (by simp [h]))
      · exact .inr (.inl (by simp [h]))
      · exact .inr (.inr h)
  intro g hg
  rcases this t ([], false) g hg with h | h
  · simp at h
  · exact h
theorem setS_len (t : List FileD) (f : FileD) : (setS t f).length ≤ t.length + 1 := by
  have := setL_len f t
  unfold setS
  split
  · rename_i h; rw [h] at this; simpa using this
  · rename_i h
    have h : (setL f t).2 = false := by simpa using h
    rw [h] at this; simp at this ⊢; omega
theorem setS_mem (t : List FileD) (f : FileD) : ∀ g ∈ setS t f, g ∈ t ∨ g = f := by
  intro g hg
  unfold setS at hg
  split at hg
  · exact setL_mem f t g hg
  · rcases List.mem_append.1 hg with h | h
    · exact setL_mem f t g h
    · simp at h; exact .inr h

def cL4Set : Con := .fn 65 (List FileD × FileD) (fun a => [.sl true 2 (eFiles a.1), .agg [.str a.2.path, .sl true 1 (eStrs a.2.text)]]) (fun a => a.1.length ≤ 1048576 ∧ a.2.text.length ≤ 1048576) (fun a => .sl false 2 (eFiles (setS a.1 a.2))) (fun _ => [])
set_option maxHeartbeats 4000000 in
theorem l4Set_has : Has Tryd.prog 91 cL4Set := by
  refine has_walk mixed tTab_ok (l := []) HasL.nil [0, 1, 3, 4, 5, 6, 7] ((fun a n (_ : Nat) => (fun a _ => ⟨Nat, fun i => ⟨[(0, true, .sl true 2 (eFiles a.1)), (3, true, .ptr 10 0), (4, true, .nil), (5, true, .own 9 2 (eFiles (setL a.2 (a.1.take i)).1)), (6, true, .bool (setL a.2 (a.1.take i)).2), (7, true, .int .i64 i)], [(10, .box 32 [.str a.2.path, .sl true 1 (eStrs a.2.text)]), (9, .own 32 2 false (eFiles (setL a.2 (a.1.take i)).1))]⟩, fun i => i ≤ a.1.length, fun i => a.1.length - i⟩) a n)) [35, 62] Tryd.func91 (by kernel_rfl) (code := _) (by unfold Tryd.f91; rfl) (by kernel_rfl) (by decide) (fun _ => ⟨(), trivial⟩) (by intro h; first | exact fun _ => rfl | cases h) (by kernel_rfl) ?_
  intro a ha
  obtain ⟨t, f⟩ := a
  obtain ⟨q1, q2⟩ : t.length ≤ 1048576 ∧ f.text.length ≤ 1048576 := ha
  have a0 : setL f [] = ([], false) := rfl
  have a1 : ∀ i (h : i < t.length), (setL f (t.take i)).2 = true → ¬ t[i].path = f.path → setL f (t.take (i + 1)) = ((setL f (t.take i)).1 ++ [t[i]], true) := fun i h h1 h2 => by rw [setL_succ h]; simp [setStep, h1, h2]
  have a2 : ∀ i (h : i < t.length), (setL f (t.take i)).2 = true → t[i].path = f.path → setL f (t.take (i + 1)) = ((setL f (t.take i)).1, true) := fun i h h1 h2 => by rw [setL_succ h]; unfold setStep; rw [if_neg (by simp [h1]), if_pos h2]; exact Prod.ext rfl h1
  have a3 : ∀ i (h : i < t.length), (setL f (t.take i)).2 = false → Go.Op.bytesLess t[i].path f.path = false → ¬ t[i].path = f.path → setL f (t.take (i + 1)) = ((setL f (t.take i)).1 ++ [f] ++ [t[i]], true) := fun i h h1 h3 h2 => by rw [setL_succ h]; simp [setStep, h1, h2, h3]
  have a4 : ∀ i (h : i < t.length), (setL f (t.take i)).2 = false → Go.Op.bytesLess t[i].path f.path = false → t[i].path = f.path → setL f (t.take (i + 1)) = ((setL f (t.take i)).1 ++ [f], true) := fun i h h1 h3 h2 => by rw [setL_succ h]; rw [h2] at h3; simp [setStep, h1, h2, h3]
  have a5 : ∀ i (h : i < t.length), (setL f (t.take i)).2 = false → Go.Op.bytesLess t[i].path f.path = true → ¬ t[i].path = f.path → setL f (t.take (i + 1)) = ((setL f (t.take i)).1 ++ [t[i]], false) := fun i h h1 h3 h2 => by rw [setL_succ h]; simp [setStep, h1, h2, h3]
  have a6 : ∀ i (h : i < t.length), (setL f (t.take i)).2 = false → Go.Op.bytesLess t[i].path f.path = true → t[i].path = f.path → setL f (t.take (i + 1)) = ((setL f (t.take i)).1, false) := fun i h h1 h3 h2 => by rw [setL_succ h]; unfold setStep; rw [if_neg (by simp [h3]), if_pos h2]; exact Prod.ext rfl h1
  have a7 : ∀ i, (setL f (t.take i)).1.length ≤ 1048577 := fun i => by
    have h1 := setL_len f (t.take i)
    have h2 := Bool.toNat_le (setL f (t.take i)).2
    have h3 : (t.take i).length ≤ t.length := by simp; omega
    omega
  have a8 : (setL f t).2 = true → setS t f = (setL f t).1 := fun h => by simp [setS, h]
  have a9 : (setL f t).2 = false → setS t f = (setL f t).1 ++ [f] := fun h => by simp [setS, h]
  simp -implicitDefEqProofs [vc_skip, extOf, vc_seq, vc_cond, vc_block, vc_exit, vc_ret, vc_region, vc_regionD, vc_loop, kSeq_normal, kSeq_ret, kSeq_exit, kBlock_normal, kBlock_ret, kBlock_exit, kLoop_normal, kLoop_ret, kLoop_exit, kCond_bool, kNorm_app, vcOps_nil, vcOps_cons, kOps_app, kStep_some, kStep_none, vcDL_nil, vcDL_cons, kOpsD_app, kStepD_true, kStepD_false, kStepC_some, kStepC_none, kMv_app, act3_store, act3_call, act3_bs, kAct_app, kSt2_app, stealSlots, stealL, stealOne, subIn, AV.stolen, act_store, act_bs, act_append, act_call, kSet_app, kSet2_app, kSetG_app, kSetG_app0, kStore_ptr, kStore_eptr, kCallW_some, kCallC_some, kCall_some, wk_T, wk_n, wk_keep, wk_inv, wk_act, wk_dr, wk_le, aCalm, wantC, dstOk, calm, aCallK, aCall3K, subOf, subRep, aCall2K, apnd, bsMove, putBox, putOwn, partAV, mvL, AV.mv, AV.base, AV.moved, AV.src, TI.flat, apSize, pickAV, St.val, St.cond, St.fn, St.next, St.set, St.trim, wipe_eq, wipeE_app, wipeM_app, pickEnv, get?, cGet, upd_app, withPuts, killAll, rm, freshP, Oper.hnd, Sc.st, ofConst, constOk, lenAV, elemLen, loadAV, ldL, ld1, fieldAddrAV, indexAddrAV, sliceAV, convAV, buildAV, fillAV, fieldAV, Out.of, binAV, AV.rows, AV.one, AV.cells, AV.deepOk, AV.toD, toDs, partRows, partRowsM, partsDeep, TK.zeroAV, TK.zeroD, byteOf, inR, Op.operands, Call.operands, passVs, passV, passL, pass1, passB, pasVs, pasV, pasL, pas1, ownsOk, okHs, okHs2, okFin, finOk2, rho, over, backRes, backAV, backAV1, backBlk, putBack, back2, back2_V, back2_1, m2, AV.wipe, AV.wipeV, AV.wipe1, Blk.wipe, AV.hs, AV.hs.hsL, alOps, Con.start2, Con.pk, bodyQ, fini, resAV, resA, firstId, Sc.from, renEnv, renT, renV, renVs, renL, ren1, renBox, renOwn, okRen, clOf, actB, setRow, flatRows, flatD, noInv, shr_nil, shr_some, kStepF_some, shareL, AV.viewed, AV.viewed1, cL4Set, Con.fn, tTab]
  try dsimp only
  have b1 : ∀ (X : List FileD) (g : FileD), eFiles X ++ [[D.str f.path, D.sl 9 1 (eStrs f.text)], [D.str g.path, D.sl 9 1 (eStrs g.text)]] = eFiles (X ++ [f] ++ [g]) := fun X g => by simp [eFiles, eFile]
  refine ⟨⟨0, by simp [a0]⟩, ?_⟩
  try simp +contextual [eStr, eFile, cast_succ, cast_eq, cast_zero, List.getElem?_eq_getElem, eStrs_set, eFiles_set, eStrs_rep, eFiles_rep, ← eStrs_append, ← eFiles_append, eStrs_take, eStrs_drop, eFiles_take, eFiles_drop, eStrs_snoc, eFiles_snoc, and_assoc, b1, ← FileD.eq_iff]
  repeat' (first | intro _ | apply And.intro)
  all_goals first | omega | grind [all_take, eStrs_str, List.take_of_length_le]

end Vx
end Go.Proofs.YtlhkmgbmnbkaeaaDoor
/-
  What the law FnSeekTree says, in plain lists.
-/
namespace Go.Proofs.YtlhkmgbmnbkaeaaDoor
namespace Vx
open Go.RowKit

theorem less_trans {a b c : Str} (h : Go.Op.bytesLess a b = true) (h' : Go.Op.bytesLess b c = true) : Go.Op.bytesLess a c = true := by
  rw [less_eq, decide_eq_true_eq] at *
  exact List.lt_trans h h'
theorem less_irrefl (a : Str) : Go.Op.bytesLess a a = false := by
  rw [less_eq, decide_eq_false_iff_not]
  exact List.lt_irrefl a
theorem tree_less {t : List FileD} (h : treeI t = true) : ∀ j i, (hij : i < j) → (hj : j < t.length) → Go.Op.bytesLess (t[i]'(by omega)).path t[j].path = true := by
  have hs : ∀ j, (h0 : 0 < j) → (hj : j < t.length) → Go.Op.bytesLess (t[j - 1]'(by omega)).path t[j].path = true := by
    intro j h0 hj
    simp only [treeI, Bool.and_eq_true, List.all_eq_true, List.mem_range] at h
    have h2 := (h.2 j hj).1
    simp only [headI, Bool.and_eq_true, Bool.or_eq_true, decide_eq_true_eq] at h2
    rcases h2.2 with h3 | h3
    · omega
    · simpa [List.getD_eq_getElem?_getD, hj, (show j - 1 < t.length by omega)] using h3
  intro j
  induction j with
  | zero => intro i hi; omega
  | succ j ih =>
    intro i hi hj
    have h1 := hs (j + 1) (by omega) hj
    by_cases e : i = j
    · subst e; exact h1
    · exact less_trans (ih i (by omega) (by omega)) h1
theorem tree_paths {t : List FileD} (h : treeI t = true) {i j : Nat} (hi : i < t.length) (hj : j < t.length) (he : t[i].path = t[j].path) : i = j := by
  rcases Nat.lt_trichotomy i j with h1 | h1 | h1
  · have := tree_less h j i h1 hj; rw [he, less_irrefl] at this; cases this
  · exact h1
  · have := tree_less h i j h1 hi; rw [he, less_irrefl] at this; cases this

/-- A text is in another one. -/
def partB (s p : Str) : Bool := (List.range (s.length + 1)).any fun i => decide (i + p.length ≤ s.length) && decide ((s.drop i).take p.length = p)
theorem partB_hit {s p : Str} {i : Nat} (h : i + p.length ≤ s.length) (h2 : (s.drop i).take p.length = p) : partB s p = true := by
  unfold partB
  rw [List.any_eq_true]
  exact ⟨i, List.mem_range.2 (by omega), by simp [h, h2]⟩
theorem partB_miss {s p : Str} (h : ∀ i, i + p.length ≤ s.length → (s.drop i).take p.length ≠ p) : partB s p = false := by
  unfold partB
  rw [List.any_eq_false]
  intro i _
  simp only [Bool.and_eq_true, decide_eq_true_eq, not_and]
  exact h i
theorem partB_mid (a p b : Str) : partB (a ++ (p ++ b)) p = true := partB_hit (i := a.length) (by simp) (by simp)
theorem hasP_part {w : Str} : ∀ {r c : Str}, hasP w r c = true → ∃ a b, c ++ r = a ++ (w ++ b) := by
  intro r
  induction r with
  | nil => intro c h; simp only [hasP, decide_eq_true_eq] at h; subst h; exact ⟨[], [], by simp⟩
  | cons x r ih =>
    intro c h
    simp only [hasP] at h
    split at h
    · obtain ⟨a, b, e⟩ := ih h
      exact ⟨a, b, by simpa using e⟩
    · simp only [Bool.or_eq_true, decide_eq_true_eq] at h
      rcases h with rfl | h
      · exact ⟨[], x :: r, by simp⟩
      · obtain ⟨a, b, e⟩ := ih h
        exact ⟨c ++ x :: a, b, by simpa using e⟩
theorem hasS_part {w l : Str} (h : hasS w l = true) : partB l w = true := by
  obtain ⟨a, b, e⟩ := hasP_part h
  rw [List.nil_append] at e
  rw [e]; exact partB_mid a w b
theorem hasP_word {w : Str} : ∀ {r c : Str}, (∀ x ∈ r, wordB x.toNat = true) → hasP w r c = decide (c ++ r = w) := by
  intro r
  induction r with
  | nil => intro c _; simp [hasP]
  | cons x r ih =>
    intro c h
    simp only [hasP, h x (by simp), if_true]
    rw [ih fun y hy => h y (by simp [hy])]
    simp
theorem hasS_self {w : Str} (h : nameB w = true) : hasS w w = true := by
  simp only [nameB, Bool.and_eq_true, List.all_eq_true] at h
  unfold hasS
  rw [hasP_word h.2]; simp
theorem hasS_see {w : Str} (h : nameB w = true) : hasS w ([115, 101, 101, 32] ++ w) = true := by
  have h0 := hasS_self h
  unfold hasS at h0 ⊢
  show hasP w (115 :: 101 :: 101 :: 32 :: w) [] = true
  simp only [hasP]
  rw [if_pos (by decide), if_pos (by decide), if_pos (by decide), if_neg (by decide), h0, Bool.or_true]

def pathIn (l : List Str) (p : Str) : Bool := decide (p ∈ l)
theorem seek_mem {t : List FileD} (ht : treeI t = true) (p : FileD → Bool) {i : Nat} (hi : i < t.length) : t[i].path ∈ seekL p t ↔ p t[i] = true := by
  unfold seekL
  simp only [List.mem_map, List.mem_filter]
  constructor
  · rintro ⟨f, ⟨hf, hp⟩, e⟩
    obtain ⟨j, hj, rfl⟩ := List.getElem_of_mem hf
    have := tree_paths ht hj hi e
    subst this
    exact hp
  · intro h; exact ⟨t[i], ⟨List.getElem_mem hi, h⟩, rfl⟩
theorem seek_split (p : FileD → Bool) (t : List FileD) {i : Nat} (hi : i < t.length) (hp : p t[i] = true) : (seekL p t)[(seekL p (t.take i)).length]? = some t[i].path := by
  have e : t.take i ++ (t[i] :: t.drop (i + 1)) = t := by rw [← List.drop_eq_getElem_cons hi, List.take_append_drop]
  have key : ∀ (a : List FileD) (x : FileD) (b : List FileD), p x = true → seekL p (a ++ x :: b) = seekL p a ++ (x.path :: seekL p b) := fun a x b h => by simp [seekL, List.filter_cons, h]
  have := key (t.take i) t[i] (t.drop (i + 1)) hp
  rw [e] at this
  rw [this]; simp
theorem hit_some {t : List FileD} {w : Str} {i : Nat} (hi : i < t.length) (h : hitS w t[i] = true) : ∃ l ∈ t[i].text, partB l w = true := by
  unfold hitS anyHas at h
  rw [List.any_eq_true] at h
  obtain ⟨l, hl, h⟩ := h
  exact ⟨l, hl, hasS_part h⟩
theorem hit_word {f : FileD} {w : Str} (hw : nameB w = true) (h : w ∈ f.text ∨ [115, 101, 101, 32] ++ w ∈ f.text) : hitS w f = true := by
  unfold hitS anyHas
  rw [List.any_eq_true]
  rcases h with h | h
  · exact ⟨_, h, hasS_self hw⟩
  · exact ⟨_, h, hasS_see hw⟩

/-- The lines of a file that have the word. -/
def someP (t : List Str) (w : Str) : Bool := t.any fun l => partB l w

end Vx
end Go.Proofs.YtlhkmgbmnbkaeaaDoor
/-
  slices.Insert at elements of two cells: the library's text, walked: in place, and into a new row.
-/
set_option linter.unusedVariables false
set_option linter.unusedSimpArgs false
namespace Go.Proofs.YtlhkmgbmnbkaeaaDoor
namespace Vx
open Go.RowKit Go.Lib

theorem run_copy_cells_k {P : Program} (k : Nat) (w : World) (dT sT ty elem : TypeId) (b o dLen dCap : Nat) (a : Addr) (sLen sCap : Nat) (cs : List Value)
    (hu : P.underlying dT = some (.slice elem)) (hs : (P.info? elem).map (·.size) = some k) (hn : cs.length = Nat.min sLen dLen * k)
    (hsrc : ∀ (j : Nat) v, cs[j]? = some v → w.cell? (a.add j) = some v) (hc : ∀ j, j < cs.length → (w.cell? ⟨b, o + j, none⟩).isSome = true) (hf : ∀ j, j < cs.length → w.frozen? ⟨b, o + j, none⟩ = false) (h1 : ∀ v ∈ cs, v.oneCell' = true) :
    (Builtin.copy_ #[dT, sT] ty #[.slice (some ⟨b, o, none⟩) dLen dCap, .slice (some a) sLen sCap]).run P w = .ok (goInt (Nat.min sLen dLen)) (w.setCells b o cs) := by
  have hl := run_loadCells_list (P := P) w a cs hsrc
  have hst := run_storeCells_cells (P := P) b o cs 0 w (by simpa using hc) (by simpa using hf) h1
  cases hq : P.info? elem with
  | none => simp [hq] at hs
  | some i =>
    have hi : i.size = k := by simpa [hq] using hs
    simp [Builtin.copy_, run_underlying hu, Builtin.lenOf, Builtin.firstCells, sizeOf, typeInfo, hq, hi, ← hn, hl, hst]

theorem wp_copy_runI {P : Program} (w : World) {o : Oper} {a : Act} {K : Act → World → Prop} {Q : Exit → Act → World → Prop} (d s : Operand) (t t' : TypeId)
    (ho : o.op = .call { callee := .builtin .copy, args := #[d, s], argTypes := #[t, t'] }) (v u : Value) (hd : a.eval d = v) (hs : a.eval s = u) {v' : Value} {w' : World}
    (hr : (Builtin.copy_ #[t, t'] o.type #[v, u]).run P w = .ok v' w') (h : K (a.put o.dst v') w') : o.wp P a w K Q := by
  unfold Oper.wp execOp
  simp only [ho, resolve, invoke, builtin, Sem.run_bind, Sem.run_pure, Result.andThen_ok, List.map_toArray, List.map_cons, List.map_nil, hd, hs, hr]
  exact h
theorem wpList_copy_runI {P : Program} (w : World) {ops : Array Oper} {rest : List Oper} {o : Oper} {a : Act} {Q : Exit → Act → World → Prop} (hgd : o.guard = none) (d s : Operand) (t t' : TypeId)
    (ho : o.op = .call { callee := .builtin .copy, args := #[d, s], argTypes := #[t, t'] }) (v u : Value) (hd : a.eval d = v) (hs : a.eval s = u) {v' : Value} {w' : World}
    (hr : (Builtin.copy_ #[t, t'] o.type #[v, u]).run P w = .ok v' w') (h : wpList P ops Q rest (a.put o.dst v') w') : wpList P ops Q (o :: rest) a w :=
  wpList_plain hgd fun _ hK => wp_copy_runI w d s t t' ho v u hd hs hr (hK _ _ h)
theorem step_copy_runI {P : Program} {ops : Array Oper} {o : Oper} {a : Act} {w : World} {K : Act → World → Prop} {Q : Exit → Act → World → Prop} {E : Prop}
    (hg : o.guard = none) (d x : Operand) (dT sT : TypeId) (hop : o.op = Op.call { callee := Callee.builtin Builtin.copy, args := #[d, x], argTypes := #[dT, sT] })
    (v u : Value) (hd : a.eval d = v) (hx : a.eval x = u) {v' : Value} {w' : World} (hr : (Builtin.copy_ #[dT, sT] o.type #[v, u]).run P w = .ok v' w') (hK : K (a.put o.dst v') w') :
    if Region.wanted o (yielded ops a.tmps) = true then Oper.wp P o a w K Q else E := by
  have hw : Region.wanted o (yielded ops a.tmps) = true := by simp [Region.wanted, hg]
  rw [if_pos hw]
  unfold Oper.wp
  simp [execOp, hop, resolve, invoke, builtin, hd, hx, hr, Result.andThen]
  exact hK
theorem isSome_setCells' (b : Nat) (vs : List Value) (o : Nat) (w : World) (h : ∀ j, j < vs.length → (w.cell? ⟨b, o + j, none⟩).isSome = true) (k : Nat) (hk : (w.cell? ⟨b, k, none⟩).isSome = true) : ((w.setCells b o vs).cell? ⟨b, k, none⟩).isSome = true := by
  by_cases hin : o ≤ k ∧ k < o + vs.length
  · have := World.cell?_setCells_in b vs o w h (k - o) (by omega)
    rw [show o + (k - o) = k by omega] at this
    rw [this]; rfl
  · rw [World.cell?_setCells_out b vs o w ⟨b, k, none⟩ (fun _ _ => by show k < o ∨ o + vs.length ≤ k; omega)]
    exact hk

set_option maxHeartbeats 4000000 in
set_option maxRecDepth 100000 in
/-- There is room, i < len(s): in place. -/
theorem insF_shift (b n c i vb m vc : Nat) (cs vs : List Value) (w : World) (hi : i < n) (hm : 0 < m) (hroom : n + m ≤ c) (hc63 : c ≤ 9223372036854775807) (hvb : vb ≠ b)
    (hcl : cs.length = n * 2) (hvl : vs.length = m * 2)
    (hcs : ∀ (j : Nat) v, cs[j]? = some v → w.cell? ⟨b, j, none⟩ = some v) (hsp : ∀ j, j < (n + m) * 2 → (w.cell? ⟨b, j, none⟩).isSome = true) (hfz : ∀ j, j < (n + m) * 2 → w.frozen? ⟨b, j, none⟩ = false)
    (hvs : ∀ (j : Nat) v, vs[j]? = some v → w.cell? ⟨vb, j, none⟩ = some v) (h1c : ∀ v ∈ cs, v.oneCell' = true) (h1v : ∀ v ∈ vs, v.oneCell' = true)
    (tA tB : TypeId) (kA kB : Nat) (hsa : w.shape? vb = some (tA, kA)) (hsb : w.shape? b = some (tB, kB)) (hkB : kB ≠ 0) (hfa : w.frozen? ⟨vb, 0, none⟩ = false) (hfe : w.frozen? ⟨vb, kA, none⟩ = false) :
    Calls Tryd.prog 143 #[.slice (some ⟨b, 0, none⟩) n c, .int .i64 i, .slice (some ⟨vb, 0, none⟩) m vc] w fun e w' =>
      e = .returned (.slice (some ⟨b, 0, none⟩) (n + m) c) ∧ w' = (w.drew.setCells b ((i + m) * 2) (cs.drop (i * 2))).setCells b (i * 2) vs := by
  have hz1 : ¬ ((m : Int) = 0) := by omega
  have hz2 : ¬ ((i : Int) = (n : Int)) := by omega
  have hsz : (Tryd.prog.info? 32).map (·.size) = some 2 := by kernel_rfl
  have hov : ∀ lb cb, (callFunc 160 #[.slice (some ⟨vb, 0, none⟩) m vc, .slice (some ⟨b, (i + m) * 2, none⟩) lb cb]).run Tryd.prog w = .ok (.value (.bool false)) w := fun lb cb => by
    rw [run_callFunc_extern Tryd.func160 (by kernel_rfl) (by kernel_rfl) (by kernel_rfl) (e := Extern.SlicesOverlaps.overlaps #[23, 23] #[4]) (by kernel_rfl),
      Lib.run_overlaps_apart w 23 4 32 Tryd.underlying23 2 Tryd.sizeOf32 ⟨vb, 0, none⟩ ⟨b, (i + m) * 2, none⟩ m vc lb cb hvb tA tB kA kB hsa hsb hkB hfa hfe]
    rfl
  have hdl : (cs.drop (i * 2)).length = (n - i) * 2 := by rw [List.length_drop, hcl]; omega
  have mixed : Tryd.prog.follows .mixedOrders = true := mixed
  have hw1 : IntKind.i64.wrap ((i : Int) + (m : Int)) = (i : Int) + (m : Int) := by rw [IntKind.wrap_i64]; omega
  have hb1 : (0 : Int) ≤ (i : Int) + (m : Int) := by omega
  have hin : i ≤ n := by omega
  have htn : ((i : Int) + (m : Int)).toNat = i + m := by omega
  have hb2 : ¬ (c = i + m) := by omega
  have hb3 : (i : Int) ≤ (n : Int) + (m : Int) := by omega
  have hb4 : ¬ (c = i) := by omega
  have hcp1 : ∀ ty dc sc, (Builtin.copy_ #[23, 23] ty #[.slice (some ⟨b, (i + m) * 2, none⟩) (n + m - (i + m)) dc, .slice (some ⟨b, i * 2, none⟩) (n + m - i) sc]).run Tryd.prog w.drew = .ok (goInt (Nat.min (n + m - i) (n + m - (i + m)))) (w.drew.setCells b ((i + m) * 2) (cs.drop (i * 2))) := fun ty dc sc =>
    run_copy_cells_k 2 w.drew _ _ ty 32 b ((i + m) * 2) (n + m - (i + m)) dc ⟨b, i * 2, none⟩ (n + m - i) sc (cs.drop (i * 2)) Tryd.underlying23 hsz (by rw [hdl]; simp only [Nat.min_def]; split <;> omega)
      (fun j v hj => by rw [Addr.add_lit]; exact hcs (i * 2 + j) v (by rwa [List.getElem?_drop] at hj))
      (fun j hj => hsp _ (by omega)) (fun j hj => hfz _ (by omega)) (fun v hv => h1c v (List.mem_of_mem_drop hv))
  obtain ⟨W1, hW1⟩ : ∃ W1, W1 = w.drew.setCells b ((i + m) * 2) (cs.drop (i * 2)) := ⟨_, rfl⟩
  have hsp1 : ∀ k, k < (n + m) * 2 → (W1.cell? ⟨b, k, none⟩).isSome = true := fun k hk => by
    rw [hW1]
    exact isSome_setCells' b (cs.drop (i * 2)) ((i + m) * 2) w.drew (fun j hj => hsp _ (by omega)) _ (hsp k hk)
  have hcp2 : ∀ (W : World), (∀ x, W.cell? x = W1.cell? x) → (∀ x, W.frozen? x = W1.frozen? x) → ∀ ty dc, (Builtin.copy_ #[23, 23] ty #[.slice (some ⟨b, i * 2, none⟩) (n + m - i) dc, .slice (some ⟨vb, 0, none⟩) m vc]).run Tryd.prog W = .ok (goInt (Nat.min m (n + m - i))) (W.setCells b (i * 2) vs) := fun W hWc hWf ty dc =>
    run_copy_cells_k 2 W _ _ ty 32 b (i * 2) (n + m - i) dc ⟨vb, 0, none⟩ m vc vs Tryd.underlying23 hsz (by rw [hvl]; simp only [Nat.min_def]; split <;> omega)
      (fun j v hj => by
        rw [Addr.add_lit, Nat.zero_add, hWc, hW1, World.cell?_setCells_out b _ _ _ _ (fun h _ => absurd h hvb)]
        exact hvs j v hj)
      (fun j hj => by rw [hWc]; exact hsp1 _ (by omega)) (fun j hj => by rw [hWf, hW1, World.frozen?_setCells]; exact hfz _ (by omega)) h1v
  rw [← hW1] at hcp1
  go_enter Tryd.func143, Tryd.ntmps143
  go_wp2_with (simp only [hov])
  go_region_law_o (refine step_copy_runI rfl _ _ 23 23 rfl _ _ (by simp [Act.eval, Act.put]) (by simp [Act.eval, Act.put]) (hcp1 _ _ _) ?_)
  go_wp2_with (at_builtin; refine wpList_copy_runI _ rfl _ _ 23 23 rfl _ _ rfl rfl (hcp2 _ (fun _ => rfl) (fun _ => rfl) _ _) ?_)
  go_ret
  first | exact ⟨rfl, rfl⟩ | exact ⟨rfl, by rw [hW1]⟩

set_option maxHeartbeats 4000000 in
set_option maxRecDepth 100000 in
/-- At the end: append. -/
theorem insF_end (v1 v2 : Value) (base : Option Addr) (n c vb m vc : Nat) (w w' : World) (v' : Value) (hm : 0 < m) (h1 : v1 = .slice base n c) (hn : n ≤ c) (hb : base = none → c = 0) (h2 : v2 = .slice (some ⟨vb, 0, none⟩) m vc)
    (hrun : (Builtin.append_ #[23, 23] 23 #[v1, v2]).run Tryd.prog w = .ok v' w') :
    Calls Tryd.prog 143 #[v1, .int .i64 n, v2] w fun e w1 => e = .returned v' ∧ w1 = w' := by
  subst h1 h2
  have hz1 : ¬ ((m : Int) = 0) := by omega
  have mixed : Tryd.prog.follows .mixedOrders = true := mixed
  go_enter Tryd.func143, Tryd.ntmps143
  cases base with
  | none =>
    have h0 := hb rfl
    have h00 : n = 0 := by omega
    subst h0 h00
    go_wp2_with (at_builtin; refine Lib.wpList_append_run _ rfl _ _ _ _ rfl _ _ rfl rfl _ _ hrun ?_)
    go_ret
    exact ⟨rfl, rfl⟩
  | some a =>
    obtain ⟨ab, ao, asp⟩ := a
    go_wp2_with (at_builtin; refine Lib.wpList_append_run _ rfl _ _ _ _ rfl _ _ rfl rfl _ _ hrun ?_)
    all_goals (go_ret; exact ⟨rfl, rfl⟩)

set_option maxHeartbeats 4000000 in
set_option maxRecDepth 100000 in
/-- i < len(s), no room: a new row. -/
theorem insF_grow (b n c i vb m vc : Nat) (cs vs : List Value) (w : World) (hi : i < n) (hm : 0 < m) (hnc : n ≤ c) (hroom : c < n + m) (hbig : (n + m) * 40 ≤ 140737488355328)
    (hcl : cs.length = n * 2) (hvl : vs.length = m * 2)
    (hcs : ∀ (j : Nat) v, cs[j]? = some v → w.cell? ⟨b, j, none⟩ = some v)
    (hvs : ∀ (j : Nat) v, vs[j]? = some v → w.cell? ⟨vb, j, none⟩ = some v) (h1c : ∀ v ∈ cs, v.oneCell' = true) (h1v : ∀ v ∈ vs, v.oneCell' = true) :
    Calls Tryd.prog 143 #[.slice (some ⟨b, 0, none⟩) n c, .int .i64 i, .slice (some ⟨vb, 0, none⟩) m vc] w fun e w' =>
      e = .returned (.slice (some ⟨w.heap.size, 0, none⟩) (n + m) (grownCap w (n + m) c 32)) ∧
      w' = (((w.alloc (.cells ((cs.take (i * 2)).toArray ++ Builtin.zeroCells #[.string ⟨#[]⟩, .slice none 0 0] (n + m - i) ++ Builtin.zeroCells #[.string ⟨#[]⟩, .slice none 0 0] (grownCap w (n + m) c 32 - (n + m))) 32)).drew.setCells w.heap.size (i * 2) vs).drew).setCells w.heap.size ((i + m) * 2) (cs.drop (i * 2)) := by
  have mixed : Tryd.prog.follows .mixedOrders = true := mixed
  obtain ⟨i0, hi0, hz0, hzs, hzb⟩ : ∃ i0, Tryd.prog.info? 32 = some i0 ∧ i0.zero = some (.agg #[.string ⟨#[]⟩, .slice none 0 0]) ∧ i0.size = 2 ∧ i0.bytes = 40 :=
    info_parts (show (Tryd.prog.info? 32).map (fun i => (i.zero, i.size, i.bytes)) = some (some (.agg #[.string ⟨#[]⟩, .slice none 0 0]), 2, 40) by kernel_rfl)
  have hz1 : ¬ ((m : Int) = 0) := by omega
  have hz2 : ¬ ((i : Int) = (n : Int)) := by omega
  have hz3 : (c : Int) < (n : Int) + (m : Int) := by omega
  have hsz : (Tryd.prog.info? 32).map (·.size) = some 2 := by rw [hi0]; simp [hzs]
  have hbw : b < w.heap.size := block_lt_of_cell (hcs 0 _ (List.getElem?_eq_getElem (by omega)))
  have hvw : vb < w.heap.size := block_lt_of_cell (hvs 0 _ (List.getElem?_eq_getElem (by omega)))
  have hkk : (n : Int) + (m : Int) - (i : Int) = ((n + m - i : Nat) : Int) := by omega
  have hik : i + (n + m - i) = n + m := by omega
  have hold : (Builtin.firstCells i0.size i (.slice (some ⟨b, 0, none⟩) i c)).run Tryd.prog w.drew = .ok (cs.take (i * 2)).toArray w.drew := by
    rw [hzs]
    exact run_firstCells_some w.drew 2 i ⟨b, 0, none⟩ i c (cs.take (i * 2)) (by rw [List.length_take]; omega) (fun j v hj => by
      rw [Addr.add_lit]
      rw [List.getElem?_take] at hj
      split at hj
      · rw [Nat.zero_add]; exact hcs j v hj
      · cases hj)
  have hrz : ∀ ty, (Builtin.append_ #[23, 3] ty #[.slice (some ⟨b, 0, none⟩) i c, .int .i64 ((n : Int) + (m : Int) - (i : Int))]).run Tryd.prog w =
      .ok (.slice (some ⟨w.heap.size, 0, none⟩) (n + m) (grownCap w (n + m) c 32)) (w.drew.alloc (.cells ((cs.take (i * 2)).toArray ++ Builtin.zeroCells #[.string ⟨#[]⟩, .slice none 0 0] (n + m - i) ++ Builtin.zeroCells #[.string ⟨#[]⟩, .slice none 0 0] (grownCap w (n + m) c 32 - (n + m))) 32)) := fun ty => by
    have h := Lib.run_append_grow_zeros w 23 3 ty 32 i0 _ .i64 .i64 Tryd.underlying23 Tryd.underlying3 hi0 hz0 (some ⟨b, 0, none⟩) i c (cs.take (i * 2)) hold (n + m - i) (by omega) (by omega) (by omega) (by omega) (by rw [hzb]; omega) (by rw [hzb, hik]; exact growslice_fits hroom hbig)
    rw [hik] at h
    rw [hkk]
    exact h
  obtain ⟨G, hG⟩ : ∃ G, G = grownCap w (n + m) c 32 := ⟨_, rfl⟩
  obtain ⟨ROW, hROW⟩ : ∃ ROW : Array Value, ROW = (cs.take (i * 2)).toArray ++ Builtin.zeroCells #[.string ⟨#[]⟩, .slice none 0 0] (n + m - i) ++ Builtin.zeroCells #[.string ⟨#[]⟩, .slice none 0 0] (G - (n + m)) := ⟨_, rfl⟩
  rw [← hG] at hrz ⊢
  rw [← hROW] at hrz ⊢
  have hRl : (n + m) * 2 ≤ ROW.size := by
    rw [hROW]
    simp [Builtin.zeroCells]
    omega
  obtain ⟨W1, hW1⟩ : ∃ W1, W1 = w.drew.alloc (.cells ROW 32) := ⟨_, rfl⟩
  rw [← hW1] at hrz
  have hN : ∀ j, j < (n + m) * 2 → (W1.cell? ⟨w.heap.size, j, none⟩).isSome = true := fun j hj => by
    rw [hW1, World.cell?_alloc_at (w := w.drew) ROW _ w.heap.size j rfl, Array.getElem?_eq_getElem (by omega)]; rfl
  have hNf : ∀ j, W1.frozen? ⟨w.heap.size, j, none⟩ = false := fun j => by rw [hW1]; exact World.frozen?_alloc_at (w := w.drew) ROW _ w.heap.size j rfl
  have hOb : ∀ j v, w.cell? ⟨b, j, none⟩ = some v → W1.cell? ⟨b, j, none⟩ = some v := fun j v h => by rw [hW1, World.cell?_alloc_past (w := w.drew) _ b j hbw]; exact h
  have hOv : ∀ j v, w.cell? ⟨vb, j, none⟩ = some v → W1.cell? ⟨vb, j, none⟩ = some v := fun j v h => by rw [hW1, World.cell?_alloc_past (w := w.drew) _ vb j hvw]; exact h
  have hcpA : ∀ (W : World), (∀ x, W.cell? x = W1.cell? x) → (∀ x, W.frozen? x = W1.frozen? x) → ∀ ty dc, (Builtin.copy_ #[23, 23] ty #[.slice (some ⟨w.heap.size, i * 2, none⟩) (n + m - i) dc, .slice (some ⟨vb, 0, none⟩) m vc]).run Tryd.prog W = .ok (goInt (Nat.min m (n + m - i))) (W.setCells w.heap.size (i * 2) vs) := fun W hWc hWf ty dc =>
    run_copy_cells_k 2 W _ _ ty 32 w.heap.size (i * 2) (n + m - i) dc ⟨vb, 0, none⟩ m vc vs Tryd.underlying23 hsz (by rw [hvl]; simp only [Nat.min_def]; split <;> omega)
      (fun j v hj => by rw [Addr.add_lit, Nat.zero_add, hWc]; exact hOv _ v (hvs j v hj))
      (fun j hj => by rw [hWc]; exact hN _ (by omega)) (fun j hj => by rw [hWf]; exact hNf _) h1v
  have hGn : n + m ≤ G := by rw [hG]; exact grownCap_ge w _ _ _
  have hG63 : G ≤ 9223372036854775807 := by
    have := grownCap_le_maxLen w (n + m) c 32 (by unfold maxLen; omega)
    rw [← hG] at this
    unfold maxLen at this
    omega
  have hGi : ¬ (G = i) := by omega
  have hGim : ¬ (G = i + m) := by omega
  have hci : ¬ (c = i) := by omega
  have hbN : b ≠ w.heap.size := by omega
  have hdl : (cs.drop (i * 2)).length = (n - i) * 2 := by rw [List.length_drop, hcl]; omega
  have hcpB : ∀ (W : World), (∀ x, W.cell? x = (W1.setCells w.heap.size (i * 2) vs).cell? x) → (∀ x, W.frozen? x = (W1.setCells w.heap.size (i * 2) vs).frozen? x) → ∀ ty dc sc, (Builtin.copy_ #[23, 23] ty #[.slice (some ⟨w.heap.size, (i + m) * 2, none⟩) (n + m - (i + m)) dc, .slice (some ⟨b, i * 2, none⟩) (n - i) sc]).run Tryd.prog W = .ok (goInt (Nat.min (n - i) (n + m - (i + m)))) (W.setCells w.heap.size ((i + m) * 2) (cs.drop (i * 2))) := fun W hWc hWf ty dc sc =>
    run_copy_cells_k 2 W _ _ ty 32 w.heap.size ((i + m) * 2) (n + m - (i + m)) dc ⟨b, i * 2, none⟩ (n - i) sc (cs.drop (i * 2)) Tryd.underlying23 hsz (by rw [hdl]; simp only [Nat.min_def]; split <;> omega)
      (fun j v hj => by
        rw [Addr.add_lit, hWc, World.cell?_setCells_out _ _ _ _ _ (fun h _ => absurd h hbN)]
        exact hOb _ v (hcs (i * 2 + j) v (by rwa [List.getElem?_drop] at hj)))
      (fun j hj => by rw [hWc]; exact isSome_setCells' w.heap.size vs (i * 2) W1 (fun t ht => hN _ (by omega)) _ (hN _ (by omega)))
      (fun j hj => by rw [hWf, World.frozen?_setCells]; exact hNf _) (fun v hv => h1c v (List.mem_of_mem_drop hv))
  subst hW1
  have hE1 : ∀ x, ((w.alloc (.cells ROW 32)).drew).cell? x = (w.drew.alloc (.cells ROW 32)).cell? x := fun x => rfl
  have hE2 : ∀ x, ((w.alloc (.cells ROW 32)).drew).frozen? x = (w.drew.alloc (.cells ROW 32)).frozen? x := fun x => rfl
  have hF1 : ∀ x, (((w.alloc (.cells ROW 32)).drew.setCells w.heap.size (i * 2) vs).drew).cell? x = ((w.drew.alloc (.cells ROW 32)).setCells w.heap.size (i * 2) vs).cell? x := fun x => rfl
  have hF2 : ∀ x, (((w.alloc (.cells ROW 32)).drew.setCells w.heap.size (i * 2) vs).drew).frozen? x = ((w.drew.alloc (.cells ROW 32)).setCells w.heap.size (i * 2) vs).frozen? x := fun x => rfl
  have hw1 : IntKind.i64.wrap ((i : Int) + (m : Int)) = (i : Int) + (m : Int) := by rw [IntKind.wrap_i64]; omega
  have hb1 : (0 : Int) ≤ (i : Int) + (m : Int) := by omega
  have hin : i ≤ n := by omega
  have htn : ((i : Int) + (m : Int)).toNat = i + m := by omega
  have hb3 : (i : Int) ≤ (n : Int) := by omega
  clear hkk hik hold hROW hG hRl
  go_enter Tryd.func143, Tryd.ntmps143
  go_wp2_with (first
    | (at_builtin; refine Lib.wpList_append_run _ rfl _ _ _ _ rfl _ _ rfl rfl _ _ (hrz _) ?_)
    | (at_builtin; refine wpList_copy_runI _ rfl _ _ 23 23 rfl _ _ rfl rfl (hcpA _ hE1 hE2 _ _) ?_)
    | (at_builtin; refine wpList_copy_runI _ rfl _ _ 23 23 rfl _ _ rfl rfl (hcpB _ (fun _ => rfl) (fun _ => rfl) _ _ _) ?_))
  go_region_law_o (refine step_copy_runI rfl _ _ 23 23 rfl (.slice (some ⟨w.heap.size, (i + m) * 2, none⟩) (n + m - (i + m)) (G - (i + m))) (.slice (some ⟨b, i * 2, none⟩) (n - i) (c - i)) (by simp [Act.eval, Act.put]) (by simp [Act.eval, Act.put]) (hcpB _ hF1 hF2 3 (G - (i + m)) (c - i)) ?_)
  go_wp2
  go_ret
  exact ⟨rfl, rfl⟩

end Vx
end Go.Proofs.YtlhkmgbmnbkaeaaDoor
/-
  The contract of slices.Insert at files.
-/
namespace Go.Proofs.YtlhkmgbmnbkaeaaDoor
namespace Vx
open Go.RowKit

theorem only8 {c : Cx} {s : St} {a : Act} {w : World} {β : Nat → Value} {fp : Nat → List (Nat × Nat)} (S : SatI c s a w β fp) (hp : c.pins = []) {e k : Nat} {R : List (List D)} (h8 : s.m 8 = some (.own e k true R)) :
    ∃ a', SatI c ⟨fun _ => none, get? [(8, .own e k true R)]⟩ a' w β fp ∧ RelL w (get? [(8, .own e k true R)]) β c [.own 8 k R] [β 8] := by
  have hb : BlkOk w (get? [(8, Blk.own e k true R)]) β c 8 (fp 8) (.own e k true R) := by
    obtain ⟨p1, p2, p3⟩ := S.mem 8 _ h8
    refine ⟨p1, p2, ?_⟩
    rcases p3 with p3 | ⟨b', cap, cs, f0, r1, r2, r3, r4, r5, r6, r7, r8⟩
    · exact .inl p3
    · exact .inr ⟨b', cap, cs, f0, r1, r2, r3, r4, r5, r6, r7, by simp⟩
  refine ⟨⟨Array.replicate c.n undef, []⟩, ⟨?_, ?_, ?_, ?_, ?_, S.fg, S.old, S.os, S.tape, S.output, S.size, rfl, by simp, by simp [hp]⟩, ?_⟩
  · intro t g av h; cases h
  · intro h blk hm; obtain ⟨rfl, rfl⟩ := get1 hm; exact hb
  · intro h blk hm; obtain ⟨rfl, rfl⟩ := get1 hm; exact S.nodup 8 _ h8
  · intro h h' blk blk' hm hm' hne; obtain ⟨rfl, rfl⟩ := get1 hm; obtain ⟨rfl, rfl⟩ := get1 hm'; exact absurd rfl hne
  · intro h blk hm x hx; obtain ⟨rfl, rfl⟩ := get1 hm; exact S.free 8 _ h8 x hx
  · exact own_rel (h := 8) (fps := fp) rfl hb (S.nodup 8 _ h8) (fun h' blk' hm hne => by obtain ⟨rfl, rfl⟩ := get1 hm; exact absurd rfl hne) (S.free 8 _ h8)

def insAtF (l : List FileD) (i : Nat) (f : FileD) : List FileD := l.take i ++ (f :: l.drop i)
theorem eInsF (l : List FileD) (i : Nat) (f : FileD) : (eFiles l).take i ++ (eFiles [f] ++ (eFiles l).drop i) = eFiles (insAtF l i f) := by simp [eFiles, insAtF, List.map_take, List.map_drop]
theorem two_cells {w : World} {b : Nat} {cs : Array Value} {ty : Nat} {n : Nat} (h : w.heap[b]? = some (.cells cs ty (0, 0))) : ∀ (j : Nat) v, (cs.toList.take n)[j]? = some v → w.cell? ⟨b, j, none⟩ = some v := by
  intro j v hj
  rw [World.cell_of h]
  rw [List.getElem?_take] at hj
  split at hj
  · simpa using hj
  · cases hj

theorem ins_cells {L olds news R : List Value} {i n : Nat} (hLl : (n + 1) * 2 ≤ L.length) (ho : olds.length = n * 2) (hn : news.length = 2) (hi : i ≤ n) (hL : L.take (i * 2) = olds.take (i * 2)) :
    (((L.take ((i + 1) * 2) ++ (olds.drop (i * 2) ++ R)).take (i * 2)) ++ (news ++ ((L.take ((i + 1) * 2) ++ (olds.drop (i * 2) ++ R)).drop (i * 2 + news.length)))).take ((n + 1) * 2) = olds.take (i * 2) ++ (news ++ olds.drop (i * 2)) := by
  have hl : (L.take ((i + 1) * 2)).length = (i + 1) * 2 := by rw [List.length_take]; omega
  have a1 : (L.take ((i + 1) * 2) ++ (olds.drop (i * 2) ++ R)).take (i * 2) = olds.take (i * 2) := by rw [List.take_append_of_le_length (by omega), List.take_take, Nat.min_eq_left (by omega), hL]
  have a2 : (L.take ((i + 1) * 2) ++ (olds.drop (i * 2) ++ R)).drop (i * 2 + news.length) = olds.drop (i * 2) ++ R := List.drop_left' (by omega)
  rw [a1, a2]
  rw [show olds.take (i * 2) ++ (news ++ (olds.drop (i * 2) ++ R)) = (olds.take (i * 2) ++ (news ++ olds.drop (i * 2))) ++ R by simp]
  exact List.take_left' (by simp only [List.length_append, List.length_take, List.length_drop]; omega)
theorem ins_cells2 {L olds news R : List Value} {i n m : Nat} (hLl : (n + 1) * 2 ≤ L.length) (ho : olds.length = n * 2) (hn : news.length = 2) (hi : i ≤ n) (hL : L.take (i * 2) = olds.take (i * 2)) :
    (((L.take (i * 2) ++ (news ++ L.drop m)).take ((i + 1) * 2)) ++ (olds.drop (i * 2) ++ R)).take ((n + 1) * 2) = olds.take (i * 2) ++ (news ++ olds.drop (i * 2)) := by
  have hl : (L.take (i * 2)).length = i * 2 := by rw [List.length_take]; omega
  have a1 : (L.take (i * 2) ++ (news ++ L.drop m)).take ((i + 1) * 2) = olds.take (i * 2) ++ news := by
    rw [← List.append_assoc, hL]
    rw [hL] at hl
    exact List.take_left' (by rw [List.length_append]; omega)
  rw [a1]
  rw [show (olds.take (i * 2) ++ news) ++ (olds.drop (i * 2) ++ R) = (olds.take (i * 2) ++ (news ++ olds.drop (i * 2))) ++ R by simp]
  exact List.take_left' (by simp only [List.length_append, List.length_take, List.length_drop]; omega)

def cInsF : Con := { A := List FileD × Nat × FileD, X := Unit, n := 95, args := fun a => [.own 0 2 (eFiles a.1), .int .i64 a.2.1, .own 1 2 (eFiles [a.2.2])], boxes := fun _ => [], pre := fun a => a.2.1 ≤ a.1.length ∧ a.1.length ≤ 1048576, post := fun _ _ => True, res := fun a _ => .own 8 2 (eFiles (insAtF a.1 a.2.1 a.2.2)), fin := fun a _ => [(8, .own 32 2 true (eFiles (insAtF a.1 a.2.1 a.2.2)))], owns := fun a => [(0, 32, 2, eFiles a.1), (1, 32, 2, eFiles [a.2.2])], mv := true }
set_option maxHeartbeats 4000000 in
theorem insF_has : Has Tryd.prog 143 cInsF := by
  refine ⟨fun args w => Go.MuLone.run_callFunc_enter Tryd.func143 (by kernel_rfl) rfl args w, fun _ => ⟨(), trivial⟩, fun _ _ => rfl, ?_⟩
  rintro ⟨l, i, f⟩ ⟨h1, h2⟩ c vs β fp hn hpin hlen hlen2 S
  replace h1 : i ≤ l.length := h1
  replace h2 : l.length ≤ 1048576 := h2
  have hp : c.pins = [] := hpin
  have hr := start_rel hlen S
  obtain ⟨v0, vs1, rfl, r0, hr⟩ := hr.uncons
  obtain ⟨v1, vs2, rfl, r1, hr⟩ := hr.uncons
  obtain ⟨v2, vs3, rfl, r2, hr⟩ := hr.uncons
  cases hr
  have m0 : (cInsF.start2 (l, i, f)).m 0 = some (.own 32 2 true (eFiles l)) := rfl
  have m1 : (cInsF.start2 (l, i, f)).m 1 = some (.own 32 2 true (eFiles [f])) := rfl
  have m8 : (cInsF.start2 (l, i, f)).m 8 = none := rfl
  have e0 : v0 = β 0 := by cases r0 with | own _ _ h3 _ => exact (h3 _ _ _ _ m0).1
  have e2 : v2 = β 1 := by cases r2 with | own _ _ h3 _ => exact (h3 _ _ _ _ m1).1
  have e1 : v1 = .int .i64 i := by cases r1; rfl
  subst e1
  obtain ⟨_, hR1, B1⟩ := S.mem 1 _ m1
  rcases B1 with ⟨_, hc, _⟩ | ⟨b1, cap1, cs1, f1, q1, q2, q3, q4, q5, q6, q7, _⟩
  · simp [eFiles] at hc
  have q7 := q7 rfl
  have hl1 : (eFiles [f]).length = 1 := rfl
  rw [hl1] at q1 q3 q6
  have hm1 : (eFiles [f]).flatten = eFile f := by simp [eFiles]
  have fin : ∀ {v' : Value} {w' : World}, (∃ β' fp' a', SatI c ⟨fun _ => none, get? [(8, .own 32 2 true (eFiles (insAtF l i f)))]⟩ a' w' β' fp' ∧ RelL w' (get? [(8, .own 32 2 true (eFiles (insAtF l i f)))]) β' c [.own 8 2 (eFiles (insAtF l i f))] [v']) →
      ∃ x, cInsF.post (l, i, f) x ∧ ∃ v, Ending.returned v' = Ending.returned v ∧ ∃ β' fp' a', SatI c (cInsF.end_ (l, i, f) x) a' w' β' fp' ∧ RelL w' (get? (cInsF.fin (l, i, f) x)) β' c [cInsF.res (l, i, f) x] [v] :=
    fun ⟨β', fp', a', g1, g2⟩ => ⟨(), trivial, _, rfl, β', fp', a', g1, g2⟩
  by_cases hin : i = l.length
  · -- at the end
    have hap := apnd_ok (P := Tryd.prog) tTab_ok S (ty := 23) (d := 8) (K := fun av m => av = .own 8 2 (eFiles l ++ eFiles [f]) ∧ m 8 = some (.own 32 2 true (eFiles l ++ eFiles [f]))) (t := 23) (t2 := 23) r0 r2 (by
      simp -implicitDefEqProofs [vc_skip, extOf, vc_seq, vc_cond, vc_block, vc_exit, vc_ret, vc_region, vc_regionD, vc_loop, kSeq_normal, kSeq_ret, kSeq_exit, kBlock_normal, kBlock_ret, kBlock_exit, kLoop_normal, kLoop_ret, kLoop_exit, kCond_bool, kNorm_app, vcOps_nil, vcOps_cons, kOps_app, kStep_some, kStep_none, vcDL_nil, vcDL_cons, kOpsD_app, kStepD_true, kStepD_false, kStepC_some, kStepC_none, kMv_app, act3_store, act3_call, act3_bs, kAct_app, kSt2_app, stealSlots, stealL, stealOne, subIn, AV.stolen, act_store, act_bs, act_append, act_call, kSet_app, kSet2_app, kSetG_app, kSetG_app0, kStore_ptr, kStore_eptr, kCallW_some, kCallC_some, kCall_some, wk_T, wk_n, wk_keep, wk_inv, wk_act, wk_dr, wk_le, aCalm, wantC, dstOk, calm, aCallK, aCall3K, subOf, subRep, aCall2K, apnd, bsMove, putBox, putOwn, partAV, mvL, AV.mv, AV.base, AV.moved, AV.src, TI.flat, apSize, pickAV, St.val, St.cond, St.fn, St.next, St.set, St.trim, wipe_eq, wipeE_app, wipeM_app, pickEnv, get?, cGet, upd_app, withPuts, killAll, rm, freshP, Oper.hnd, Sc.st, ofConst, constOk, lenAV, elemLen, loadAV, ldL, ld1, fieldAddrAV, indexAddrAV, sliceAV, convAV, buildAV, fillAV, fieldAV, Out.of, binAV, AV.rows, AV.one, AV.cells, AV.deepOk, AV.toD, toDs, partRows, partRowsM, partsDeep, TK.zeroAV, TK.zeroD, byteOf, inR, Op.operands, Call.operands, passVs, passV, passL, pass1, passB, pasVs, pasV, pasL, pas1, ownsOk, okHs, okHs2, okFin, finOk2, rho, over, backRes, backAV, backAV1, backBlk, putBack, back2, back2_V, back2_1, m2, AV.wipe, AV.wipeV, AV.wipe1, Blk.wipe, AV.hs, AV.hs.hsL, alOps, Con.start2, Con.pk, bodyQ, fini, resAV, resA, firstId, Sc.from, renEnv, renT, renV, renVs, renL, ren1, renBox, renOwn, okRen, clOf, actB, setRow, flatRows, flatD, noInv, shr_nil, shr_some, kStepF_some, shareL, AV.viewed, AV.viewed1, cInsF, apnd, tTab, elemLen, AV.base, AV.moved, m0, m1, m8, TI.flat, apSize]
      omega)
    obtain ⟨v', w', av, m, β', fp', g1, ⟨rfl, hm8⟩, g3, g4⟩ := hap
    have hins : eFiles l ++ eFiles [f] = eFiles (insAtF l i f) := by subst hin; simp [eFiles, insAtF]
    have hlast := only8 g3 hp (e := 32) (k := 2) (R := eFiles l ++ eFiles [f]) hm8
    obtain ⟨a', s1, s2⟩ := hlast
    have hv : v' = β' 8 := by cases g4 with | own _ _ h3 _ => exact (h3 32 2 true (eFiles l ++ eFiles [f]) hm8).1
    rw [← hv] at s2
    rw [hins] at s1 s2
    have hcall : Calls Tryd.prog 143 #[v0, .int .i64 i, v2] c.w0 fun e w1 => e = .returned v' ∧ w1 = w' := by
      obtain ⟨_, _, B0⟩ := S.mem 0 _ m0
      subst hin
      rcases B0 with ⟨p1, p2, p3⟩ | ⟨b, cap, cs, f0, p1, p2, p3, p4, p5, p6, p7, _⟩
      · have : l = [] := by cases l with | nil => rfl | cons => simp [eFiles] at p2
        subst this
        exact insF_end v0 v2 none 0 0 b1 1 cap1 c.w0 w' v' (by omega) (by rw [e0, p1]) (by omega) (by simp) (by rw [e2, q1]) g1
      · rw [eFiles_length] at p1 p3
        exact insF_end v0 v2 (some ⟨b, 0, none⟩) l.length cap b1 1 cap1 c.w0 w' v' (by omega) (by rw [e0, p1]) p3 (by simp) (by rw [e2, q1]) g1
    refine hcall.mono ?_
    rintro e w1 ⟨rfl, rfl⟩
    exact fin ⟨β', fp', a', s1, s2⟩
  · have hlt : i < l.length := by omega
    obtain ⟨_, hR0, B0⟩ := S.mem 0 _ m0
    rcases B0 with ⟨_, p2, _⟩ | ⟨b, cap, cs, f0, p1, p2, p3, p4, p5, p6, p7, _⟩
    · exfalso
      have : l.length = 0 := by rw [← eFiles_length, p2]; rfl
      omega
    have p7 := p7 rfl
    rw [eFiles_length] at p1 p3 p6
    have hcsl : cs.toList.length = cap * 2 := by rw [Array.length_toList, p5]
    have hcsl1 : cs1.toList.length = cap1 * 2 := by rw [Array.length_toList, q5]
    have hcl : (cs.toList.take (l.length * 2)).length = l.length * 2 := by rw [List.length_take, hcsl]; omega
    have hvl : (cs1.toList.take (1 * 2)).length = 1 * 2 := by rw [List.length_take, hcsl1]; omega
    have hvb : b1 ≠ b := fun e => S.disj 0 1 _ _ m0 m1 (by decide) b (by simp [Ob, p1]) (by simp [Ob, q1, e])
    have hI := fun {w' : World} {b' cap' : Nat} {cs' : Array Value} hblk hcap hmax hsz hcells hb' hother hsize hos htape hout =>
      ins_end (w' := w') (b' := b') (cap' := cap') (cs' := cs') (i := i) S hp m0 m1 (by rw [eFiles_length]; exact h1) (by rw [p7]; exact p6) (by rw [q7]; exact q6) hblk hcap hmax hsz hcells hb' hother hsize hos htape hout
    rw [eFiles_length, hl1] at hI
    rw [eInsF] at hI
    have hother0 : ∀ x, (∀ n cc, β 0 ≠ .slice (some ⟨x, 0, none⟩) n cc) → x ≠ b := fun x h e => h l.length cap (by rw [e]; exact p1)
    by_cases hroom : l.length + 1 ≤ cap
    · have hcall := insF_shift b l.length cap i b1 1 cap1 (cs.toList.take (l.length * 2)) (cs1.toList.take (1 * 2)) c.w0 hlt (by omega) hroom (by unfold maxLen at p4; omega) hvb hcl hvl (two_cells p2)
        (fun j hj => by rw [World.cell_of p2, Array.getElem?_eq_getElem (show j < cs.size by omega)]; rfl) (fun j hj => by simp [World.frozen?, p2]) (two_cells q2) p6.oneCell q6.oneCell
        _ _ _ _ (by simp [World.shape?, q2]; exact ⟨rfl, rfl⟩) (by simp [World.shape?, p2]; exact ⟨rfl, rfl⟩) (by rw [p5]; omega) (by simp [World.frozen?, q2]) (by simp [World.frozen?, q2])
      rw [e0, e2, p1, q1]
      refine hcall.mono ?_
      rintro e w' ⟨rfl, rfl⟩
      have hcs : cs = cs.toList.toArray := by simp
      have hb0 : c.w0.drew.heap[b]? = some (.cells cs.toList.toArray 32 (0, 0)) := by rw [← hcs]; exact p2
      have hdl : ((cs.toList.take (l.length * 2)).drop (i * 2)).length = (l.length - i) * 2 := by rw [List.length_drop, hcl]; omega
      obtain ⟨z1, z2, z3, z4, z5, z6⟩ := setCells_spec b ((cs.toList.take (l.length * 2)).drop (i * 2)) ((i + 1) * 2) c.w0.drew cs.toList _ _ hb0 (by rw [hdl, hcsl]; omega)
      obtain ⟨y1, y2, y3, y4, y5, y6⟩ := setCells_spec b (cs1.toList.take (1 * 2)) (i * 2) _ _ _ _ z1 (by rw [hvl]; simp; omega)
      refine fin (hI y1 hroom p4 ?_ ?_ (.inr ⟨_, _, p1⟩) (fun x _ hx => (y2 x (hother0 x hx)).trans (z2 x (hother0 x hx))) ?_ (y4.trans z4) (y5.trans z5) (y6.trans z6))
      · simp only [List.size_toArray]; simp; omega
      · rw [List.toList_toArray]
        exact ins_cells (by omega) hcl (by simpa using hvl) h1 (by rw [List.take_take, Nat.min_eq_left (by omega)])
      · rw [y3, z3]; exact Nat.le_refl _
    · have hcall := insF_grow b l.length cap i b1 1 cap1 (cs.toList.take (l.length * 2)) (cs1.toList.take (1 * 2)) c.w0 hlt (by omega) p3 (by omega) (by omega) hcl hvl (two_cells p2) (two_cells q2) p6.oneCell q6.oneCell
      rw [e0, e2, p1, q1]
      refine hcall.mono ?_
      rintro e w' ⟨rfl, rfl⟩
      have hGn : l.length + 1 ≤ grownCap c.w0 (l.length + 1) cap 32 := grownCap_ge c.w0 _ _ _
      have hGm := grownCap_le_maxLen c.w0 (l.length + 1) cap 32 (by unfold maxLen; omega)
      generalize grownCap c.w0 (l.length + 1) cap 32 = G at hGn hGm ⊢
      generalize hrow : ((cs.toList.take (l.length * 2)).take (i * 2)).toArray ++ Builtin.zeroCells #[.string ⟨#[]⟩, .slice none 0 0] (l.length + 1 - i) ++ Builtin.zeroCells #[.string ⟨#[]⟩, .slice none 0 0] (G - (l.length + 1)) = ROW
      have hrl : ROW.size = G * 2 := by
        rw [← hrow]
        simp [Builtin.zeroCells]
        omega
      have hrt : ROW.toList.take (i * 2) = (cs.toList.take (l.length * 2)).take (i * 2) := by
        rw [← hrow]
        simp only [Array.toList_append, List.append_assoc]
        rw [List.take_left' (by rw [List.length_take, hcl]; omega)]
      have hrl2 : ROW.toList.length = G * 2 := by rw [Array.length_toList, hrl]
      have hb0 : (c.w0.alloc (.cells ROW 32)).drew.heap[c.w0.heap.size]? = some (.cells ROW.toList.toArray 32 (0, 0)) := by
        have : ROW = ROW.toList.toArray := by simp
        rw [← this]
        exact heap_alloc_new c.w0 _
      have hdl : ((cs.toList.take (l.length * 2)).drop (i * 2)).length = (l.length - i) * 2 := by rw [List.length_drop, hcl]; omega
      obtain ⟨z1, z2, z3, z4, z5, z6⟩ := setCells_spec c.w0.heap.size (cs1.toList.take (1 * 2)) (i * 2) (c.w0.alloc (.cells ROW 32)).drew ROW.toList _ _ hb0 (by rw [hvl, hrl2]; omega)
      obtain ⟨y1, y2, y3, y4, y5, y6⟩ := setCells_spec c.w0.heap.size ((cs.toList.take (l.length * 2)).drop (i * 2)) ((i + 1) * 2) ((c.w0.alloc (.cells ROW 32)).drew.setCells c.w0.heap.size (i * 2) (cs1.toList.take (1 * 2))).drew _ _ _ z1 (by
        rw [hdl]
        simp only [List.length_append, List.length_take, List.length_drop, hrl2, hcsl1]
        omega)
      refine fin (hI y1 hGn hGm ?_ ?_ (.inl (Nat.le_refl _)) (fun x hx _ => (y2 x (by omega)).trans ((z2 x (by omega)).trans (heap_alloc_old c.w0 _ hx))) ?_ (y4.trans z4) (y5.trans z5) (y6.trans z6))
      · simp only [List.size_toArray, List.length_append, List.length_take, List.length_drop, hrl2, hcsl1, hcsl]
        omega
      · rw [List.toList_toArray]
        exact ins_cells2 (by omega) hcl (by simpa using hvl) h1 hrt
      · rw [y3]
        show _ ≤ (World.setCells _ _ _ _).heap.size
        rw [z3]
        show _ ≤ (c.w0.alloc _).heap.size
        simp

end Vx
end Go.Proofs.YtlhkmgbmnbkaeaaDoor
/-
  Contracts: a file put into a tree (the program's); ViewPut, both sides.
-/
namespace Go.Proofs.YtlhkmgbmnbkaeaaDoor
namespace Vx
open Go.RowKit
set_option maxRecDepth 8000

def putKat (t : List FileD) (p : Str) : Nat → Nat
  | 0 => 0
  | k + 1 => if Go.Op.bytesLess (t.getD k default).path p then k + 1 else putKat t p k
def putK (t : List FileD) (p : Str) : Nat := putKat t p t.length
def putI (t : List FileD) (f : FileD) : List FileD × Bool :=
  if putK t f.path < t.length ∧ (t.getD (putK t f.path) default).path = f.path then (t.set (putK t f.path) f, false) else (insAtF t (putK t f.path) f, true)
theorem putKat_le (t : List FileD) (p : Str) : ∀ k, putKat t p k ≤ k := by
  intro k
  induction k with
  | zero => exact Nat.le_refl _
  | succ k ih => unfold putKat; split <;> omega
theorem putK_le (t : List FileD) (p : Str) : putK t p ≤ t.length := putKat_le t p _
theorem putI_len (t : List FileD) (f : FileD) : (putI t f).1.length ≤ t.length + 1 := by
  have := putK_le t f.path
  unfold putI
  split <;> simp [insAtF] <;> omega
theorem putI_mem (t : List FileD) (f : FileD) : ∀ g ∈ (putI t f).1, g ∈ t ∨ g = f := by
  intro g hg
  unfold putI at hg
  split at hg
  · exact List.mem_or_eq_of_mem_set hg
  · simp only [insAtF, List.mem_append, List.mem_cons] at hg
    rcases hg with h | h | h
    · exact .inl (List.mem_of_mem_take h)
    · exact .inr h
    · exact .inl (List.mem_of_mem_drop h)

theorem eFiles_one (b : FileD) (p : Str) (x : List Str) : (eFiles [b] = [[D.str p, D.sl 9 1 (eStrs x)]]) = (b = ⟨p, x⟩) := by
  obtain ⟨q, y⟩ := b
  simp [eFiles, eFile]
theorem eFiles_one' (b : FileD) (p : Str) (x : List Str) : ([[D.str p, D.sl 9 1 (eStrs x)]] = eFiles [b]) = (b = ⟨p, x⟩) := by
  rw [← eFiles_one]; exact propext ⟨Eq.symm, Eq.symm⟩

def cPut : Con := .fn 58 (List FileD × FileD) (fun a => [.sl true 2 (eFiles a.1), .agg [.str a.2.path, .sl true 1 (eStrs a.2.text)]]) (fun a => (a.1.length ≤ 1048576 ∧ ∀ f ∈ a.1, f.text.length ≤ 1048576) ∧ a.2.text.length ≤ 1048576) (fun a => .tup [.own 8 2 (eFiles (putI a.1 a.2).1), .bool (putI a.1 a.2).2]) (fun a => ownFiles 8 (putI a.1 a.2).1)
set_option maxHeartbeats 4000000 in
theorem put_has : Has Tryd.prog 88 cPut := by
  refine has_walk mixed tTab_ok (l := [(83, cCopyTree), (140, cCopyText), (143, cInsF)]) (HasL.cons copyTree_has (HasL.cons copyText_has (HasL.cons insF_has HasL.nil))) [0, 1, 3, 4, 5, 6, 7, 8] ((fun a n (_ : Nat) => (fun a _ => ⟨Nat, fun k => ⟨[(3, true, .ptr 10 0), (4, true, .nil), (5, true, .bool false), (6, true, .own 9 2 (eFiles a.1)), (7, true, .int .i64 k)], [(10, .box 32 [.str a.2.path, .sl true 1 (eStrs a.2.text)]), (9, .own 32 2 true (eFiles a.1))]⟩, fun k => k ≤ a.1.length ∧ putKat a.1 a.2.path k = putK a.1 a.2.path, fun k => k⟩) a n)) [] Tryd.func88 (by kernel_rfl) (code := _) (by unfold Tryd.f88; rfl) (by kernel_rfl) (by decide) (fun _ => ⟨(), trivial⟩) (by intro h; first | exact fun _ => rfl | cases h) (by kernel_rfl) ?_
  intro a ha
  obtain ⟨t, f⟩ := a
  obtain ⟨⟨q1, q2⟩, q3⟩ : (t.length ≤ 1048576 ∧ ∀ f ∈ t, f.text.length ≤ 1048576) ∧ f.text.length ≤ 1048576 := ha
  have g0 : putKat t f.path 0 = 0 := rfl
  have g1 : ∀ k, 0 < k → (h : k - 1 < t.length) → Go.Op.bytesLess t[k - 1].path f.path = false → putKat t f.path (k - 1) = putKat t f.path k := fun k h0 h hb => by
    obtain ⟨j, rfl⟩ : ∃ j, k = j + 1 := ⟨k - 1, by omega⟩
    simp only [Nat.add_sub_cancel] at h hb ⊢
    rw [putKat, if_neg (by simp [List.getD_eq_getElem?_getD, h, hb])]
  have g2 : ∀ k, 0 < k → (h : k - 1 < t.length) → Go.Op.bytesLess t[k - 1].path f.path = true → putKat t f.path k = k := fun k h0 h hb => by
    obtain ⟨j, rfl⟩ : ∃ j, k = j + 1 := ⟨k - 1, by omega⟩
    simp only [Nat.add_sub_cancel] at h hb
    rw [putKat, if_pos (by simp [List.getD_eq_getElem?_getD, h, hb])]
  have g3 : ∀ k (h : k < t.length), k = putK t f.path → t[k].path = f.path → putI t f = (t.set k f, false) := fun k h hk hp => by
    unfold putI
    rw [← hk, if_pos (by simp [List.getD_eq_getElem?_getD, h, hp])]
  have g4 : ∀ k, k = putK t f.path → (∀ h : k < t.length, ¬ t[k].path = f.path) → putI t f = (insAtF t k f, true) := fun k hk hp => by
    unfold putI
    rw [← hk, if_neg]
    rintro ⟨h, h2⟩
    exact hp h (by simpa [List.getD_eq_getElem?_getD, h] using h2)
  simp -implicitDefEqProofs [vc_skip, extOf, vc_seq, vc_cond, vc_block, vc_exit, vc_ret, vc_region, vc_regionD, vc_loop, kSeq_normal, kSeq_ret, kSeq_exit, kBlock_normal, kBlock_ret, kBlock_exit, kLoop_normal, kLoop_ret, kLoop_exit, kCond_bool, kNorm_app, vcOps_nil, vcOps_cons, kOps_app, kStep_some, kStep_none, vcDL_nil, vcDL_cons, kOpsD_app, kStepD_true, kStepD_false, kStepC_some, kStepC_none, kMv_app, act3_store, act3_call, act3_bs, kAct_app, kSt2_app, stealSlots, stealL, stealOne, subIn, AV.stolen, act_store, act_bs, act_append, act_call, kSet_app, kSet2_app, kSetG_app, kSetG_app0, kStore_ptr, kStore_eptr, kCallW_some, kCallC_some, kCall_some, wk_T, wk_n, wk_keep, wk_inv, wk_act, wk_dr, wk_le, aCalm, wantC, dstOk, calm, aCallK, aCall3K, subOf, subRep, aCall2K, apnd, bsMove, putBox, putOwn, partAV, mvL, AV.mv, AV.base, AV.moved, AV.src, TI.flat, apSize, pickAV, St.val, St.cond, St.fn, St.next, St.set, St.trim, wipe_eq, wipeE_app, wipeM_app, pickEnv, get?, cGet, upd_app, withPuts, killAll, rm, freshP, Oper.hnd, Sc.st, ofConst, constOk, lenAV, elemLen, loadAV, ldL, ld1, fieldAddrAV, indexAddrAV, sliceAV, convAV, buildAV, fillAV, fieldAV, Out.of, binAV, AV.rows, AV.one, AV.cells, AV.deepOk, AV.toD, toDs, partRows, partRowsM, partsDeep, TK.zeroAV, TK.zeroD, byteOf, inR, Op.operands, Call.operands, passVs, passV, passL, pass1, passB, pasVs, pasV, pasL, pas1, ownsOk, okHs, okHs2, okFin, finOk2, rho, over, backRes, backAV, backAV1, backBlk, putBack, back2, back2_V, back2_1, m2, AV.wipe, AV.wipeV, AV.wipe1, Blk.wipe, AV.hs, AV.hs.hsL, alOps, Con.start2, Con.pk, bodyQ, fini, resAV, resA, firstId, Sc.from, renEnv, renT, renV, renVs, renL, ren1, renBox, renOwn, okRen, clOf, actB, setRow, flatRows, flatD, noInv, shr_nil, shr_some, kStepF_some, shareL, AV.viewed, AV.viewed1, cPut, cCopyTree, cCopyText, cInsF, Con.fn, tTab, eFiles_one, eFiles_one']
  try dsimp only
  have tl : ∀ k, k ≤ t.length → k = putK t f.path → ∀ P : Prop, (∀ (e3 : ∀ h : k < t.length, t[k].path = f.path → putI t f = (t.set k f, false)) (e4 : (∀ h : k < t.length, ¬ t[k].path = f.path) → putI t f = (insAtF t k f, true)), P) → P := fun k hk kk P h => h (fun h => g3 k h kk) (g4 k kk)
  refine ⟨⟨q1, q2⟩, fun _ => ⟨⟨t.length, rfl, Nat.le_refl _, rfl⟩, fun k hk hp => ⟨fun h0 => ⟨⟨by omega, by omega⟩, fun _ _ => ⟨⟨by omega, by omega⟩, fun _ _ => ⟨?_, fun _ _ => ⟨fun hb => ⟨⟨by omega, by omega⟩, fun _ _ => ⟨k - 1, by omega, ⟨by omega, ?_⟩, by omega⟩⟩, fun hb => ?_⟩⟩⟩⟩, fun h0 => ?_⟩⟩⟩
  · have hlt : k - 1 < t.length := by omega
    simp [hlt, eFile]
  · have hlt : k - 1 < t.length := by omega
    rw [g1 k h0 hlt (by simpa [hlt, eFile] using hb), hp]
  · have hlt : k - 1 < t.length := by omega
    have kk : k = putK t f.path := by rw [← hp]; exact (g2 k h0 hlt (by simpa [hlt, eFile] using hb)).symm
    refine tl k hk kk _ fun e3 e4 => ?_
    refine ⟨q3, fun hlt => ⟨hlt, fun _ => ⟨by simp [hlt, eFile], fun _ _ => ⟨fun hpp => ?_, fun hpp => ?_⟩⟩⟩, fun hge => ?_⟩
    · rw [e3 hlt (by simpa [hlt, eFile] using hpp)]
      exact ⟨hlt, fun _ => ⟨hlt, ⟨(eFiles_set t k f.path f.text).symm, rfl⟩, eFiles_set t k f.path f.text⟩⟩
    · rw [e4 fun h => by simpa [hlt, eFile] using hpp]
      exact ⟨t, k, f, ⟨rfl, rfl, rfl⟩, ⟨rfl, rfl⟩, ⟨hk, q1⟩, ⟨rfl, rfl⟩, rfl⟩
    · rw [e4 fun h => absurd h (by omega)]
      exact ⟨t, k, f, ⟨rfl, rfl, rfl⟩, ⟨rfl, rfl⟩, ⟨hk, q1⟩, ⟨rfl, rfl⟩, rfl⟩
  · have kk : k = putK t f.path := by rw [← hp, h0]; exact g0.symm
    refine tl k hk kk _ fun e3 e4 => ?_
    refine ⟨q3, fun hlt => ⟨hlt, fun _ => ⟨by simp [hlt, eFile], fun _ _ => ⟨fun hpp => ?_, fun hpp => ?_⟩⟩⟩, fun hge => ?_⟩
    · rw [e3 hlt (by simpa [hlt, eFile] using hpp)]
      exact ⟨hlt, fun _ => ⟨hlt, ⟨(eFiles_set t k f.path f.text).symm, rfl⟩, eFiles_set t k f.path f.text⟩⟩
    · rw [e4 fun h => by simpa [hlt, eFile] using hpp]
      exact ⟨t, k, f, ⟨rfl, rfl, rfl⟩, ⟨rfl, rfl⟩, ⟨hk, q1⟩, ⟨rfl, rfl⟩, rfl⟩
    · rw [e4 fun h => absurd h (by omega)]
      exact ⟨t, k, f, ⟨rfl, rfl, rfl⟩, ⟨rfl, rfl⟩, ⟨hk, q1⟩, ⟨rfl, rfl⟩, rfl⟩

def cChanged : Con := { A := List FileD × List FileD, X := Unit, n := 12, args := fun a => [.sl true 2 (eFiles a.1), .own 0 2 (eFiles a.2)], boxes := fun _ => [], pre := fun a => (a.1.length ≤ 1048576 ∧ ∀ f ∈ a.1, f.text.length ≤ 1048576) ∧ ∀ f ∈ a.2, f.path.length ≤ 536870912, post := fun _ _ => True, res := fun a _ => .tup [.own 8 2 (eFiles (if treeI a.2 then a.2 else a.1)), .bool (treeI a.2)], fin := fun a _ => ownFiles 8 (if treeI a.2 then a.2 else a.1), owns := fun a => [(0, 32, 2, eFiles a.2)], mv := true }
set_option maxHeartbeats 4000000 in
theorem changed_has : Has Tryd.prog 89 cChanged := by
  refine has_walk mixed tTab_ok (l := [(18, cTreeOk), (83, cCopyTree)]) (HasL.cons treeOk_has (HasL.cons copyTree_has HasL.nil)) [0, 1, 4, 5] ((fun a n (_ : Nat) => (fun _ => noInv) a n)) [] Tryd.func89 (by kernel_rfl) (code := _) (by unfold Tryd.f89; rfl) (by kernel_rfl) (by decide) (fun _ => ⟨(), trivial⟩) (by intro h; first | exact fun _ => rfl | cases h) (by kernel_rfl) ?_
  intro a ha
  obtain ⟨t, o⟩ := a
  obtain ⟨⟨q1, q2⟩, q3⟩ : (t.length ≤ 1048576 ∧ ∀ f ∈ t, f.text.length ≤ 1048576) ∧ ∀ f ∈ o, f.path.length ≤ 536870912 := ha
  simp -implicitDefEqProofs [vc_skip, extOf, vc_seq, vc_cond, vc_block, vc_exit, vc_ret, vc_region, vc_regionD, vc_loop, kSeq_normal, kSeq_ret, kSeq_exit, kBlock_normal, kBlock_ret, kBlock_exit, kLoop_normal, kLoop_ret, kLoop_exit, kCond_bool, kNorm_app, vcOps_nil, vcOps_cons, kOps_app, kStep_some, kStep_none, vcDL_nil, vcDL_cons, kOpsD_app, kStepD_true, kStepD_false, kStepC_some, kStepC_none, kMv_app, act3_store, act3_call, act3_bs, kAct_app, kSt2_app, stealSlots, stealL, stealOne, subIn, AV.stolen, act_store, act_bs, act_append, act_call, kSet_app, kSet2_app, kSetG_app, kSetG_app0, kStore_ptr, kStore_eptr, kCallW_some, kCallC_some, kCall_some, wk_T, wk_n, wk_keep, wk_inv, wk_act, wk_dr, wk_le, aCalm, wantC, dstOk, calm, aCallK, aCall3K, subOf, subRep, aCall2K, apnd, bsMove, putBox, putOwn, partAV, mvL, AV.mv, AV.base, AV.moved, AV.src, TI.flat, apSize, pickAV, St.val, St.cond, St.fn, St.next, St.set, St.trim, wipe_eq, wipeE_app, wipeM_app, pickEnv, get?, cGet, upd_app, withPuts, killAll, rm, freshP, Oper.hnd, Sc.st, ofConst, constOk, lenAV, elemLen, loadAV, ldL, ld1, fieldAddrAV, indexAddrAV, sliceAV, convAV, buildAV, fillAV, fieldAV, Out.of, binAV, AV.rows, AV.one, AV.cells, AV.deepOk, AV.toD, toDs, partRows, partRowsM, partsDeep, TK.zeroAV, TK.zeroD, byteOf, inR, Op.operands, Call.operands, passVs, passV, passL, pass1, passB, pasVs, pasV, pasL, pas1, ownsOk, okHs, okHs2, okFin, finOk2, rho, over, backRes, backAV, backAV1, backBlk, putBack, back2, back2_V, back2_1, m2, AV.wipe, AV.wipeV, AV.wipe1, Blk.wipe, AV.hs, AV.hs.hsL, alOps, Con.start2, Con.pk, bodyQ, fini, resAV, resA, firstId, Sc.from, renEnv, renT, renV, renVs, renL, ren1, renBox, renOwn, okRen, clOf, actB, setRow, flatRows, flatD, noInv, shr_nil, shr_some, kStepF_some, shareL, AV.viewed, AV.viewed1, cChanged, Con.fn, tTab, cTreeOk, cCopyTree]
  try dsimp only
  try simp +contextual [eStr, eFile, cast_succ, cast_eq, cast_zero, List.getElem?_eq_getElem, eStrs_set, eFiles_set, eStrs_rep, eFiles_rep, ← eStrs_append, ← eFiles_append, eStrs_take, eStrs_drop, eFiles_take, eFiles_drop, eStrs_snoc, eFiles_snoc, and_assoc]
  repeat' (first | intro _ | apply And.intro)
  all_goals first | omega | grind [all_take]

def outP (ps : List Str) (o : List FileD) (l : List FileD) : List FileD := (l.filter fun f => !visB f ps).foldl (fun o f => (putI o f).1) o
def inP (o : List FileD) (l : List FileD) : List FileD := l.foldl (fun o f => (putI o f).1) o
def viewPutI (t : List FileD) (ps : List Str) (v : List FileD) : List FileD × Bool :=
  if treeI t && viewI ps then (if treeI v then (if v.all (fun f => visB f ps) then (if treeI (inP (outP ps [] t) v) then (inP (outP ps [] t) v, true) else (t, false)) else (t, false)) else (t, false)) else ([], false)

end Vx
end Go.Proofs.YtlhkmgbmnbkaeaaDoor
/-
  Contracts: ViewPut, both sides.
-/
namespace Go.Proofs.YtlhkmgbmnbkaeaaDoor
namespace Vx
open Go.RowKit
set_option maxRecDepth 8000

theorem inP_snoc (o l : List FileD) (f : FileD) : inP o (l ++ [f]) = (putI (inP o l) f).1 := by simp [inP]
theorem inP_len : ∀ (l o : List FileD), (inP o l).length ≤ o.length + l.length := by
  intro l
  induction l with
  | nil => intro o; simp [inP]
  | cons f r ih =>
    intro o
    have h1 := ih (putI o f).1
    have h2 := putI_len o f
    simp only [inP, List.foldl_cons, List.length_cons] at h1 ⊢
    omega
theorem inP_mem : ∀ (l o : List FileD), ∀ g ∈ inP o l, g ∈ o ∨ g ∈ l := by
  intro l
  induction l with
  | nil => intro o g hg; exact .inl hg
  | cons f r ih =>
    intro o g hg
    rcases ih (putI o f).1 g hg with h | h
    · rcases putI_mem o f g h with h | h
      · exact .inl h
      · exact .inr (by simp [h])
    · exact .inr (by simp [h])
theorem outP_eq (ps : List Str) (o l : List FileD) : outP ps o l = inP o (l.filter fun f => !visB f ps) := rfl
theorem outP_hit {ps : List Str} {t : List FileD} {i : Nat} (h : i < t.length) (hv : visB t[i] ps = true) : outP ps [] (t.take (i + 1)) = outP ps [] (t.take i) := by
  rw [outP_eq, outP_eq, take_succ' h, List.filter_append]; simp [List.filter_cons, hv]
theorem outP_miss {ps : List Str} {t : List FileD} {i : Nat} (h : i < t.length) (hv : visB t[i] ps = false) : outP ps [] (t.take (i + 1)) = (putI (outP ps [] (t.take i)) t[i]).1 := by
  rw [outP_eq, outP_eq, take_succ' h, List.filter_append]
  simp [List.filter_cons, hv, inP]
theorem outP_len (ps : List Str) (l : List FileD) : (outP ps [] l).length ≤ l.length := by
  rw [outP_eq]
  have h1 := inP_len (l.filter fun f => !visB f ps) []
  have h2 := List.length_filter_le (fun f => !visB f ps) l
  simp at h1; omega
theorem outP_mem (ps : List Str) (l : List FileD) : ∀ g ∈ outP ps [] l, g ∈ l := by
  intro g hg
  rw [outP_eq] at hg
  rcases inP_mem _ _ g hg with h | h
  · simp at h
  · exact (List.mem_filter.1 h).1

def okSz (t : List FileD) : Prop := t.length ≤ 1048576 ∧ (∀ f ∈ t, f.text.length ≤ 1048576) ∧ ∀ f ∈ t, f.path.length ≤ 536870912
abbrev vpEnv (a : List FileD × List Str × List FileD) : List (Nat × Bool × AV) := [(0, true, .sl true 2 (eFiles a.1)), (1, true, .sl true 1 (eStrs a.2.1)), (2, true, .sl true 2 (eFiles a.2.2)), (6, true, .nil), (7, true, .bool false)]
def vpA (a : List FileD × List Str × List FileD) : Inv := ⟨Nat, fun i => ⟨vpEnv a ++ [(8, true, .own 9 2 (eFiles (outP a.2.1 [] (a.1.take i)))), (26, true, .sl true 2 (eFiles a.1)), (27, true, .int .i64 a.1.length), (28, true, .int .i64 i)], ownFiles 9 (outP a.2.1 [] (a.1.take i))⟩, fun i => i ≤ a.1.length, fun i => a.1.length - i⟩
def vpB (a : List FileD × List Str × List FileD) : Inv := ⟨Nat, fun i => ⟨vpEnv a ++ [(8, true, .own 9 2 (eFiles (inP (outP a.2.1 [] a.1) (a.2.2.take i)))), (43, true, .sl true 2 (eFiles a.2.2)), (44, true, .int .i64 a.2.2.length), (45, true, .int .i64 i)], ownFiles 9 (inP (outP a.2.1 [] a.1) (a.2.2.take i))⟩, fun i => i ≤ a.2.2.length ∧ ∀ x, x ∈ a.2.2.take i → visB x a.2.1 = true, fun i => a.2.2.length - i⟩
def vpInv (a : List FileD × List Str × List FileD) (n _g : Nat) : Inv := if n = 7 then vpA a else vpB a
theorem vpInv_7 (a : List FileD × List Str × List FileD) (g : Nat) : vpInv a 7 g = vpA a := rfl
theorem vpInv_13 (a : List FileD × List Str × List FileD) (g : Nat) : vpInv a 13 g = vpB a := rfl
def cViewPutI : Con := .fn 67 (List FileD × List Str × List FileD) (fun a => [.sl true 2 (eFiles a.1), .sl true 1 (eStrs a.2.1), .sl true 2 (eFiles a.2.2)]) (fun a => okSz a.1 ∧ (∀ q ∈ a.2.1, q.length ≤ 536870912) ∧ okSz a.2.2) (fun a => .tup [.own 8 2 (eFiles (viewPutI a.1 a.2.1 a.2.2).1), .bool (viewPutI a.1 a.2.1 a.2.2).2]) (fun a => ownFiles 8 (viewPutI a.1 a.2.1 a.2.2).1)
set_option maxHeartbeats 4000000 in
theorem viewPutI_has : Has Tryd.prog 30 cViewPutI := by
  refine has_walk mixed tTab_ok (l := [(18, cTreeOk), (82, cViewOk), (84, cVisible), (83, cCopyTree), (88, cPut), (89, cChanged)]) (HasL.cons treeOk_has (HasL.cons viewOk_has (HasL.cons visible_has (HasL.cons copyTree_has (HasL.cons put_has (HasL.cons changed_has HasL.nil)))))) [0, 1, 2, 6, 7, 8, 10, 12, 26, 27, 28, 43, 44, 45] (fun a => vpInv a) [] Tryd.func30 (by kernel_rfl) (code := _) (by unfold Tryd.f30; rfl) (by kernel_rfl) (by decide) (fun _ => ⟨(), trivial⟩) (by intro h; first | exact fun _ => rfl | cases h) (by kernel_rfl) ?_
  intro a ha
  obtain ⟨t, ps, v⟩ := a
  obtain ⟨⟨q1, q2, q3⟩, q4, q5, q6, q7⟩ : okSz t ∧ (∀ q ∈ ps, q.length ≤ 536870912) ∧ okSz v := ha
  simp -implicitDefEqProofs [vc_skip, extOf, vc_seq, vc_cond, vc_block, vc_exit, vc_ret, vc_region, vc_regionD, vc_loop, kSeq_normal, kSeq_ret, kSeq_exit, kBlock_normal, kBlock_ret, kBlock_exit, kLoop_normal, kLoop_ret, kLoop_exit, kCond_bool, kNorm_app, vcOps_nil, vcOps_cons, kOps_app, kStep_some, kStep_none, vcDL_nil, vcDL_cons, kOpsD_app, kStepD_true, kStepD_false, kStepC_some, kStepC_none, kMv_app, act3_store, act3_call, act3_bs, kAct_app, kSt2_app, stealSlots, stealL, stealOne, subIn, AV.stolen, act_store, act_bs, act_append, act_call, kSet_app, kSet2_app, kSetG_app, kSetG_app0, kStore_ptr, kStore_eptr, kCallW_some, kCallC_some, kCall_some, wk_T, wk_n, wk_keep, wk_inv, wk_act, wk_dr, wk_le, aCalm, wantC, dstOk, calm, aCallK, aCall3K, subOf, subRep, aCall2K, apnd, bsMove, putBox, putOwn, partAV, mvL, AV.mv, AV.base, AV.moved, AV.src, TI.flat, apSize, pickAV, St.val, St.cond, St.fn, St.next, St.set, St.trim, wipe_eq, wipeE_app, wipeM_app, pickEnv, get?, cGet, upd_app, withPuts, killAll, rm, freshP, Oper.hnd, Sc.st, ofConst, constOk, lenAV, elemLen, loadAV, ldL, ld1, fieldAddrAV, indexAddrAV, sliceAV, convAV, buildAV, fillAV, fieldAV, Out.of, binAV, AV.rows, AV.one, AV.cells, AV.deepOk, AV.toD, toDs, partRows, partRowsM, partsDeep, TK.zeroAV, TK.zeroD, byteOf, inR, Op.operands, Call.operands, passVs, passV, passL, pass1, passB, pasVs, pasV, pasL, pas1, ownsOk, okHs, okHs2, okFin, finOk2, rho, over, backRes, backAV, backAV1, backBlk, putBack, back2, back2_V, back2_1, m2, AV.wipe, AV.wipeV, AV.wipe1, Blk.wipe, AV.hs, AV.hs.hsL, alOps, Con.start2, Con.pk, bodyQ, fini, resAV, resA, firstId, Sc.from, renEnv, renT, renV, renVs, renL, ren1, renBox, renOwn, okRen, clOf, actB, setRow, flatRows, flatD, noInv, shr_nil, shr_some, kStepF_some, shareL, AV.viewed, AV.viewed1, cViewPutI, cTreeOk, cViewOk, cVisible, cCopyTree, cPut, cChanged, Con.fn, tTab, vpInv_7, vpInv_13, vpA, vpB, vpEnv]
  try dsimp only
  have hO : ∀ i, ((outP ps [] (t.take i)).length ≤ 1048576 ∧ ∀ f ∈ outP ps [] (t.take i), f.text.length ≤ 1048576) := fun i => ⟨by
    have := outP_len ps (t.take i)
    simp at this; omega, fun f hf => q2 f (List.mem_of_mem_take (outP_mem _ _ f hf))⟩
  refine ⟨q3, fun h => ⟨⟨by simp [viewPutI, h], by simp [viewPutI, h]⟩, by simp [viewPutI, h]⟩, fun ht => ⟨q4, fun h => ⟨⟨by simp [viewPutI, h], by simp [viewPutI, h]⟩, by simp [viewPutI, h]⟩, fun hps => ⟨q7, fun hv => ⟨⟨q1, q2⟩, ⟨by simp [viewPutI, ht, hps, hv], by simp [viewPutI, ht, hps, hv]⟩, by simp [viewPutI, ht, hps, hv]⟩,
    fun hv _ => ⟨⟨0, ⟨⟨rfl, rfl⟩, rfl⟩, Nat.zero_le _⟩, fun i hi => ⟨fun hlt => ⟨hlt, fun _ => ⟨by simp [hlt, eFile], fun _ _ _ => ⟨t[i], ps, ⟨⟨by simp [hlt, eFile], by simp [hlt, eFile]⟩, rfl⟩, q4,
      fun hvis => ⟨outP ps [] (t.take i), t[i], ⟨rfl, by simp [hlt, eFile], by simp [hlt, eFile]⟩, ⟨hO i, q2 _ (List.getElem_mem hlt)⟩, ⟨by omega, by omega⟩, fun _ _ => ⟨i + 1, ⟨⟨outP_miss hlt hvis, by omega⟩, (outP_miss hlt hvis).symm⟩, by omega, by omega⟩⟩,
      fun hvis => ⟨⟨by omega, by omega⟩, fun _ _ => ⟨i + 1, ⟨⟨outP_hit hlt hvis, by omega⟩, (outP_hit hlt hvis).symm⟩, by omega, by omega⟩⟩⟩⟩⟩, fun hge _ => ?_⟩⟩⟩⟩⟩
  have e : t.take i = t := List.take_of_length_le hge
  have ht8 := treeI_le t ht
  have hv8 := treeI_le v hv
  have hI : ∀ j, ((inP (outP ps [] t) (v.take j)).length ≤ 1048576 ∧ ∀ f ∈ inP (outP ps [] t) (v.take j), f.text.length ≤ 1048576) := fun j => ⟨by
    have h1 := inP_len (v.take j) (outP ps [] t)
    have h2 := outP_len ps t
    simp at h1; omega, fun f hf => (inP_mem _ _ f hf).elim (fun h => q2 f (outP_mem _ _ f h)) fun h => q6 f (List.mem_of_mem_take h)⟩
  have hs : ∀ j (h : j < v.length), inP (outP ps [] t) (v.take (j + 1)) = (putI (inP (outP ps [] t) (v.take j)) v[j]).1 := fun j h => by rw [take_succ' h, inP_snoc]
  refine ⟨⟨0, ⟨⟨by rw [e]; rfl, rfl⟩, by rw [e]; rfl⟩, Nat.zero_le _, by simp⟩, fun j hj hb => ⟨fun hlt => ⟨hlt, fun _ => ⟨by simp [hlt, eFile], fun _ _ _ => ⟨v[j], ps, ⟨⟨by simp [hlt, eFile], by simp [hlt, eFile]⟩, rfl⟩, q4,
    fun hvis => ?_, fun hvis => ⟨inP (outP ps [] t) (v.take j), v[j], ⟨rfl, by simp [hlt, eFile], by simp [hlt, eFile]⟩, ⟨hI j, q6 _ (List.getElem_mem hlt)⟩, ⟨by omega, by omega⟩, fun _ _ => ⟨j + 1, ⟨⟨hs j hlt, by omega⟩, (hs j hlt).symm⟩, ⟨by omega, take_step hlt hb hvis⟩, by omega⟩⟩⟩⟩⟩, fun hge2 => ?_⟩⟩
  · have hall : (v.all fun f => visB f ps) = false := by
      rw [List.all_eq_false]
      exact ⟨v[j], List.getElem_mem hlt, by simp [hvis]⟩
    exact ⟨⟨q1, q2⟩, ⟨by simp [viewPutI, ht, hps, hv, hall], by simp [viewPutI, ht, hps, hv, hall]⟩, by simp [viewPutI, ht, hps, hv, hall]⟩
  · have e2 : v.take j = v := List.take_of_length_le hge2
    rw [e2] at hb
    have hall : (v.all fun f => visB f ps) = true := List.all_eq_true.2 hb
    rw [e2]
    have hval : viewPutI t ps v = if treeI (inP (outP ps [] t) v) = true then (inP (outP ps [] t) v, true) else (t, false) := by
      unfold viewPutI
      rw [ht, hps, hv, hall]; rfl
    refine ⟨t, _, ⟨rfl, rfl⟩, rfl, ⟨⟨q1, q2⟩, fun f hf => (inP_mem _ _ f hf).elim (fun h => q3 f (outP_mem _ _ f h)) fun h => q7 f h⟩, ?_⟩
    rw [hval]
    rcases hT : treeI (inP (outP ps [] t) v) with _ | _ <;> simp

def setP (o : List FileD) (l : List FileD) : List FileD := l.foldl setS o
theorem setP_snoc (o l : List FileD) (f : FileD) : setP o (l ++ [f]) = setS (setP o l) f := by simp [setP]
theorem setP_len : ∀ (l o : List FileD), (setP o l).length ≤ o.length + l.length := by
  intro l
  induction l with
  | nil => intro o; simp [setP]
  | cons f r ih =>
    intro o
    have h1 := ih (setS o f)
    have h2 := setS_len o f
    simp only [setP, List.foldl_cons, List.length_cons] at h1 ⊢
    omega
def viewPutS (t : List FileD) (ps : List Str) (v : List FileD) : List FileD × Bool :=
  if treeS t && viewS ps then (if treeS v then (if v.all (fun f => in25 ps f.path) then (if treeS (setP (filB (fun f => !in25 ps f.path) t) v) then (setP (filB (fun f => !in25 ps f.path) t) v, true) else (t, false)) else (t, false)) else (t, false)) else ([], false)
def vsA (a : List FileD × List Str × List FileD) : Inv := ⟨Nat, fun i => ⟨vpEnv a ++ [(8, true, .own 9 2 (eFiles (filB (fun f => !in25 a.2.1 f.path) (a.1.take i)))), (9, true, .own 11 2 (eFiles a.1)), (10, true, .int .i64 i)], [(9, .own 32 2 false (eFiles (filB (fun f => !in25 a.2.1 f.path) (a.1.take i)))), (11, .own 32 2 true (eFiles a.1))]⟩, fun i => i ≤ a.1.length, fun i => a.1.length - i⟩
def vsB (a : List FileD × List Str × List FileD) : Inv := ⟨Nat, fun i => ⟨vpEnv a ++ [(8, true, .sl false 2 (eFiles (setP (filB (fun f => !in25 a.2.1 f.path) a.1) (a.2.2.take i)))), (9, true, .own 11 2 (eFiles a.1)), (11, true, .int .i64 i)], [(11, .own 32 2 true (eFiles a.1))]⟩, fun i => i ≤ a.2.2.length ∧ ∀ x, x ∈ a.2.2.take i → in25 a.2.1 x.path = true, fun i => a.2.2.length - i⟩
def vsInv (a : List FileD × List Str × List FileD) (n _g : Nat) : Inv := if n = 6 then vsA a else vsB a
theorem vsInv_6 (a : List FileD × List Str × List FileD) (g : Nat) : vsInv a 6 g = vsA a := rfl
theorem vsInv_13 (a : List FileD × List Str × List FileD) (g : Nat) : vsInv a 13 g = vsB a := rfl
def cViewPutS : Con := .fn 74 (List FileD × List Str × List FileD) (fun a => [.sl true 2 (eFiles a.1), .sl true 1 (eStrs a.2.1), .sl true 2 (eFiles a.2.2)]) (fun a => (a.1.length ≤ 1048576 ∧ ∀ f ∈ a.1, f.text.length ≤ 1048576) ∧ (a.2.2.length ≤ 1048576 ∧ ∀ f ∈ a.2.2, f.text.length ≤ 1048576)) (fun a => .tup [.sl false 2 (eFiles (viewPutS a.1 a.2.1 a.2.2).1), .bool (viewPutS a.1 a.2.1 a.2.2).2]) (fun _ => [])
set_option maxHeartbeats 4000000 in
theorem viewPutS_has : Has Tryd.prog 36 cViewPutS := by
  refine has_walk mixed tTab_ok (l := [(72, cL4Ok), (85, cL25Paths), (86, cL4Copy), (87, cL25In), (91, cL4Set)]) (HasL.cons l4Ok_has (HasL.cons l25Paths_has (HasL.cons l4Copy_has (HasL.cons l25In_has (HasL.cons l4Set_has HasL.nil))))) [0, 1, 2, 6, 7, 8, 9, 10, 11] (fun a => vsInv a) [4138] Tryd.func36 (by kernel_rfl) (code := _) (by unfold Tryd.f36; rfl) (by kernel_rfl) (by decide) (fun _ => ⟨(), trivial⟩) (by intro h; first | exact fun _ => rfl | cases h) (by kernel_rfl) ?_
  intro a ha
  obtain ⟨t, ps, v⟩ := a
  obtain ⟨⟨q1, q2⟩, q5, q6⟩ : (t.length ≤ 1048576 ∧ ∀ f ∈ t, f.text.length ≤ 1048576) ∧ (v.length ≤ 1048576 ∧ ∀ f ∈ v, f.text.length ≤ 1048576) := ha
  simp -implicitDefEqProofs [vc_skip, extOf, vc_seq, vc_cond, vc_block, vc_exit, vc_ret, vc_region, vc_regionD, vc_loop, kSeq_normal, kSeq_ret, kSeq_exit, kBlock_normal, kBlock_ret, kBlock_exit, kLoop_normal, kLoop_ret, kLoop_exit, kCond_bool, kNorm_app, vcOps_nil, vcOps_cons, kOps_app, kStep_some, kStep_none, vcDL_nil, vcDL_cons, kOpsD_app, kStepD_true, kStepD_false, kStepC_some, kStepC_none, kMv_app, act3_store, act3_call, act3_bs, kAct_app, kSt2_app, stealSlots, stealL, stealOne, subIn, AV.stolen, act_store, act_bs, act_append, act_call, kSet_app, kSet2_app, kSetG_app, kSetG_app0, kStore_ptr, kStore_eptr, kCallW_some, kCallC_some, kCall_some, wk_T, wk_n, wk_keep, wk_inv, wk_act, wk_dr, wk_le, aCalm, wantC, dstOk, calm, aCallK, aCall3K, subOf, subRep, aCall2K, apnd, bsMove, putBox, putOwn, partAV, mvL, AV.mv, AV.base, AV.moved, AV.src, TI.flat, apSize, pickAV, St.val, St.cond, St.fn, St.next, St.set, St.trim, wipe_eq, wipeE_app, wipeM_app, pickEnv, get?, cGet, upd_app, withPuts, killAll, rm, freshP, Oper.hnd, Sc.st, ofConst, constOk, lenAV, elemLen, loadAV, ldL, ld1, fieldAddrAV, indexAddrAV, sliceAV, convAV, buildAV, fillAV, fieldAV, Out.of, binAV, AV.rows, AV.one, AV.cells, AV.deepOk, AV.toD, toDs, partRows, partRowsM, partsDeep, TK.zeroAV, TK.zeroD, byteOf, inR, Op.operands, Call.operands, passVs, passV, passL, pass1, passB, pasVs, pasV, pasL, pas1, ownsOk, okHs, okHs2, okFin, finOk2, rho, over, backRes, backAV, backAV1, backBlk, putBack, back2, back2_V, back2_1, m2, AV.wipe, AV.wipeV, AV.wipe1, Blk.wipe, AV.hs, AV.hs.hsL, alOps, Con.start2, Con.pk, bodyQ, fini, resAV, resA, firstId, Sc.from, renEnv, renT, renV, renVs, renL, ren1, renBox, renOwn, okRen, clOf, actB, setRow, flatRows, flatD, noInv, shr_nil, shr_some, kStepF_some, shareL, AV.viewed, AV.viewed1, cViewPutS, cL4Ok, cL25Paths, cL4Copy, cL25In, cL4Set, Con.fn, tTab, vsInv_6, vsInv_13, vsA, vsB, vpEnv]
  try dsimp only
  have hh : ∀ i (h : i < t.length), in25 ps t[i].path = false → filB (fun f => !in25 ps f.path) (t.take (i + 1)) = filB (fun f => !in25 ps f.path) (t.take i) ++ [t[i]] := fun i h hv => fil_hit h (by simp [hv])
  have hm : ∀ i (h : i < t.length), in25 ps t[i].path = true → filB (fun f => !in25 ps f.path) (t.take (i + 1)) = filB (fun f => !in25 ps f.path) (t.take i) := fun i h hv => fil_miss h (by simp [hv])
  have hl := fun i => fil_le (fun f => !in25 ps f.path) t i
  refine ⟨fun h => by simp [viewPutS, h], fun ht => ⟨fun h => by simp [viewPutS, h], fun hps => ⟨⟨q1, q2⟩, ⟨0, ⟨⟨rfl, rfl⟩, rfl⟩, Nat.zero_le _⟩, fun i hi _ => ⟨fun hlt => ⟨hlt, fun _ => ⟨by simp [hlt, eFile], fun _ _ => ⟨ps, t[i].path, ⟨rfl, by simp [hlt, eFile]⟩,
    fun hv => ⟨hlt, fun _ => ⟨by simp [hlt, eFile], fun _ _ _ => ⟨⟨by have := hl i; omega, by have := hl i; omega⟩, ⟨by omega, by omega⟩, fun _ _ => ⟨i + 1, ⟨⟨by rw [hh i hlt hv]; simp [eFiles, eFile, hlt], by omega⟩, by rw [hh i hlt hv]; simp [eFiles, eFile, hlt]⟩, by omega, by omega⟩⟩⟩⟩,
    fun hv => ⟨⟨by omega, by omega⟩, fun _ _ => ⟨i + 1, ⟨⟨hm i hlt hv, by omega⟩, (hm i hlt hv).symm⟩, by omega, by omega⟩⟩⟩⟩⟩, fun hge => ⟨fun hv => by simp [viewPutS, ht, hps, hv], fun hv => ?_⟩⟩⟩⟩⟩
  have e : t.take i = t := List.take_of_length_le hge
  rw [e]
  have ht8 := treeS_le t ht
  have hv8 := treeS_le v hv
  have hl2 : (filB (fun f => !in25 ps f.path) t).length ≤ 8 := by
    have := hl i
    rw [e] at this
    have h3 := List.length_filter_le (fun f => !in25 ps f.path) t
    unfold filB
    omega
  have hs : ∀ j (h : j < v.length), setP (filB (fun f => !in25 ps f.path) t) (v.take (j + 1)) = setS (setP (filB (fun f => !in25 ps f.path) t) (v.take j)) v[j] := fun j h => by rw [take_succ' h, setP_snoc]
  refine ⟨⟨0, ⟨rfl, rfl⟩, Nat.zero_le _, by simp⟩, fun j hj hb _ => ⟨fun hlt => ⟨hlt, fun _ => ⟨by simp [hlt, eFile], fun _ _ => ⟨ps, v[j].path, ⟨rfl, by simp [hlt, eFile]⟩, fun hvis => ?_, fun hvis => ⟨hlt, fun _ => ⟨by simp [hlt, eFile], fun _ _ _ => ⟨setP (filB (fun f => !in25 ps f.path) t) (v.take j), v[j], ⟨rfl, by simp [hlt, eFile], by simp [hlt, eFile]⟩, ⟨?_, q6 _ (List.getElem_mem hlt)⟩, ⟨by omega, by omega⟩, fun _ _ => ⟨j + 1, ⟨hs j hlt, by omega⟩, ⟨by omega, take_step (q := fun f : FileD => in25 ps f.path = true) hlt hb hvis⟩, by omega⟩⟩⟩⟩⟩⟩⟩, fun hge2 => ?_⟩⟩
  · have hall : (v.all fun f => in25 ps f.path) = false := by
      rw [List.all_eq_false]
      exact ⟨v[j], List.getElem_mem hlt, by simp [hvis]⟩
    simp [viewPutS, ht, hps, hv, hall]
  · have h1 := setP_len (v.take j) (filB (fun f => !in25 ps f.path) t)
    simp at h1
    omega
  · have e2 : v.take j = v := List.take_of_length_le hge2
    rw [e2] at hb ⊢
    have hall : (v.all fun f => in25 ps f.path) = true := List.all_eq_true.2 hb
    have hval : viewPutS t ps v = if treeS (setP (filB (fun f => !in25 ps f.path) t) v) = true then (setP (filB (fun f => !in25 ps f.path) t) v, true) else (t, false) := by
      unfold viewPutS
      rw [ht, hps, hv, hall]; rfl
    rw [hval]
    exact ⟨fun h => by simp [h], fun h => by simp [h]⟩

end Vx
end Go.Proofs.YtlhkmgbmnbkaeaaDoor
/-
  A file put into a sorted tree: the program's way and the reference's are the same; so are both ViewPut.
-/
namespace Go.Proofs.YtlhkmgbmnbkaeaaDoor
namespace Vx
open Go.RowKit

abbrev Srt (t : List FileD) : Prop := t.Pairwise fun a b => a.path < b.path
def ins (o : List FileD) (f : FileD) : List FileD := o.filter (fun g => decide (g.path < f.path)) ++ f :: o.filter (fun g => decide (f.path < g.path))

theorem tree_srt {t : List FileD} (h : treeI t = true) : Srt t := by
  refine List.pairwise_iff_getElem.2 fun i j hi hj hij => ?_
  have := tree_less h j i hij hj
  rw [less_eq, decide_eq_true_eq] at this
  exact this
theorem srt_ins {o : List FileD} {f : FileD} (h : Srt o) : Srt (ins o f) := by
  unfold ins
  refine List.pairwise_append.2 ⟨h.filter _, List.pairwise_cons.2 ⟨fun g hg => ?_, h.filter _⟩, fun a ha b hb => ?_⟩
  · simpa using (List.mem_filter.1 hg).2
  · have h1 : a.path < f.path := by simpa using (List.mem_filter.1 ha).2
    rcases List.mem_cons.1 hb with rfl | hb
    · exact h1
    · have h2 : f.path < b.path := by simpa using (List.mem_filter.1 hb).2
      exact str_trans h1 h2

/-- Where in a sorted tree a path comes. -/
theorem ins_at {o : List FileD} {f : FileD} (h : Srt o) {k : Nat} (hk : k ≤ o.length) (h1 : ∀ j (hj : j < o.length), j < k → o[j].path < f.path) (h2 : ∀ j (hj : j < o.length), k ≤ j → ¬ o[j].path < f.path) :
    o.filter (fun g => decide (g.path < f.path)) = o.take k ∧ o.filter (fun g => decide (f.path < g.path)) = (o.drop k).filter (fun g => decide (f.path < g.path)) := by
  have e : o = o.take k ++ o.drop k := (List.take_append_drop k o).symm
  have a1 : (o.take k).filter (fun g => decide (g.path < f.path)) = o.take k := List.filter_eq_self.2 fun g hg => by
    obtain ⟨j, hj, rfl⟩ := List.getElem_of_mem hg
    simp only [List.length_take] at hj
    rw [List.getElem_take]
    exact decide_eq_true (h1 j (by omega) (by omega))
  have a2 : (o.drop k).filter (fun g => decide (g.path < f.path)) = [] := List.filter_eq_nil_iff.2 fun g hg => by
    obtain ⟨j, hj, rfl⟩ := List.getElem_of_mem hg
    simp only [List.length_drop] at hj
    rw [List.getElem_drop]
    simpa using h2 (k + j) (by omega) (by omega)
  have a3 : (o.take k).filter (fun g => decide (f.path < g.path)) = [] := List.filter_eq_nil_iff.2 fun g hg => by
    obtain ⟨j, hj, rfl⟩ := List.getElem_of_mem hg
    simp only [List.length_take] at hj
    rw [List.getElem_take]
    simpa using str_asymm (h1 j (by omega) (by omega))
  constructor
  · conv => lhs; rw [e]
    rw [List.filter_append, a1, a2, List.append_nil]
  · conv => lhs; rw [e]
    rw [List.filter_append, a3, List.nil_append]

theorem putKat_spec {o : List FileD} {p : Str} (h : Srt o) : ∀ k, k ≤ o.length → (∀ j (hj : j < o.length), k ≤ j → ¬ o[j].path < p) →
    (∀ j (hj : j < o.length), j < putKat o p k → o[j].path < p) ∧ (∀ j (hj : j < o.length), putKat o p k ≤ j → ¬ o[j].path < p) := by
  intro k
  induction k with
  | zero => intro _ h2; exact ⟨fun j _ hj => by simp [putKat] at hj, fun j hj _ => h2 j hj (Nat.zero_le _)⟩
  | succ k ih =>
    intro hk h2
    have hlt : k < o.length := by omega
    have hd : o.getD k default = o[k] := by simp [List.getD_eq_getElem?_getD, hlt]
    by_cases hb : o[k].path < p
    · have e : putKat o p (k + 1) = k + 1 := by rw [putKat, if_pos]; rw [hd, less_eq]; exact decide_eq_true hb
      rw [e]
      refine ⟨fun j hj hjk => ?_, h2⟩
      by_cases ejk : j = k
      · subst ejk; exact hb
      · exact str_trans (List.pairwise_iff_getElem.1 h j k hj hlt (by omega)) hb
    · have e : putKat o p (k + 1) = putKat o p k := by rw [putKat, if_neg]; rw [hd, less_eq]; simpa using hb
      rw [e]
      refine ih (by omega) fun j hj hjk => ?_
      by_cases ejk : j = k
      · subst ejk; exact hb
      · exact h2 j hj (by omega)

theorem putI_ins {o : List FileD} {f : FileD} (h : Srt o) : (putI o f).1 = ins o f := by
  obtain ⟨h1, h2⟩ := putKat_spec (p := f.path) h o.length (Nat.le_refl _) (fun j hj hjk => by omega)
  have hk := putK_le o f.path
  change ∀ j (hj : j < o.length), j < putK o f.path → _ at h1
  change ∀ j (hj : j < o.length), putK o f.path ≤ j → _ at h2
  generalize hkk : putK o f.path = k at h1 h2 hk
  obtain ⟨a1, a2⟩ := ins_at h hk h1 h2
  unfold ins putI
  rw [a1, a2, hkk]
  split
  · rename_i hp
    obtain ⟨hlt, hp⟩ := hp
    rw [List.getD_eq_getElem?_getD, List.getElem?_eq_getElem hlt] at hp
    simp only [Option.getD_some] at hp
    change o.set k f = _
    rw [List.set_eq_take_append_cons_drop, if_pos hlt]
    congr 2
    rw [List.drop_eq_getElem_cons hlt, List.filter_cons, if_neg (by simp [hp, str_irrefl])]
    symm
    refine List.filter_eq_self.2 fun g hg => ?_
    obtain ⟨j, hj, rfl⟩ := List.getElem_of_mem hg
    simp only [List.length_drop] at hj
    rw [List.getElem_drop]
    have := List.pairwise_iff_getElem.1 h k (k + 1 + j) hlt (by omega) (by omega)
    rw [hp] at this
    exact decide_eq_true this
  · rename_i hp
    change insAtF o k f = _
    unfold insAtF
    congr 2
    symm
    refine List.filter_eq_self.2 fun g hg => ?_
    obtain ⟨j, hj, rfl⟩ := List.getElem_of_mem hg
    simp only [List.length_drop] at hj
    rw [List.getElem_drop]
    have hlt : k < o.length := by omega
    have hne : ¬ o[k].path = f.path := fun e => hp ⟨hlt, by rw [List.getD_eq_getElem?_getD, List.getElem?_eq_getElem hlt]; exact e⟩
    have hgt := str_total _ _ (h2 k hlt (Nat.le_refl _)) hne
    by_cases hj0 : j = 0
    · subst hj0; exact decide_eq_true hgt
    · exact decide_eq_true (str_trans hgt (List.pairwise_iff_getElem.1 h k (k + j) hlt (by omega) (by omega)))

theorem setT (f : FileD) : ∀ (l acc : List FileD), l.foldl (setStep f) (acc, true) = (acc ++ l.filter (fun g => !decide (g.path = f.path)), true) := by
  intro l
  induction l with
  | nil => intro acc; simp
  | cons g r ih =>
    intro acc
    rw [List.foldl_cons]
    by_cases hp : g.path = f.path
    · have : setStep f (acc, true) g = (acc, true) := by simp [setStep, hp]
      rw [this, ih, List.filter_cons, if_neg (by simp [hp])]
    · have : setStep f (acc, true) g = (acc ++ [g], true) := by simp [setStep, hp]
      rw [this, ih, List.filter_cons, if_pos (by simp [hp])]
      simp
theorem setF (f : FileD) : ∀ (l acc : List FileD), Srt l → (if (l.foldl (setStep f) (acc, false)).2 then (l.foldl (setStep f) (acc, false)).1 else (l.foldl (setStep f) (acc, false)).1 ++ [f]) = acc ++ ins l f := by
  intro l
  induction l with
  | nil => intro acc _; simp [ins]
  | cons g r ih =>
    intro acc h
    obtain ⟨h1, h2⟩ := List.pairwise_cons.1 h
    rw [List.foldl_cons]
    by_cases hb : g.path < f.path
    · have hlb : Go.Op.bytesLess g.path f.path = true := by rw [less_eq]; exact decide_eq_true hb
      have hne : ¬ g.path = f.path := fun e => by rw [e] at hb; exact str_irrefl _ hb
      have : setStep f (acc, false) g = (acc ++ [g], false) := by simp [setStep, hlb, hne]
      rw [this, ih _ h2]
      unfold ins
      rw [List.filter_cons, if_pos (decide_eq_true hb), List.filter_cons, if_neg (by simpa using str_asymm hb)]
      simp
    · have hlb : Go.Op.bytesLess g.path f.path = false := by rw [less_eq]; exact decide_eq_false hb
      have hgr : ∀ x ∈ r, f.path < x.path := fun x hx => by
        by_cases e : g.path = f.path
        · rw [← e]; exact h1 x hx
        · exact str_trans (str_total _ _ hb e) (h1 x hx)
      have b1 : r.filter (fun x => decide (x.path < f.path)) = [] := List.filter_eq_nil_iff.2 fun x hx => by simpa using str_asymm (hgr x hx)
      have b2 : r.filter (fun x => decide (f.path < x.path)) = r := List.filter_eq_self.2 fun x hx => decide_eq_true (hgr x hx)
      have b3 : r.filter (fun x => !decide (x.path = f.path)) = r := List.filter_eq_self.2 fun x hx => by
        have := hgr x hx
        simp only [Bool.not_eq_true', decide_eq_false_iff_not]
        intro e; rw [e] at this; exact str_irrefl _ this
      by_cases e : g.path = f.path
      · have : setStep f (acc, false) g = (acc ++ [f], true) := by
          rw [e] at hlb
          simp [setStep, hlb, e]
        rw [this, setT, b3]
        simp only [if_true]
        unfold ins
        rw [List.filter_cons, if_neg (by simpa using hb), List.filter_cons, if_neg (by simp [e, str_irrefl]), b1, b2]
        simp
      · have : setStep f (acc, false) g = (acc ++ [f] ++ [g], true) := by simp [setStep, hlb, e]
        rw [this, setT, b3]
        simp only [if_true]
        unfold ins
        rw [List.filter_cons, if_neg (by simpa using hb), List.filter_cons, if_pos (decide_eq_true (str_total _ _ hb e)), b1, b2]
        simp
theorem setS_ins {o : List FileD} {f : FileD} (h : Srt o) : setS o f = ins o f := by
  have := setF f o [] h
  rw [List.nil_append] at this
  exact this

theorem inP_set : ∀ {l o : List FileD}, Srt o → inP o l = setP o l ∧ Srt (inP o l) := by
  intro l
  induction l with
  | nil => intro o h; exact ⟨rfl, h⟩
  | cons f r ih =>
    intro o h
    have e1 := putI_ins (f := f) h
    have e2 := setS_ins (f := f) h
    obtain ⟨i1, i2⟩ := ih (srt_ins (f := f) h)
    simp only [inP, setP, List.foldl_cons] at i1 i2 ⊢
    rw [e1, e2]
    exact ⟨i1, i2⟩
theorem inP_self : ∀ {l o : List FileD}, Srt (o ++ l) → inP o l = o ++ l := by
  intro l
  induction l with
  | nil => intro o _; simp [inP]
  | cons f r ih =>
    intro o h
    have ho : Srt o := (List.pairwise_append.1 h).1
    have hlt : ∀ g ∈ o, g.path < f.path := fun g hg => (List.pairwise_append.1 h).2.2 g hg f (by simp)
    have e : (putI o f).1 = o ++ [f] := by
      rw [putI_ins ho]
      unfold ins
      rw [List.filter_eq_self.2 fun g hg => decide_eq_true (hlt g hg), List.filter_eq_nil_iff.2 fun g hg => by simpa using str_asymm (hlt g hg)]
    have : inP o (f :: r) = inP (o ++ [f]) r := by simp only [inP, List.foldl_cons, e]
    rw [this, ih (by simpa using h)]
    simp

theorem viewPut_eq (t : List FileD) (ps : List Str) (v : List FileD) : viewPutI t ps v = viewPutS t ps v := by
  unfold viewPutI viewPutS
  rw [tree_eq, tree_eq, view_eq]
  have hv : (fun f : FileD => visB f ps) = fun f : FileD => in25 ps f.path := funext fun f => vis_in f ps
  rw [hv]
  by_cases ht : treeS t = true
  · have hs : Srt t := tree_srt (by rw [tree_eq]; exact ht)
    have e1 : outP ps [] t = filB (fun f => !in25 ps f.path) t := by
      rw [outP_eq]
      have : (fun f : FileD => !visB f ps) = fun f : FileD => !in25 ps f.path := funext fun f => by rw [vis_in]
      rw [this, inP_self (by simpa using hs.filter _)]
      rfl
    have e2 : inP (outP ps [] t) v = setP (filB (fun f => !in25 ps f.path) t) v := by
      rw [e1]
      exact (inP_set (hs.filter _)).1
    rw [e2, tree_eq]
  · simp [ht]

end Vx
end Go.Proofs.YtlhkmgbmnbkaeaaDoor
/-
  The law FnExactViewPut.
-/
namespace Go.Proofs.YtlhkmgbmnbkaeaaDoor
namespace Vx
open Go.RowKit
set_option maxRecDepth 8000

theorem viewPutS_bd (t : List FileD) (ps : List Str) (v : List FileD) : (viewPutS t ps v).1.length ≤ 8 ∧ ∀ f ∈ (viewPutS t ps v).1, f.text.length ≤ 64 := by
  unfold viewPutS
  split
  · rename_i h
    simp only [Bool.and_eq_true] at h
    have h1 := treeS_le t h.1
    split
    · split
      · split
        · rename_i h2; exact treeS_le _ h2
        · exact h1
      · exact h1
    · exact h1
  · simp

def cFnExactViewPut : Con := .fn 142 (List FileD × List Str × List FileD) (fun a => [.sl true 2 (eFiles a.1), .sl true 1 (eStrs a.2.1), .sl true 2 (eFiles a.2.2)]) (fun _ => True) (fun _ => .bool true) (fun _ => [])
set_option maxHeartbeats 4000000 in
theorem fnExactViewPut_calls (x : cFnExactViewPut.A) (hpre : cFnExactViewPut.pre x) {W : World} {vs : List Value} {fp : List (Nat × Nat)} (hr : RdArgs W (cFnExactViewPut.args x) vs fp) (hlen : vs.length ≤ cFnExactViewPut.n) : Calls Tryd.prog 7 vs.toArray W fun e w' => e = .returned (.bool true) ∧ Below W.heap.size W w' := by
  refine law_callsZ mixed tTab_ok (l := [(21, cSzFileS), (35, cSzStringS), (23, cToFileS), (37, cToStringS), (36, cViewPutS), (30, cViewPutI), (25, cEqFileS), (38, cEqStringS), (39, cMarkFileS), (40, cMarkStringS), (41, cHeldFileS)]) (HasL.cons szFileS_has (HasL.cons szStringS_has (HasL.cons toFileS_has (HasL.cons toStringS_has (HasL.cons viewPutS_has (HasL.cons viewPutI_has (HasL.cons eqFileS_has (HasL.cons eqStringS_has (HasL.cons markFileS_has (HasL.cons markStringS_has (HasL.cons heldFileS_has HasL.nil))))))))))) (n := cFnExactViewPut.n) [0, 1, 2, 6, 7, 8, 9, 10, 11, 12, 13, 14, 15, 16, 17, 18, 19] [12] [] Tryd.func7 (code := _) (by unfold Tryd.f7; rfl) (by kernel_rfl) (k := cFnExactViewPut) (x := x) rfl rfl rfl (by kernel_rfl) ?_ hr hlen
  clear hr hlen
  obtain ⟨t, a, v⟩ := x
  clear hpre
  have hz := fun h => szFiles_ok (a := t) (l := 1048576) h
  have g0 : szFiles t 1048576 ≤ 1048576 := szFiles_le (by omega)
  have g1 : 0 ≤ szFiles t 1048576 → okSz t := fun h => ⟨by have := (hz h).1; omega, fun f hf => by have := (hz h).2 f hf; omega, fun f hf => by have := (hz h).2 f hf; omega⟩
  have g4 : ∀ l : Int, l ≤ 1048576 → 0 ≤ szStrs a l → (szStrs a l ≤ 1048576 ∧ a.length ≤ 1048576) ∧ (∀ q ∈ a, q.length ≤ 536870912) := fun l hl h => by
    have h1 := szStrs_ok h
    refine ⟨⟨?_, by omega⟩, fun q hq => by have := h1.2 q hq; omega⟩
    by_cases h0 : 0 ≤ l
    · exact szStrs_le' h0 hl
    · omega
  have g8 : ∀ l : Int, l ≤ 1048576 → 0 ≤ szFiles v l → okSz v := fun l hl h => by
    have h1 := szFiles_ok h
    exact ⟨by omega, fun f hf => by have := h1.2 f hf; omega, fun f hf => by have := h1.2 f hf; omega⟩
  have g5 : ∀ l, okSz l → 1 ≤ kE l 1 ∧ kE l 1 ≤ 1 + 1048576 + 1048576 * 1048576 := fun l h => kE_bd h.1 h.2.1 1
  have g6 := viewPutS_bd t a v
  have g7 : 1 ≤ kE (viewPutS t a v).1 1 ∧ kE (viewPutS t a v).1 1 ≤ 1 + 8 + 64 * 8 := kE_bd g6.1 g6.2 1
  have g9 : ∀ l k, okSz l → k ≤ kE l k ∧ kE l k ≤ k + 1048576 + 1048576 * 1048576 := fun l k h => kE_bd h.1 h.2.1 k
  have he := viewPut_eq t a v
  have hm := heldFs_mark
  have hm2 := kE_marks
  simp -implicitDefEqProofs [vc_skip, extOf, vc_seq, vc_cond, vc_block, vc_exit, vc_ret, vc_region, vc_regionD, vc_loop, kSeq_normal, kSeq_ret, kSeq_exit, kBlock_normal, kBlock_ret, kBlock_exit, kLoop_normal, kLoop_ret, kLoop_exit, kCond_bool, kNorm_app, vcOps_nil, vcOps_cons, kOps_app, kStep_some, kStep_none, vcDL_nil, vcDL_cons, kOpsD_app, kStepD_true, kStepD_false, kStepC_some, kStepC_none, kMv_app, act3_store, act3_call, act3_bs, kAct_app, kSt2_app, stealSlots, stealL, stealOne, subIn, AV.stolen, act_store, act_bs, act_append, act_call, kSet_app, kSet2_app, kSetG_app, kSetG_app0, kStore_ptr, kStore_eptr, kCallW_some, kCallC_some, kCall_some, wk_T, wk_n, wk_keep, wk_inv, wk_act, wk_dr, wk_le, aCalm, wantC, dstOk, calm, aCallK, aCall3K, subOf, subRep, aCall2K, apnd, bsMove, putBox, putOwn, partAV, mvL, AV.mv, AV.base, AV.moved, AV.src, TI.flat, apSize, pickAV, St.val, St.cond, St.fn, St.next, St.set, St.trim, wipe_eq, wipeE_app, wipeM_app, pickEnv, get?, cGet, upd_app, withPuts, killAll, rm, freshP, Oper.hnd, Sc.st, ofConst, constOk, lenAV, elemLen, loadAV, ldL, ld1, fieldAddrAV, indexAddrAV, sliceAV, convAV, buildAV, fillAV, fieldAV, Out.of, binAV, AV.rows, AV.one, AV.cells, AV.deepOk, AV.toD, toDs, partRows, partRowsM, partsDeep, TK.zeroAV, TK.zeroD, byteOf, inR, Op.operands, Call.operands, passVs, passV, passL, pass1, passB, pasVs, pasV, pasL, pas1, ownsOk, okHs, okHs2, okFin, finOk2, rho, over, backRes, backAV, backAV1, backBlk, putBack, back2, back2_V, back2_1, m2, AV.wipe, AV.wipeV, AV.wipe1, Blk.wipe, AV.hs, AV.hs.hsL, alOps, Con.start2, Con.pk, bodyQ, fini, resAV, resA, firstId, Sc.from, renEnv, renT, renV, renVs, renL, ren1, renBox, renOwn, okRen, clOf, actB, setRow, flatRows, flatD, noInv, shr_nil, shr_some, kStepF_some, shareL, AV.viewed, AV.viewed1, vcZ_seq, vcZ_cond, vcZ_region, vcZ_skip, vcZ_ret, vcZ_exit, vcZ_block, vcZ_loop, kSeqZ_normal, kSeqZ_ret, kSeqZ_exit, kCondZ_bool, kFz_true, kFz_false, freeze_eq, fzE_app, AV.fz, AV.fz1, finZ, cFnExactViewPut, Con.fn, tTab, cSzFileS, cSzStringS, cToFileS, cToStringS, cViewPutS, cViewPutI, cEqFileS, cEqStringS, cMarkFileS, cMarkStringS, cHeldFileS]
  try dsimp only
  try simp +contextual [eStr, eFile, cast_succ, cast_eq, cast_zero, List.getElem?_eq_getElem, eStrs_set, eFiles_set, eStrs_rep, eFiles_rep, ← eStrs_append, ← eFiles_append, eStrs_take, eStrs_drop, eFiles_take, eFiles_drop, eStrs_snoc, eFiles_snoc, and_assoc, he, hm, hm2]
  intro hz1
  obtain ⟨t1, t2, t3⟩ := g1 hz1
  refine ⟨g0, fun hs => ?_⟩
  obtain ⟨⟨s1, s2⟩, s3⟩ := g4 _ g0 hs
  refine ⟨s1, fun hv => ?_⟩
  obtain ⟨v1, v2, v3⟩ := g8 _ s1 hv
  have a1 := g9 t 1 ⟨t1, t2, t3⟩
  have a2 := g9 v (kE t 1 + a.length) ⟨v1, v2, v3⟩
  clear hz g1 g4 g5 g8 g9 hs hv hz1
  repeat' (first | intro _ | apply And.intro)
  all_goals first | omega | assumption | exact ⟨t1, t2, t3⟩ | exact ⟨v1, v2, v3⟩ | grind

end Vx
end Go.Proofs.YtlhkmgbmnbkaeaaDoor
/-
  Arguments opened; what all rows share.
-/
namespace Go.Proofs.YtlhkmgbmnbkaeaaDoor
open Go.ChangeShapes Go.WideShapes Go.ChangeAt Go.RowKit
namespace Vx

theorem own_knob : ownKnob Tryd.prog.godebug = none := by kernel_rfl
theorem laidOut : laidOutB Tryd.prog = true := by kernel_rfl
theorem tTab_closed : tabOk tTab = true := by decide

theorem shp_strs {T : Nat → Option TI} (hs : ∀ te, T 9 = some te → te.cells = [.str]) {ds : List D} (h : Shp T [.sl 9 1] ds) : ∃ l, ds = [.sl 9 1 (eStrs l)] := by
  cases h with
  | @sl e k te rows ks ds h1 h2 h3 =>
    cases h3
    rw [hs _ h1] at h2
    obtain ⟨l, rfl, _⟩ := rows_map (f := eStr) (p := fun _ => True) (rows := rows) (fun r hr => by
      have := h2 r hr
      cases this with
      | str q1 q2 => cases q2; exact ⟨_, rfl, trivial⟩)
    exact ⟨l, rfl⟩
theorem shp_files {T : Nat → Option TI} (hs : ∀ te, T 9 = some te → te.cells = [.str]) (hf : ∀ te, T 95 = some te → te.cells = [.str, .sl 9 1]) {ds : List D} (h : Shp T [.sl 95 2] ds) :
    ∃ l, ds = [.sl 95 2 (eFiles l)] := by
  cases h with
  | @sl e k te rows ks ds h1 h2 h3 =>
    cases h3
    rw [hf _ h1] at h2
    obtain ⟨l, rfl, _⟩ := rows_map (f := eFile) (p := fun _ => True) (rows := rows) (fun r hr => by
      have := h2 r hr
      cases this with
      | str q1 q2 =>
        obtain ⟨l, rfl⟩ := shp_strs hs q2
        exact ⟨⟨_, l⟩, rfl, trivial⟩)
    exact ⟨l, rfl⟩

section
variable {H : Type} {enc : TypeId × Value → H} {W : World} {sp : Nat → Bool} {held : Bool} {r : Reach} {base : Nat}

set_option maxRecDepth 100000 in
theorem open_files {v : Value} {d : DataW H} {p : List MemPlace} (hu : Tryd.prog.underlying 35 = some (.slice 95)) (hv : Value.okWide Tryd.prog W r base 35 v)
    (h : DataW.Trod enc Tryd.prog W 0 sp held 35 v d p) : ∃ l f, RdL false W [.sl 95 2 (eFiles l)] [v] f := by
  obtain ⟨a, n, c, rfl⟩ := okWide_slice hu hv
  obtain ⟨fuel, hf⟩ := h
  obtain ⟨ds, f, h1, h2⟩ := rd_trod tTab_ok tTab_closed fuel (t := 35) rfl hf
  obtain ⟨l, rfl⟩ := shp_files (fun te ht => by cases ht; rfl) (fun te ht => by cases ht; rfl) h2
  exact ⟨l, f, h1⟩
set_option maxRecDepth 100000 in
theorem open_strs {v : Value} {d : DataW H} {p : List MemPlace} (hu : Tryd.prog.underlying 26 = some (.slice 9)) (hv : Value.okWide Tryd.prog W r base 26 v)
    (h : DataW.Trod enc Tryd.prog W 0 sp held 26 v d p) : ∃ l f, RdL false W [.sl 9 1 (eStrs l)] [v] f := by
  obtain ⟨a, n, c, rfl⟩ := okWide_slice hu hv
  obtain ⟨fuel, hf⟩ := h
  obtain ⟨ds, f, h1, h2⟩ := rd_trod tTab_ok tTab_closed fuel (t := 26) rfl hf
  obtain ⟨l, rfl⟩ := shp_strs (fun te ht => by cases ht; rfl) h2
  exact ⟨l, f, h1⟩
set_option maxRecDepth 100000 in
theorem open_str {v : Value} {d : DataW H} {p : List MemPlace} (hu : Tryd.prog.underlying 9 = some .string) (hv : Value.okWide Tryd.prog W r base 9 v)
    (h : DataW.Trod enc Tryd.prog W 0 sp held 9 v d p) : ∃ l : Str, v = .string ⟨l.toArray⟩ ∧ l.length ≤ maxLen := by
  obtain ⟨s, rfl, _, _, hs⟩ := Go.ChangeMaps.open_string hu hv h
  exact ⟨s.data.toList, by simp, by simpa using hs⟩
end

end Vx
end Go.Proofs.YtlhkmgbmnbkaeaaDoor
