/-
  Joined by program (merge.py): Rep, Ea, Ja, Kd, Cu, Ke. It shows what the single texts show; conditions: none but those of each lemma.
-/
import Derived.Test.YthmhaggmcfemnaaDoorWa
set_option linter.unusedVariables false
set_option linter.unusedSimpArgs false
set_option linter.unusedSectionVars false
/-
  Data of the program's types: numbers, branches, commits, repositories. (Printed by enc.py.)
-/
namespace Go.Proofs.YthmhaggmcfemnaaDoor
namespace Vx

def eInt (n : Int) : List D := [.int .i64 n]
@[simp] theorem eInt_inj (a b : Int) : (eInt a = eInt b) = (a = b) := by simp [eInt]
def eInts (l : List Int) : List (List D) := l.map eInt
@[simp] theorem eInts_length (l : List Int) : (eInts l).length = l.length := by simp [eInts]
@[simp] theorem eInts_nil : eInts [] = [] := rfl
@[simp] theorem eInts_get (l : List Int) (i : Nat) : (eInts l)[i]? = l[i]?.map eInt := by simp [eInts]
@[simp] theorem eInts_getElem (l : List Int) (i : Nat) (h : i < (eInts l).length) : (eInts l)[i] = eInt (l[i]'(by simpa using h)) := by simp [eInts]
@[simp] theorem eInts_inj (a b : List Int) : (eInts a = eInts b) = (a = b) := by
  apply propext
  constructor
  · intro h
    exact List.map_inj_right (fun x y h => by simpa using h) |>.1 h
  · rintro rfl; rfl
@[simp] theorem eInts_eq_nil (a : List Int) : (eInts a = []) = (a = []) := by simp [eInts]
@[simp] theorem nil_eq_eInts (a : List Int) : ([] = eInts a) = (a = []) := by simp [eInts, eq_comm]
theorem eInts_append (a b : List Int) : eInts (a ++ b) = eInts a ++ eInts b := by simp [eInts]
theorem eInts_take (l : List Int) (i : Nat) : (eInts l).take i = eInts (l.take i) := by simp [eInts]
theorem eInts_drop (l : List Int) (i : Nat) : (eInts l).drop i = eInts (l.drop i) := by simp [eInts]
theorem eInts_snoc (a : List Int) (n : Int) : eInts a ++ [[.int .i64 n]] = eInts (a ++ [n]) := by simp [eInts, eInt]
theorem eInts_set (l : List Int) (i : Nat) (n : Int) : (eInts l).set i [.int .i64 n] = eInts (l.set i n) := by simp [eInts, List.map_set, eInt]
theorem eInts_rep (n : Nat) : List.replicate n [D.int .i64 0] = eInts (List.replicate n 0) := by simp [eInts, eInt]
@[simp] theorem eInts_flat (l : List Int) : (∀ x ∈ eInts l, ∀ d ∈ x, flatD d) = True := by
  simp only [eq_iff_iff, iff_true]
  intro x hx d hd
  simp only [eInts, List.mem_map] at hx
  obtain ⟨s, _, rfl⟩ := hx
  simp only [eInt, List.mem_singleton] at hd
  subst hd
  trivial

structure HeadD where
  name : Str
  at_ : Int
  deriving DecidableEq, Inhabited

def eHead (a : HeadD) : List D := [.str a.name, .int .i64 a.at_]
@[simp] theorem eHead_inj (a b : HeadD) : (eHead a = eHead b) = (a = b) := by
  cases a; cases b; simp [eHead]
@[simp] theorem HeadD.eta (a : HeadD) : (⟨a.name, a.at_⟩ : HeadD) = a := rfl
theorem HeadD.eq_iff (a b : HeadD) : (a = b) = (a.name = b.name ∧ a.at_ = b.at_) := by
  cases a; cases b; simp
@[simp] theorem HeadD.ex1 (x_name : Str) (x_at_ : Int) (Q : HeadD → Prop) : (∃ a : HeadD, a.name = x_name ∧ a.at_ = x_at_ ∧ Q a) = Q ⟨x_name, x_at_⟩ := by
  apply propext
  constructor
  · rintro ⟨⟨_, _⟩, rfl, rfl, h⟩; exact h
  · intro h; exact ⟨⟨x_name, x_at_⟩, rfl, rfl, h⟩
@[simp] theorem HeadD.ex2 (x_name : Str) (x_at_ : Int) (Q : HeadD → Prop) : (∃ a : HeadD, (a.name = x_name ∧ a.at_ = x_at_) ∧ Q a) = Q ⟨x_name, x_at_⟩ := by
  apply propext
  constructor
  · rintro ⟨⟨_, _⟩, ⟨rfl, rfl⟩, h⟩; exact h
  · intro h; exact ⟨⟨x_name, x_at_⟩, ⟨rfl, rfl⟩, h⟩
@[simp] theorem HeadD.ex0 (x_name : Str) (x_at_ : Int) : (∃ a : HeadD, a.name = x_name ∧ a.at_ = x_at_) = True := by
  simp only [eq_iff_iff, iff_true]
  exact ⟨⟨x_name, x_at_⟩, rfl, rfl⟩
def eHeads (l : List HeadD) : List (List D) := l.map eHead
@[simp] theorem eHeads_length (l : List HeadD) : (eHeads l).length = l.length := by simp [eHeads]
@[simp] theorem eHeads_nil : eHeads [] = [] := rfl
@[simp] theorem eHeads_get (l : List HeadD) (i : Nat) : (eHeads l)[i]? = l[i]?.map eHead := by simp [eHeads]
@[simp] theorem eHeads_getElem (l : List HeadD) (i : Nat) (h : i < (eHeads l).length) : (eHeads l)[i] = eHead (l[i]'(by simpa using h)) := by simp [eHeads]
@[simp] theorem eHeads_inj (a b : List HeadD) : (eHeads a = eHeads b) = (a = b) := by
  apply propext
  constructor
  · intro h
    exact List.map_inj_right (fun x y h => by simpa using h) |>.1 h
  · rintro rfl; rfl
@[simp] theorem eHeads_eq_nil (a : List HeadD) : (eHeads a = []) = (a = []) := by simp [eHeads]
@[simp] theorem nil_eq_eHeads (a : List HeadD) : ([] = eHeads a) = (a = []) := by simp [eHeads, eq_comm]
theorem eHeads_append (a b : List HeadD) : eHeads (a ++ b) = eHeads a ++ eHeads b := by simp [eHeads]
theorem eHeads_take (l : List HeadD) (i : Nat) : (eHeads l).take i = eHeads (l.take i) := by simp [eHeads]
theorem eHeads_drop (l : List HeadD) (i : Nat) : (eHeads l).drop i = eHeads (l.drop i) := by simp [eHeads]
theorem eHeads_snoc (a : List HeadD) (s : Str) (n : Int) : eHeads a ++ [[.str s, .int .i64 n]] = eHeads (a ++ [⟨s, n⟩]) := by simp [eHeads, eHead]
theorem eHeads_set (l : List HeadD) (i : Nat) (s : Str) (n : Int) : (eHeads l).set i [.str s, .int .i64 n] = eHeads (l.set i ⟨s, n⟩) := by simp [eHeads, List.map_set, eHead]
theorem eHeads_rep (n : Nat) : List.replicate n [D.str [], D.int .i64 0] = eHeads (List.replicate n ⟨[], 0⟩) := by simp [eHeads, eHead]
@[simp] theorem eHeads_flat (l : List HeadD) : (∀ x ∈ eHeads l, ∀ d ∈ x, flatD d) = True := by
  simp only [eq_iff_iff, iff_true]
  intro x hx d hd
  simp only [eHeads, List.mem_map] at hx
  obtain ⟨s, _, rfl⟩ := hx
  simp only [eHead, List.mem_cons, List.not_mem_nil, or_false] at hd
  rcases hd with rfl | rfl <;> trivial

structure CommitD where
  parents : List Int
  who : Str
  tree : List FileD
  deriving DecidableEq, Inhabited

def eCommit (a : CommitD) : List D := [.sl 3 1 (eInts a.parents), .str a.who, .sl 55 2 (eFiles a.tree)]
@[simp] theorem eCommit_inj (a b : CommitD) : (eCommit a = eCommit b) = (a = b) := by
  cases a; cases b; simp [eCommit]
@[simp] theorem CommitD.eta (a : CommitD) : (⟨a.parents, a.who, a.tree⟩ : CommitD) = a := rfl
theorem CommitD.eq_iff (a b : CommitD) : (a = b) = (a.parents = b.parents ∧ a.who = b.who ∧ a.tree = b.tree) := by
  cases a; cases b; simp
@[simp] theorem CommitD.ex1 (x_parents : List Int) (x_who : Str) (x_tree : List FileD) (Q : CommitD → Prop) : (∃ a : CommitD, a.parents = x_parents ∧ a.who = x_who ∧ a.tree = x_tree ∧ Q a) = Q ⟨x_parents, x_who, x_tree⟩ := by
  apply propext
  constructor
  · rintro ⟨⟨_, _, _⟩, rfl, rfl, rfl, h⟩; exact h
  · intro h; exact ⟨⟨x_parents, x_who, x_tree⟩, rfl, rfl, rfl, h⟩
@[simp] theorem CommitD.ex2 (x_parents : List Int) (x_who : Str) (x_tree : List FileD) (Q : CommitD → Prop) : (∃ a : CommitD, (a.parents = x_parents ∧ a.who = x_who ∧ a.tree = x_tree) ∧ Q a) = Q ⟨x_parents, x_who, x_tree⟩ := by
  apply propext
  constructor
  · rintro ⟨⟨_, _, _⟩, ⟨rfl, rfl, rfl⟩, h⟩; exact h
  · intro h; exact ⟨⟨x_parents, x_who, x_tree⟩, ⟨rfl, rfl, rfl⟩, h⟩
@[simp] theorem CommitD.ex0 (x_parents : List Int) (x_who : Str) (x_tree : List FileD) : (∃ a : CommitD, a.parents = x_parents ∧ a.who = x_who ∧ a.tree = x_tree) = True := by
  simp only [eq_iff_iff, iff_true]
  exact ⟨⟨x_parents, x_who, x_tree⟩, rfl, rfl, rfl⟩
def eCommits (l : List CommitD) : List (List D) := l.map eCommit
@[simp] theorem eCommits_length (l : List CommitD) : (eCommits l).length = l.length := by simp [eCommits]
@[simp] theorem eCommits_nil : eCommits [] = [] := rfl
@[simp] theorem eCommits_get (l : List CommitD) (i : Nat) : (eCommits l)[i]? = l[i]?.map eCommit := by simp [eCommits]
@[simp] theorem eCommits_getElem (l : List CommitD) (i : Nat) (h : i < (eCommits l).length) : (eCommits l)[i] = eCommit (l[i]'(by simpa using h)) := by simp [eCommits]
@[simp] theorem eCommits_inj (a b : List CommitD) : (eCommits a = eCommits b) = (a = b) := by
  apply propext
  constructor
  · intro h
    exact List.map_inj_right (fun x y h => by simpa using h) |>.1 h
  · rintro rfl; rfl
@[simp] theorem eCommits_eq_nil (a : List CommitD) : (eCommits a = []) = (a = []) := by simp [eCommits]
@[simp] theorem nil_eq_eCommits (a : List CommitD) : ([] = eCommits a) = (a = []) := by simp [eCommits, eq_comm]
theorem eCommits_append (a b : List CommitD) : eCommits (a ++ b) = eCommits a ++ eCommits b := by simp [eCommits]
theorem eCommits_take (l : List CommitD) (i : Nat) : (eCommits l).take i = eCommits (l.take i) := by simp [eCommits]
theorem eCommits_drop (l : List CommitD) (i : Nat) : (eCommits l).drop i = eCommits (l.drop i) := by simp [eCommits]
theorem eCommits_snoc (a : List CommitD) (p : List Int) (w : Str) (t : List FileD) : eCommits a ++ [[.sl 3 1 (eInts p), .str w, .sl 55 2 (eFiles t)]] = eCommits (a ++ [⟨p, w, t⟩]) := by simp [eCommits, eCommit]
theorem eCommits_set (l : List CommitD) (i : Nat) (p : List Int) (w : Str) (t : List FileD) : (eCommits l).set i [.sl 3 1 (eInts p), .str w, .sl 55 2 (eFiles t)] = eCommits (l.set i ⟨p, w, t⟩) := by simp [eCommits, List.map_set, eCommit]
theorem eCommits_rep (n : Nat) : List.replicate n [D.sl 3 1 [], D.str [], D.sl 55 2 []] = eCommits (List.replicate n ⟨[], [], []⟩) := by simp [eCommits, eCommit]

structure RepoD where
  commits : List CommitD
  heads : List HeadD
  deriving DecidableEq, Inhabited

def eRepo (a : RepoD) : List D := [.sl 101 3 (eCommits a.commits), .sl 103 2 (eHeads a.heads)]
@[simp] theorem eRepo_inj (a b : RepoD) : (eRepo a = eRepo b) = (a = b) := by
  cases a; cases b; simp [eRepo]
@[simp] theorem RepoD.eta (a : RepoD) : (⟨a.commits, a.heads⟩ : RepoD) = a := rfl
theorem RepoD.eq_iff (a b : RepoD) : (a = b) = (a.commits = b.commits ∧ a.heads = b.heads) := by
  cases a; cases b; simp
@[simp] theorem RepoD.ex1 (x_commits : List CommitD) (x_heads : List HeadD) (Q : RepoD → Prop) : (∃ a : RepoD, a.commits = x_commits ∧ a.heads = x_heads ∧ Q a) = Q ⟨x_commits, x_heads⟩ := by
  apply propext
  constructor
  · rintro ⟨⟨_, _⟩, rfl, rfl, h⟩; exact h
  · intro h; exact ⟨⟨x_commits, x_heads⟩, rfl, rfl, h⟩
@[simp] theorem RepoD.ex2 (x_commits : List CommitD) (x_heads : List HeadD) (Q : RepoD → Prop) : (∃ a : RepoD, (a.commits = x_commits ∧ a.heads = x_heads) ∧ Q a) = Q ⟨x_commits, x_heads⟩ := by
  apply propext
  constructor
  · rintro ⟨⟨_, _⟩, ⟨rfl, rfl⟩, h⟩; exact h
  · intro h; exact ⟨⟨x_commits, x_heads⟩, ⟨rfl, rfl⟩, h⟩
@[simp] theorem RepoD.ex0 (x_commits : List CommitD) (x_heads : List HeadD) : (∃ a : RepoD, a.commits = x_commits ∧ a.heads = x_heads) = True := by
  simp only [eq_iff_iff, iff_true]
  exact ⟨⟨x_commits, x_heads⟩, rfl, rfl⟩
def lCommit (a : CommitD) : List D := [.sl 3 1 (eInts a.parents), .str a.who, .sl 54 2 (eFiles a.tree)]
@[simp] theorem lCommit_inj (a b : CommitD) : (lCommit a = lCommit b) = (a = b) := by
  cases a; cases b; simp [lCommit]
def lCommits (l : List CommitD) : List (List D) := l.map lCommit
@[simp] theorem lCommits_length (l : List CommitD) : (lCommits l).length = l.length := by simp [lCommits]
@[simp] theorem lCommits_nil : lCommits [] = [] := rfl
@[simp] theorem lCommits_get (l : List CommitD) (i : Nat) : (lCommits l)[i]? = l[i]?.map lCommit := by simp [lCommits]
@[simp] theorem lCommits_getElem (l : List CommitD) (i : Nat) (h : i < (lCommits l).length) : (lCommits l)[i] = lCommit (l[i]'(by simpa using h)) := by simp [lCommits]
@[simp] theorem lCommits_inj (a b : List CommitD) : (lCommits a = lCommits b) = (a = b) := by
  apply propext
  constructor
  · intro h
    exact List.map_inj_right (fun x y h => by simpa using h) |>.1 h
  · rintro rfl; rfl
@[simp] theorem lCommits_eq_nil (a : List CommitD) : (lCommits a = []) = (a = []) := by simp [lCommits]
@[simp] theorem nil_eq_lCommits (a : List CommitD) : ([] = lCommits a) = (a = []) := by simp [lCommits, eq_comm]
theorem lCommits_append (a b : List CommitD) : lCommits (a ++ b) = lCommits a ++ lCommits b := by simp [lCommits]
theorem lCommits_take (l : List CommitD) (i : Nat) : (lCommits l).take i = lCommits (l.take i) := by simp [lCommits]
theorem lCommits_drop (l : List CommitD) (i : Nat) : (lCommits l).drop i = lCommits (l.drop i) := by simp [lCommits]
theorem lCommits_snoc (a : List CommitD) (p : List Int) (w : Str) (t : List FileD) : lCommits a ++ [[.sl 3 1 (eInts p), .str w, .sl 54 2 (eFiles t)]] = lCommits (a ++ [⟨p, w, t⟩]) := by simp [lCommits, lCommit]
theorem lCommits_set (l : List CommitD) (i : Nat) (p : List Int) (w : Str) (t : List FileD) : (lCommits l).set i [.sl 3 1 (eInts p), .str w, .sl 54 2 (eFiles t)] = lCommits (l.set i ⟨p, w, t⟩) := by simp [lCommits, List.map_set, lCommit]
abbrev lRepo (r : RepoD) : AV := .agg [.sl true 3 (lCommits r.commits), .sl true 2 (eHeads r.heads)]
abbrev vRepo (r : RepoD) : AV := .agg [.sl true 3 (eCommits r.commits), .sl true 2 (eHeads r.heads)]
abbrev ownInts (h : Nat) (a : List Int) : List (Nat × Blk) := [(h, .own 3 1 true (eInts a))]
abbrev ownHeads (h : Nat) (a : List HeadD) : List (Nat × Blk) := [(h, .own 103 2 true (eHeads a))]
abbrev ownCommits (h : Nat) (a : List CommitD) : List (Nat × Blk) := [(h, .own 101 3 true (eCommits a))]

end Vx
end Go.Proofs.YthmhaggmcfemnaaDoor
/-
  Contracts: draws (l30Open, pick, of, one).
-/
namespace Go.Proofs.YthmhaggmcfemnaaDoor
namespace Vx
open Go.RowKit
set_option maxRecDepth 8000

def eByte (b : UInt8) : List D := [.int .u8 b.toNat]
def eBytes (s : Str) : List (List D) := s.map eByte
@[simp] theorem eBytes_length (l : Str) : (eBytes l).length = l.length := by simp -implicitDefEqProofs [eBytes]
@[simp] theorem eBytes_get (l : Str) (i : Nat) : (eBytes l)[i]? = l[i]?.map eByte := by simp -implicitDefEqProofs [eBytes]
theorem eBytes_take (l : Str) (i : Nat) : (eBytes l).take i = eBytes (l.take i) := by simp -implicitDefEqProofs [eBytes]
@[simp] theorem eByte_inj (a b : UInt8) : (eByte a = eByte b) = (a = b) := by
  simp only [eByte, List.cons.injEq, D.int.injEq, true_and, and_true, eq_iff_iff]
  constructor
  · intro h; exact UInt8.toNat_inj.1 (by omega)
  · rintro rfl; rfl
@[simp] theorem eBytes_inj (a b : Str) : (eBytes a = eBytes b) = (a = b) := by
  apply propext
  constructor
  · intro h
    exact List.map_inj_right (fun x y h => by simpa using h) |>.1 h
  · rintro rfl; rfl
@[simp] theorem eBytes_all (l : Str) (f : List D → Bool) : (eBytes l).all f = l.all fun b => f (eByte b) := by simp -implicitDefEqProofs [eBytes, Function.comp_def]
theorem all_true (l : Str) : (l.all fun _ => true) = true := by simp
abbrev rdBox (s : Str) (p : Int) : Blk := .box 116 [.sl true 1 (eBytes s), .int .i64 p]

def cL30Open : Con := .fn 11 Str (fun s => [.sl true 1 (eBytes s)]) (fun _ => True) (fun _ => .ptr 8 0) (fun s => [(8, rdBox (s.take 2000) 0)])
set_option maxHeartbeats 4000000 in
theorem l30Open_has : Has Tryd.prog 50 cL30Open := by
  refine has_walk mixed tTab_ok (l := []) HasL.nil [0, 2] ((fun a n (_ : Nat) => (fun _ => noInv) a n)) [] Tryd.func50 (by kernel_rfl) (code := _) (by unfold Tryd.f50; rfl) (by kernel_rfl) (by decide) (fun _ => ⟨(), trivial⟩) (by intro h; first | exact fun _ => rfl | cases h) (by kernel_rfl) ?_
  intro (s : Str) _
  simp -implicitDefEqProofs [vc_skip, extOf, vc_seq, vc_cond, vc_block, vc_exit, vc_ret, vc_region, vc_regionD, vc_loop, kSeq_normal, kSeq_ret, kSeq_exit, kBlock_normal, kBlock_ret, kBlock_exit, kLoop_normal, kLoop_ret, kLoop_exit, kCond_bool, kNorm_app, vcOps_nil, vcOps_cons, kOps_app, kStep_some, kStep_none, vcDL_nil, vcDL_cons, kOpsD_app, kStepD_true, kStepD_tt, kStepD_false, ldB, btys, btyAct, kStepC_some, kStepC_none, kMv_app, act3_store, act3_call, act3_bs, kAct_app, kSt2_app, stealSlots, stealL, stealOne, subIn, AV.stolen, act_store, act_bs, act_append, act_call, kSet_app, kSet2_app, kSetG_app, kSetG_app0, kStore_ptr, kStore_eptr, kCallW_some, kCallC_some, kCall_some, wk_T, wk_n, wk_keep, wk_inv, wk_act, wk_dr, wk_le, aCalm, wantC, dstOk, calm, aCallK, aCall3K, subOf, subRep, aCall2K, apnd, bsMove, putBox, putOwn, partAV, mvL, AV.mv, AV.base, AV.moved, kBld, bldK, wrK, stK, AV.selfOk, AV.src, TI.flat, apSize, pickAV, St.val, St.cond, St.fn, St.next, St.set, St.trim, wipe_eq, wipeE_app, wipeM_app, pickEnv, get?, cGet, upd_app, withPuts, killAll, rm, freshP, Oper.hnd, Sc.st, ofConst, constOk, lenAV, elemLen, loadAV, ldL, ld1, fieldAddrAV, indexAddrAV, sliceAV, convAV, buildAV, fillAV, fieldAV, Out.of, binAV, AV.rows, AV.one, AV.cells, AV.deepOk, AV.toD, toDs, partRows, partRowsM, partsDeep, TK.zeroAV, TK.zeroD, byteOf, inR, Op.operands, Call.operands, passVs, passV, passL, pass1, passB, pasVs, pasV, pasL, pas1, ownsOk, okHs, okHs2, okFin, finOk2, rho, over, backRes, backAV, backAV1, backBlk, putBack, back2, back2_V, back2_1, m2, AV.wipe, AV.wipeV, AV.wipe1, Blk.wipe, AV.hs, AV.hs.hsL, alOps, Con.start2, Con.pk, bodyQ, fini, resAV, resA, firstId, Sc.from, renEnv, renT, renV, renVs, renL, ren1, renBox, renOwn, okRen, clOf, actB, setRow, flatRows, flatD, noInv, shr_nil, shr_some, kStepF_some, shareL, AV.viewed, AV.viewed1, cL30Open, Con.fn, tTab, eBytes_take]
  exact fun _ => ⟨fun h => by omega, fun h => List.take_of_length_le (by omega)⟩

theorem xor_nn {a b : Int} (h1 : 0 ≤ a) (h2 : a < 4611686018427387904) (h3 : 0 ≤ b) (h4 : b < 4611686018427387904) : 0 ≤ bitOp .xor .i64 a b := by
  unfold bitOp
  simp only []
  rw [BitVec.toNat_xor, BitVec.toNat_ofInt, BitVec.toNat_ofInt]
  have e1 : (a % ((2 ^ (IntKind.i64).bits : Nat) : Int)).toNat < 2 ^ 62 := by
    have : a % ((2 ^ (IntKind.i64).bits : Nat) : Int) = a := Int.emod_eq_of_lt h1 (by show a < (((2 : Nat) ^ 64 : Nat) : Int); omega)
    rw [this]; omega
  have e2 : (b % ((2 ^ (IntKind.i64).bits : Nat) : Int)).toNat < 2 ^ 62 := by
    have : b % ((2 ^ (IntKind.i64).bits : Nat) : Int) = b := Int.emod_eq_of_lt h3 (by show b < (((2 : Nat) ^ 64 : Nat) : Int); omega)
    rw [this]; omega
  have e3 := Nat.xor_lt_two_pow e1 e2
  rw [wrap_inR (by simp only [inR]; omega)]
  omega
def cPick : Con := { A := (Str × Int) × Int, X := Int, n := 99, args := fun a => [.ptr 0 0, .int .i64 a.2], boxes := fun a => [(0, 116, [.sl true 1 (eBytes a.1.1), .int .i64 a.1.2])], pre := fun a => a.1.1.length ≤ 2000 ∧ 0 ≤ a.1.2 ∧ a.1.2 ≤ 1073741824 ∧ a.2 ≤ 1073741824, post := fun a x => (a.2 < 1 → x = 0) ∧ (1 ≤ a.2 → 0 ≤ x ∧ x < a.2), res := fun _ x => .int .i64 x, fin := fun a _ => [(0, rdBox a.1.1 (a.1.2 + 1))], nob := false }
set_option maxHeartbeats 4000000 in
theorem pick_has : Has Tryd.prog 56 cPick := by
  refine has_walk mixed tTab_ok (l := []) HasL.nil [0, 1, 4, 5, 6] ((fun a n (_ : Nat) => (fun _ => noInv) a n)) [] Tryd.func56 (by kernel_rfl) (code := _) (by unfold Tryd.f56; rfl) (by kernel_rfl) (by decide) (fun a => ⟨(0 : Int), fun _ => rfl, fun h => ⟨Int.le_refl 0, by omega⟩⟩) (by intro h; first | exact fun _ => rfl | cases h) (by kernel_rfl) ?_
  intro a ha
  obtain ⟨⟨s, p⟩, n⟩ := a
  obtain ⟨h1, h2, h3, h4⟩ : s.length ≤ 2000 ∧ 0 ≤ p ∧ p ≤ 1073741824 ∧ n ≤ 1073741824 := ha
  simp -implicitDefEqProofs [vc_skip, extOf, vc_seq, vc_cond, vc_block, vc_exit, vc_ret, vc_region, vc_regionD, vc_loop, kSeq_normal, kSeq_ret, kSeq_exit, kBlock_normal, kBlock_ret, kBlock_exit, kLoop_normal, kLoop_ret, kLoop_exit, kCond_bool, kNorm_app, vcOps_nil, vcOps_cons, kOps_app, kStep_some, kStep_none, vcDL_nil, vcDL_cons, kOpsD_app, kStepD_true, kStepD_tt, kStepD_false, ldB, btys, btyAct, kStepC_some, kStepC_none, kMv_app, act3_store, act3_call, act3_bs, kAct_app, kSt2_app, stealSlots, stealL, stealOne, subIn, AV.stolen, act_store, act_bs, act_append, act_call, kSet_app, kSet2_app, kSetG_app, kSetG_app0, kStore_ptr, kStore_eptr, kCallW_some, kCallC_some, kCall_some, wk_T, wk_n, wk_keep, wk_inv, wk_act, wk_dr, wk_le, aCalm, wantC, dstOk, calm, aCallK, aCall3K, subOf, subRep, aCall2K, apnd, bsMove, putBox, putOwn, partAV, mvL, AV.mv, AV.base, AV.moved, kBld, bldK, wrK, stK, AV.selfOk, AV.src, TI.flat, apSize, pickAV, St.val, St.cond, St.fn, St.next, St.set, St.trim, wipe_eq, wipeE_app, wipeM_app, pickEnv, get?, cGet, upd_app, withPuts, killAll, rm, freshP, Oper.hnd, Sc.st, ofConst, constOk, lenAV, elemLen, loadAV, ldL, ld1, fieldAddrAV, indexAddrAV, sliceAV, convAV, buildAV, fillAV, fieldAV, Out.of, binAV, AV.rows, AV.one, AV.cells, AV.deepOk, AV.toD, toDs, partRows, partRowsM, partsDeep, TK.zeroAV, TK.zeroD, byteOf, inR, Op.operands, Call.operands, passVs, passV, passL, pass1, passB, pasVs, pasV, pasL, pas1, ownsOk, okHs, okHs2, okFin, finOk2, rho, over, backRes, backAV, backAV1, backBlk, putBack, back2, back2_V, back2_1, m2, AV.wipe, AV.wipeV, AV.wipe1, Blk.wipe, AV.hs, AV.hs.hsL, alOps, Con.start2, Con.pk, bodyQ, fini, resAV, resA, firstId, Sc.from, renEnv, renT, renV, renVs, renL, ren1, renBox, renOwn, okRen, clOf, actB, setRow, flatRows, flatD, noInv, shr_nil, shr_some, kStepF_some, shareL, AV.viewed, AV.viewed1, cPick, tTab]
  have e : ∀ q : Int, 0 ≤ q → q < s.length → ∃ b : Nat, b < 256 ∧ Option.map eByte s[q.toNat]? = some [.int .u8 b] := fun q a b => by
    have hq : q.toNat < s.length := by omega
    exact ⟨s[q.toNat].toNat, s[q.toNat].toNat_lt, by simp -implicitDefEqProofs [List.getElem?_eq_getElem hq, eByte]⟩
  refine ⟨by omega, fun _ _ => ⟨fun a b => by omega, fun hn _ => ⟨fun _ _ => by omega, fun hs => ⟨by omega, fun _ _ _ => ⟨fun hp => ?_, fun hp => ?_⟩⟩⟩⟩⟩
  · obtain ⟨b, hb, eb⟩ := e p h2 hp
    have t1 := Int.tmod_nonneg n (a := (b : Int)) (by omega)
    have t2 := Int.tmod_lt_of_pos (b : Int) (b := n) (by omega)
    simp -implicitDefEqProofs [eb]
    omega
  · have hl : 0 < s.length := List.length_pos_iff.2 hs
    have hL : (0 : Int) < (s.length : Int) := by omega
    have t1 := Int.tmod_nonneg (s.length : Int) (a := p) h2
    have t2 := Int.tmod_lt_of_pos p hL
    have t3 := Int.tmod_nonneg (s.length : Int) (a := p * 7 + 3) (by omega)
    have t4 := Int.tmod_lt_of_pos (p * 7 + 3) hL
    have t5 := Int.tdiv_nonneg h2 (Int.le_of_lt hL)
    have t6 : p.tdiv (s.length : Int) ≤ p := by
      have := Int.natAbs_tdiv_le_natAbs p (s.length : Int)
      omega
    obtain ⟨b1, hb1, eb1⟩ := e _ t1 t2
    obtain ⟨b2, hb2, eb2⟩ := e _ t3 t4
    simp -implicitDefEqProofs [eb1, eb2]
    generalize p.tdiv (s.length : Int) = d at t5 t6 ⊢
    generalize p.tmod (s.length : Int) = m1 at t1 t2 ⊢
    generalize (p * 7 + 3).tmod (s.length : Int) = m2 at t3 t4 ⊢
    have t7 := Int.tdiv_nonneg (a := (b1 * 131 + b2 * 1117 + p * 29 + d * 53 : Int)) (b := 64) (by omega) (by omega)
    have t8 : (b1 * 131 + b2 * 1117 + p * 29 + d * 53 : Int).tdiv 64 ≤ b1 * 131 + b2 * 1117 + p * 29 + d * 53 := by
      have := Int.natAbs_tdiv_le_natAbs (b1 * 131 + b2 * 1117 + p * 29 + d * 53 : Int) 64
      omega
    have t9 := xor_nn (a := (b1 * 131 + b2 * 1117 + p * 29 + d * 53 : Int)) (b := (b1 * 131 + b2 * 1117 + p * 29 + d * 53 : Int).tdiv 64) (by omega) (by omega) (by omega) (by omega)
    generalize (b1 * 131 + b2 * 1117 + p * 29 + d * 53 : Int).tdiv 64 = y at t7 t8 t9 ⊢
    generalize bitOp .xor .i64 (b1 * 131 + b2 * 1117 + p * 29 + d * 53 : Int) y = z at t9 ⊢
    have t10 := Int.tmod_nonneg n t9
    have t11 := Int.tmod_lt_of_pos z (b := n) (by omega)
    clear e eb1 eb2
    repeat' (first | intro _ | apply And.intro)
    all_goals first | omega | assumption | contradiction

theorem headD_mem {α : Type} {d : α} {l : List α} (h : l ≠ []) : l.headD d ∈ l := by
  cases l with
  | nil => exact absurd rfl h
  | cons x r => simp
def cOf : Con := { A := (Str × Int) × List Str, X := Str, n := 12, args := fun a => [.ptr 0 0, .sl true 1 (eStrs a.2)], boxes := fun a => [(0, 116, [.sl true 1 (eBytes a.1.1), .int .i64 a.1.2])], pre := fun a => a.1.1.length ≤ 2000 ∧ 0 ≤ a.1.2 ∧ a.1.2 ≤ 1073741824 ∧ a.2 ≠ [] ∧ a.2.length ≤ 1073741824, post := fun a x => a.2 ≠ [] → x ∈ a.2, res := fun _ x => .str x, fin := fun a _ => [(0, rdBox a.1.1 (a.1.2 + 1))], nob := false, kindly := true }
set_option maxHeartbeats 4000000 in
theorem of_has : Has Tryd.prog 93 cOf := by
  refine has_walk mixed tTab_ok (l := [(56, cPick)]) (HasL.cons pick_has HasL.nil) [0, 1, 4] ((fun a n (_ : Nat) => (fun _ => noInv) a n)) [] Tryd.func93 (by kernel_rfl) (code := _) (by unfold Tryd.f93; rfl) (by kernel_rfl) (by decide) (fun a => ⟨a.2.headD [], fun h => headD_mem h⟩) (by intro h; first | exact fun _ => rfl | cases h) (by kernel_rfl) ?_
  intro a ha
  obtain ⟨⟨s, p⟩, l⟩ := a
  obtain ⟨h1, h2, h3, h4, h5⟩ : s.length ≤ 2000 ∧ 0 ≤ p ∧ p ≤ 1073741824 ∧ l ≠ [] ∧ l.length ≤ 1073741824 := ha
  have hl : 0 < l.length := List.length_pos_iff.2 h4
  simp -implicitDefEqProofs [vc_skip, extOf, vc_seq, vc_cond, vc_block, vc_exit, vc_ret, vc_region, vc_regionD, vc_loop, kSeq_normal, kSeq_ret, kSeq_exit, kBlock_normal, kBlock_ret, kBlock_exit, kLoop_normal, kLoop_ret, kLoop_exit, kCond_bool, kNorm_app, vcOps_nil, vcOps_cons, kOps_app, kStep_some, kStep_none, vcDL_nil, vcDL_cons, kOpsD_app, kStepD_true, kStepD_tt, kStepD_false, ldB, btys, btyAct, kStepC_some, kStepC_none, kMv_app, act3_store, act3_call, act3_bs, kAct_app, kSt2_app, stealSlots, stealL, stealOne, subIn, AV.stolen, act_store, act_bs, act_append, act_call, kSet_app, kSet2_app, kSetG_app, kSetG_app0, kStore_ptr, kStore_eptr, kCallW_some, kCallC_some, kCall_some, wk_T, wk_n, wk_keep, wk_inv, wk_act, wk_dr, wk_le, aCalm, wantC, dstOk, calm, aCallK, aCall3K, subOf, subRep, aCall2K, apnd, bsMove, putBox, putOwn, partAV, mvL, AV.mv, AV.base, AV.moved, kBld, bldK, wrK, stK, AV.selfOk, AV.src, TI.flat, apSize, pickAV, St.val, St.cond, St.fn, St.next, St.set, St.trim, wipe_eq, wipeE_app, wipeM_app, pickEnv, get?, cGet, upd_app, withPuts, killAll, rm, freshP, Oper.hnd, Sc.st, ofConst, constOk, lenAV, elemLen, loadAV, ldL, ld1, fieldAddrAV, indexAddrAV, sliceAV, convAV, buildAV, fillAV, fieldAV, Out.of, binAV, AV.rows, AV.one, AV.cells, AV.deepOk, AV.toD, toDs, partRows, partRowsM, partsDeep, TK.zeroAV, TK.zeroD, byteOf, inR, Op.operands, Call.operands, passVs, passV, passL, pass1, passB, pasVs, pasV, pasL, pas1, ownsOk, okHs, okHs2, okFin, finOk2, rho, over, backRes, backAV, backAV1, backBlk, putBack, back2, back2_V, back2_1, m2, AV.wipe, AV.wipeV, AV.wipe1, Blk.wipe, AV.hs, AV.hs.hsL, alOps, Con.start2, Con.pk, bodyQ, fini, resAV, resA, firstId, Sc.from, renEnv, renT, renV, renVs, renL, ren1, renBox, renOwn, okRen, clOf, actB, setRow, flatRows, flatD, noInv, shr_nil, shr_some, kStepF_some, shareL, AV.viewed, AV.viewed1, cOf, cPick, tTab]
  refine fun _ => ⟨s, p, ⟨rfl, rfl⟩, ⟨h1, h2, h3, by omega⟩, fun y _ hy2 => ?_⟩
  obtain ⟨k1, k2⟩ := hy2 (by omega)
  have hk : y.toNat < l.length := by omega
  have e : Option.map eStr l[y.toNat]? = some (eStr l[y.toNat]) := by simp -implicitDefEqProofs [List.getElem?_eq_getElem hk]
  simp -implicitDefEqProofs [e, eStr, k1, k2]

def cOne : Con := { A := (Str × Int) × List Int, X := Int, n := 12, args := fun a => [.ptr 0 0, .sl true 1 (eInts a.2)], boxes := fun a => [(0, 116, [.sl true 1 (eBytes a.1.1), .int .i64 a.1.2])], pre := fun a => a.1.1.length ≤ 2000 ∧ 0 ≤ a.1.2 ∧ a.1.2 ≤ 1073741824 ∧ a.2 ≠ [] ∧ a.2.length ≤ 1073741824, post := fun a x => a.2 ≠ [] → x ∈ a.2, res := fun _ x => .int .i64 x, fin := fun a _ => [(0, rdBox a.1.1 (a.1.2 + 1))], nob := false, kindly := true }
set_option maxHeartbeats 4000000 in
theorem one_has : Has Tryd.prog 106 cOne := by
  refine has_walk mixed tTab_ok (l := [(56, cPick)]) (HasL.cons pick_has HasL.nil) [0, 1, 4] ((fun a n (_ : Nat) => (fun _ => noInv) a n)) [] Tryd.func106 (by kernel_rfl) (code := _) (by unfold Tryd.f106; rfl) (by kernel_rfl) (by decide) (fun a => ⟨a.2.headD 0, fun h => headD_mem h⟩) (by intro h; first | exact fun _ => rfl | cases h) (by kernel_rfl) ?_
  intro a ha
  obtain ⟨⟨s, p⟩, l⟩ := a
  obtain ⟨h1, h2, h3, h4, h5⟩ : s.length ≤ 2000 ∧ 0 ≤ p ∧ p ≤ 1073741824 ∧ l ≠ [] ∧ l.length ≤ 1073741824 := ha
  have hl : 0 < l.length := List.length_pos_iff.2 h4
  simp -implicitDefEqProofs [vc_skip, extOf, vc_seq, vc_cond, vc_block, vc_exit, vc_ret, vc_region, vc_regionD, vc_loop, kSeq_normal, kSeq_ret, kSeq_exit, kBlock_normal, kBlock_ret, kBlock_exit, kLoop_normal, kLoop_ret, kLoop_exit, kCond_bool, kNorm_app, vcOps_nil, vcOps_cons, kOps_app, kStep_some, kStep_none, vcDL_nil, vcDL_cons, kOpsD_app, kStepD_true, kStepD_tt, kStepD_false, ldB, btys, btyAct, kStepC_some, kStepC_none, kMv_app, act3_store, act3_call, act3_bs, kAct_app, kSt2_app, stealSlots, stealL, stealOne, subIn, AV.stolen, act_store, act_bs, act_append, act_call, kSet_app, kSet2_app, kSetG_app, kSetG_app0, kStore_ptr, kStore_eptr, kCallW_some, kCallC_some, kCall_some, wk_T, wk_n, wk_keep, wk_inv, wk_act, wk_dr, wk_le, aCalm, wantC, dstOk, calm, aCallK, aCall3K, subOf, subRep, aCall2K, apnd, bsMove, putBox, putOwn, partAV, mvL, AV.mv, AV.base, AV.moved, kBld, bldK, wrK, stK, AV.selfOk, AV.src, TI.flat, apSize, pickAV, St.val, St.cond, St.fn, St.next, St.set, St.trim, wipe_eq, wipeE_app, wipeM_app, pickEnv, get?, cGet, upd_app, withPuts, killAll, rm, freshP, Oper.hnd, Sc.st, ofConst, constOk, lenAV, elemLen, loadAV, ldL, ld1, fieldAddrAV, indexAddrAV, sliceAV, convAV, buildAV, fillAV, fieldAV, Out.of, binAV, AV.rows, AV.one, AV.cells, AV.deepOk, AV.toD, toDs, partRows, partRowsM, partsDeep, TK.zeroAV, TK.zeroD, byteOf, inR, Op.operands, Call.operands, passVs, passV, passL, pass1, passB, pasVs, pasV, pasL, pas1, ownsOk, okHs, okHs2, okFin, finOk2, rho, over, backRes, backAV, backAV1, backBlk, putBack, back2, back2_V, back2_1, m2, AV.wipe, AV.wipeV, AV.wipe1, Blk.wipe, AV.hs, AV.hs.hsL, alOps, Con.start2, Con.pk, bodyQ, fini, resAV, resA, firstId, Sc.from, renEnv, renT, renV, renVs, renL, ren1, renBox, renOwn, okRen, clOf, actB, setRow, flatRows, flatD, noInv, shr_nil, shr_some, kStepF_some, shareL, AV.viewed, AV.viewed1, cOne, cPick, tTab]
  refine fun _ => ⟨s, p, ⟨rfl, rfl⟩, ⟨h1, h2, h3, by omega⟩, fun y _ hy2 => ?_⟩
  obtain ⟨k1, k2⟩ := hy2 (by omega)
  have hk : y.toNat < l.length := by omega
  have e : Option.map eInt l[y.toNat]? = some (eInt l[y.toNat]) := by simp -implicitDefEqProofs [List.getElem?_eq_getElem hk]
  simp -implicitDefEqProofs [e, eInt, k1, k2]

end Vx
end Go.Proofs.YthmhaggmcfemnaaDoor
/-
  Contracts: strings.Builder; trees written by the program (treePut, TreePut).
-/
namespace Go.Proofs.YthmhaggmcfemnaaDoor
namespace Vx
open Go.RowKit
set_option maxRecDepth 8000

def tTabS : List (Nat × TI) := (87, ⟨true, [.oth (.pointer none), .sl 5 1], 32, [(85, 0), (46, 1)], 0⟩) :: tTab
theorem tTabS_ok : ∀ t ti, get? tTabS t = some ti → TOk Tryd.prog t ti := tabChk_ok (by kernel_rfl)
def cWrite : Con := { A := Unit, X := Unit, n := 19, args := fun _ => [], boxes := fun _ => [], pre := fun _ => False, post := fun _ _ => True, res := fun _ _ => .junk, fin := fun _ _ => [], mv := true, bld := (1, 87, 46, 9) }
theorem write_has : Has Tryd.prog 64 cWrite :=
  ⟨fun args w => Go.MuLone.run_callFunc_enter Tryd.func64 (by kernel_rfl) rfl args w, fun _ => ⟨(), trivial⟩, fun _ _ => rfl, fun _ h => h.elim,
    ⟨(by kernel_rfl), fun w w1 w2 b pv v v' v2 s h1 h2 h3 h4 h5 h6 h7 => bld_write w w1 w2 b pv v v' v2 s h1 h2 h3 h4 h5 h6 h7⟩, .inl rfl⟩
def cBStr : Con := { A := Unit, X := Unit, n := 14, args := fun _ => [], boxes := fun _ => [], pre := fun _ => False, post := fun _ _ => True, res := fun _ _ => .junk, fin := fun _ _ => [], mv := true, bld := (2, 87, 5, 0) }
theorem bStr_has : Has Tryd.prog 66 cBStr := by
  refine ⟨fun args w => Go.MuLone.run_callFunc_enter Tryd.func66 (by kernel_rfl) rfl args w, fun _ => ⟨(), trivial⟩, fun _ _ => rfl, fun _ h => h.elim, ?_, .inl rfl⟩
  intro w b pv v l hb hv
  rcases hv with ⟨rfl, rfl⟩ | ⟨g, cap, cs, rfl, hg, h1, h2, h3, h4⟩
  · refine (bld_string_nil w b pv hb).mono ?_
    rintro e w' ⟨rfl, rfl⟩
    exact ⟨rfl, Nat.le_refl _, rfl, rfl, rfl, fun x _ => .inl rfl⟩
  · have hgl : g < w.heap.size := (Array.getElem?_eq_some_iff.1 hg).1
    by_cases h0 : l = []
    · subst h0
      by_cases hc : cap = 0
      · subst hc
        refine (bld_string_noroom w b g pv cs hb hg).mono ?_
        rintro e w' ⟨rfl, hw⟩
        have hw' : w'.heap = w.heap.push (.view ⟨g, 0, none⟩ 5) ∧ w'.os = w.os ∧ w'.tape = w.tape ∧ w'.output = w.output := by
          rcases hw with rfl | rfl <;> exact ⟨rfl, rfl, rfl, rfl⟩
        obtain ⟨z1, z2, z3, z4⟩ := hw'
        exact ⟨rfl, by rw [z1]; simp, z2, z3, z4, fun x hx => .inl (by rw [z1, Array.getElem?_push]; simp -implicitDefEqProofs [Nat.ne_of_lt hx])⟩
      · refine (bld_string_room w b g cap pv hb hc).mono ?_
        rintro e w' ⟨rfl, rfl⟩
        exact ⟨rfl, Nat.le_refl _, rfl, rfl, rfl, fun x _ => .inl rfl⟩
    · have hl : 0 < l.length := List.length_pos_iff.2 h0
      refine (bld_string w b g cap pv cs l hb hg h1 (by unfold maxLen at h3; omega) h0 (by omega) h4).mono ?_
      rintro e w' ⟨rfl, rfl⟩
      have hn : ¬ l.length = 0 := by omega
      have hh : (w.drew.freeze ⟨g, 0, none⟩ l.length).heap.size = w.heap.size ∧ ∀ x, (w.drew.freeze ⟨g, 0, none⟩ l.length).heap[x]? = if g = x then (w.heap[x]?).map (fun o => match o with | .cells c elem (lo, hi) => .cells c elem (if lo == hi then (0, 0 + l.length) else (min lo 0, max hi (0 + l.length))) | o => o) else w.heap[x]? := by
        unfold World.freeze
        rw [if_neg hn]
        exact ⟨by simp only [Array.size_modify]; rfl, fun x => by simp only [Array.getElem?_modify]; rfl⟩
      refine ⟨rfl, Nat.le_of_eq hh.1.symm, by unfold World.freeze; rw [if_neg hn]; rfl, by unfold World.freeze; rw [if_neg hn]; rfl, by unfold World.freeze; rw [if_neg hn]; rfl, fun x hx => ?_⟩
      rw [hh.2 x]
      by_cases e : g = x
      · subst e
        rw [if_pos rfl, hg]
        exact .inr ⟨_, _, _, _, rfl, rfl, rfl⟩
      · rw [if_neg e]; exact .inl rfl

def bBld (x : Str) : Blk := .box 87 [.slf 10, .own 11 1 (eBytes x)]
def oBld (x : Str) : Blk := .own 5 1 true (eBytes x)
def ptO (t : List FileD) : Inv := ⟨Nat, fun i => ⟨[(2, true, .str []), (3, true, .ptr 10 0), (8, true, .sl true 2 (eFiles t)), (9, true, .int .i64 t.length), (10, true, .int .i64 i)], [(10, .box 87 [.slf 10, .own 11 1 (eBytes (treeT (t.take i)))]), (11, .own 5 1 true (eBytes (treeT (t.take i))))]⟩, fun i => i ≤ t.length, fun i => t.length - i⟩
def ptI (t : List FileD) (g : Nat) : Inv := ⟨Nat, fun k => ⟨[(2, true, .str []), (3, true, .ptr 10 0), (8, true, .sl true 2 (eFiles t)), (9, true, .int .i64 t.length), (10, true, .int .i64 g), (26, true, .sl true 1 (eStrs (t.getD g default).text)), (27, true, .int .i64 (t.getD g default).text.length), (28, true, .int .i64 k)],
  [(10, .box 87 [.slf 10, .own 11 1 (eBytes (treeT (t.take g) ++ fileH (t.getD g default) ++ linesT ((t.getD g default).text.take k)))]), (11, .own 5 1 true (eBytes (treeT (t.take g) ++ fileH (t.getD g default) ++ linesT ((t.getD g default).text.take k))))]⟩,
  fun k => g < t.length ∧ k ≤ (t.getD g default).text.length, fun k => (t.getD g default).text.length - k⟩
def ptInv (t : List FileD) (n g : Nat) : Inv := if n = 3 then ptO t else ptI t g
theorem ptInv_3 (t : List FileD) (g : Nat) : ptInv t 3 g = ptO t := rfl
theorem ptInv_7 (t : List FileD) (g : Nat) : ptInv t 7 g = ptI t g := rfl
theorem rowsOf_eq (q : List UInt8) : rowsOf q = eBytes q := rfl
--TAB tTabS
def cTreePutT : Con := .fn 38 (List FileD) (fun t => [.sl true 2 (eFiles t)]) okT (fun t => .str (treeT t)) (fun _ => [])
set_option maxHeartbeats 4000000 in
theorem treePutT_has : Has Tryd.prog 30 cTreePutT := by
  refine has_walk mixed tTabS_ok (l := [(65, cItoa), (64, cWrite), (66, cBStr)]) (HasL.cons itoa_has (HasL.cons write_has (HasL.cons bStr_has HasL.nil))) [0, 2, 3, 5, 7, 8, 9, 10, 26, 27, 28] (fun t => ptInv t) [] Tryd.func30 (by kernel_rfl) (code := _) (by unfold Tryd.f30; rfl) (by kernel_rfl) (by decide) (fun _ => ⟨(), trivial⟩) (by intro h; first | exact fun _ => rfl | cases h) (by kernel_rfl) ?_
  intro (t : List FileD) ht
  have hb := okT_take ht
  obtain ⟨ht1, ht2⟩ : t.length ≤ 8 ∧ ∀ f ∈ t, f.path.length ≤ 1048576 ∧ f.text.length ≤ 64 ∧ ∀ s ∈ f.text, s.length ≤ 12 := ht
  simp -implicitDefEqProofs [vc_skip, extOf, vc_seq, vc_cond, vc_block, vc_exit, vc_ret, vc_region, vc_regionD, vc_loop, kSeq_normal, kSeq_ret, kSeq_exit, kBlock_normal, kBlock_ret, kBlock_exit, kLoop_normal, kLoop_ret, kLoop_exit, kCond_bool, kNorm_app, vcOps_nil, vcOps_cons, kOps_app, kStep_some, kStep_none, vcDL_nil, vcDL_cons, kOpsD_app, kStepD_true, kStepD_tt, kStepD_false, ldB, btys, btyAct, kStepC_some, kStepC_none, kMv_app, act3_store, act3_call, act3_bs, kAct_app, kSt2_app, stealSlots, stealL, stealOne, subIn, AV.stolen, act_store, act_bs, act_append, act_call, kSet_app, kSet2_app, kSetG_app, kSetG_app0, kStore_ptr, kStore_eptr, kCallW_some, kCallC_some, kCall_some, wk_T, wk_n, wk_keep, wk_inv, wk_act, wk_dr, wk_le, aCalm, wantC, dstOk, calm, aCallK, aCall3K, subOf, subRep, aCall2K, apnd, bsMove, putBox, putOwn, partAV, mvL, AV.mv, AV.base, AV.moved, kBld, bldK, wrK, stK, AV.selfOk, AV.src, TI.flat, apSize, pickAV, St.val, St.cond, St.fn, St.next, St.set, St.trim, wipe_eq, wipeE_app, wipeM_app, pickEnv, get?, cGet, upd_app, withPuts, killAll, rm, freshP, Oper.hnd, Sc.st, ofConst, constOk, lenAV, elemLen, loadAV, ldL, ld1, fieldAddrAV, indexAddrAV, sliceAV, convAV, buildAV, fillAV, fieldAV, Out.of, binAV, AV.rows, AV.one, AV.cells, AV.deepOk, AV.toD, toDs, partRows, partRowsM, partsDeep, TK.zeroAV, TK.zeroD, byteOf, inR, Op.operands, Call.operands, passVs, passV, passL, pass1, passB, pasVs, pasV, pasL, pas1, ownsOk, okHs, okHs2, okFin, finOk2, rho, over, backRes, backAV, backAV1, backBlk, putBack, back2, back2_V, back2_1, m2, AV.wipe, AV.wipeV, AV.wipe1, Blk.wipe, AV.hs, AV.hs.hsL, alOps, Con.start2, Con.pk, bodyQ, fini, resAV, resA, firstId, Sc.from, renEnv, renT, renV, renVs, renL, ren1, renBox, renOwn, okRen, clOf, actB, setRow, flatRows, flatD, noInv, shr_nil, shr_some, kStepF_some, shareL, AV.viewed, AV.viewed1, cTreePutT, Con.fn, tTabS, tTab, cItoa, cWrite, cBStr, ptInv_3, ptInv_7, ptO, ptI, rowsOf_eq]
  try dsimp only
  simp only [and_assoc, exists_eq_left, exists_and_left]
  refine fun _ => ⟨by simp -implicitDefEqProofs [treeT, eBytes], Nat.zero_le _, fun i hi => ⟨fun hlt => ⟨hlt, fun _ => ?_⟩, fun hge => by rw [List.take_of_length_le hge]⟩⟩
  have e3 : Option.map eFile t[i]? = some (eFile t[i]) := by simp -implicitDefEqProofs [List.getElem?_eq_getElem hlt]
  have hf := ht2 _ (List.getElem_mem hlt)
  have hbi := hb i
  have hbj := hb (i + 1)
  rw [treeT_take t i hlt] at hbj
  have hd := decS_len t[i].text.length
  simp only [List.length_append] at hbj
  have hg : t[i]?.getD default = t[i] := by simp -implicitDefEqProofs [hlt]
  have hfl := fileH_len t[i]
  simp -implicitDefEqProofs [e3, eFile, D.asStr, D.asRows, maxLen]
  refine ⟨by omega, fun _ => ⟨by omega, fun _ => ⟨t[i].text.length, rfl, by omega, by omega, fun _ => ⟨by omega, fun _ => ⟨by omega, fun _ => ⟨i, rfl, by rw [hg], by rw [hg], ?_, ?_, hlt, fun k _ hk => ?_⟩⟩⟩⟩⟩⟩
  · rw [hg]; simp -implicitDefEqProofs [fileH, linesT, eBytes]
  · rw [hg]; simp -implicitDefEqProofs [fileH, linesT, eBytes]
  rw [hg] at hk ⊢
  have hlb := linesT_len (t[i].text.take k) (fun s hs => hf.2.2 s (List.mem_of_mem_take hs))
  have hln : (t[i].text.take k).length ≤ 64 := by simp; omega
  refine ⟨fun hk2 => ⟨hk2, fun _ => ?_⟩, fun hk2 => ?_⟩
  · have e5 : Option.map eStr t[i].text[k]? = some (eStr t[i].text[k]) := by simp -implicitDefEqProofs [List.getElem?_eq_getElem hk2]
    have hs := hf.2.2 _ (List.getElem_mem hk2)
    have h6 := linesT_take t[i].text k hk2
    simp -implicitDefEqProofs [e5, eStr]
    have h7 : eBytes (treeT (List.take i t) ++ (fileH t[i] ++ linesT (List.take (k + 1) t[i].text))) = eBytes (treeT (List.take i t) ++ (fileH t[i] ++ linesT (List.take k t[i].text))) ++ eBytes (t[i].text[k] ++ [10]) := by
      rw [h6]; simp -implicitDefEqProofs [eBytes]
    exact ⟨by omega, fun _ => ⟨by omega, by omega, by omega, fun _ _ => ⟨k + 1, by omega, h7, h7.symm, hlt, by omega, by omega⟩⟩⟩
  · have hkk : t[i].text.take k = t[i].text := List.take_of_length_le hk2
    rw [hkk]
    exact ⟨by omega, by omega, fun _ _ => ⟨i + 1, by omega, treeT_take t i hlt, (treeT_take t i hlt).symm, by omega, by omega⟩⟩
def cTreePutI : Con := .fn 8 (List FileD) (fun t => [.sl true 2 (eFiles t)]) (fun t => ∀ f ∈ t, f.path.length ≤ 1048576) (fun t => .str (treePutS t)) (fun _ => [])
set_option maxHeartbeats 4000000 in
theorem treePutI_has : Has Tryd.prog 11 cTreePutI := by
  refine has_walk mixed tTabS_ok (l := [(23, cTreeOk), (30, cTreePutT)]) (HasL.cons treeOk_has (HasL.cons treePutT_has HasL.nil)) [0, 2] ((fun a n (_ : Nat) => (fun _ => noInv) a n)) [] Tryd.func11 (by kernel_rfl) (code := _) (by unfold Tryd.f11; rfl) (by kernel_rfl) (by decide) (fun _ => ⟨(), trivial⟩) (by intro h; first | exact fun _ => rfl | cases h) (by kernel_rfl) ?_
  intro (t : List FileD) ht
  have h1 : treeS t = true → okT t := fun h => okT_of (t := t) h ht
  have h2 : ∀ f ∈ t, f.path.length ≤ 536870912 := fun f hf => by have : f.path.length ≤ 1048576 := ht f hf; omega
  simp -implicitDefEqProofs [vc_skip, extOf, vc_seq, vc_cond, vc_block, vc_exit, vc_ret, vc_region, vc_regionD, vc_loop, kSeq_normal, kSeq_ret, kSeq_exit, kBlock_normal, kBlock_ret, kBlock_exit, kLoop_normal, kLoop_ret, kLoop_exit, kCond_bool, kNorm_app, vcOps_nil, vcOps_cons, kOps_app, kStep_some, kStep_none, vcDL_nil, vcDL_cons, kOpsD_app, kStepD_true, kStepD_tt, kStepD_false, ldB, btys, btyAct, kStepC_some, kStepC_none, kMv_app, act3_store, act3_call, act3_bs, kAct_app, kSt2_app, stealSlots, stealL, stealOne, subIn, AV.stolen, act_store, act_bs, act_append, act_call, kSet_app, kSet2_app, kSetG_app, kSetG_app0, kStore_ptr, kStore_eptr, kCallW_some, kCallC_some, kCall_some, wk_T, wk_n, wk_keep, wk_inv, wk_act, wk_dr, wk_le, aCalm, wantC, dstOk, calm, aCallK, aCall3K, subOf, subRep, aCall2K, apnd, bsMove, putBox, putOwn, partAV, mvL, AV.mv, AV.base, AV.moved, kBld, bldK, wrK, stK, AV.selfOk, AV.src, TI.flat, apSize, pickAV, St.val, St.cond, St.fn, St.next, St.set, St.trim, wipe_eq, wipeE_app, wipeM_app, pickEnv, get?, cGet, upd_app, withPuts, killAll, rm, freshP, Oper.hnd, Sc.st, ofConst, constOk, lenAV, elemLen, loadAV, ldL, ld1, fieldAddrAV, indexAddrAV, sliceAV, convAV, buildAV, fillAV, fieldAV, Out.of, binAV, AV.rows, AV.one, AV.cells, AV.deepOk, AV.toD, toDs, partRows, partRowsM, partsDeep, TK.zeroAV, TK.zeroD, byteOf, inR, Op.operands, Call.operands, passVs, passV, passL, pass1, passB, pasVs, pasV, pasL, pas1, ownsOk, okHs, okHs2, okFin, finOk2, rho, over, backRes, backAV, backAV1, backBlk, putBack, back2, back2_V, back2_1, m2, AV.wipe, AV.wipeV, AV.wipe1, Blk.wipe, AV.hs, AV.hs.hsL, alOps, Con.start2, Con.pk, bodyQ, fini, resAV, resA, firstId, Sc.from, renEnv, renT, renV, renVs, renL, ren1, renBox, renOwn, okRen, clOf, actB, setRow, flatRows, flatD, noInv, shr_nil, shr_some, kStepF_some, shareL, AV.viewed, AV.viewed1, cTreePutI, cTreeOk, cTreePutT, Con.fn, tTabS, tTab]
  try dsimp only
  rw [tree_eq]
  refine ⟨h2, fun h => ?_, fun h => ⟨h1 h, ?_⟩⟩
  · unfold treePutS; rw [h]; rfl
  · unfold treePutS; rw [h]; rfl

end Vx
end Go.Proofs.YthmhaggmcfemnaaDoor
/-
  Contracts: lines read (linesOf, readFiles, l1Num, l24Rd).
-/
namespace Go.Proofs.YthmhaggmcfemnaaDoor
namespace Vx
open Go.RowKit
set_option maxRecDepth 8000

def tTabR : List (Nat × TI) := (68, ⟨true, [.sl 9 1, .int .i64, .bool], 40, [(52, 0), (3, 1), (4, 2)], 0⟩) :: tTab
theorem tTabR_ok : ∀ t ti, get? tTabR t = some ti → TOk Tryd.prog t ti := tabChk_ok (by kernel_rfl)
--TAB tTabR
def cLinesOf : Con := .fn 21 Str (fun s => [.str s]) (fun s => s.length ≤ 1073741824) (fun s => .tup [.sl false 1 (eStrs (linesI s).1), .bool (linesI s).2]) (fun _ => [])
set_option maxHeartbeats 4000000 in
theorem linesOf_has : Has Tryd.prog 44 cLinesOf := by
  refine has_walk mixed tTabR_ok (l := [(82, cSplit)]) (HasL.cons split_has HasL.nil) [0, 2, 3, 4, 5] ((fun a n (_ : Nat) => (fun _ => noInv) a n)) [] Tryd.func44 (by kernel_rfl) (code := _) (by unfold Tryd.f44; rfl) (by kernel_rfl) (by decide) (fun _ => ⟨(), trivial⟩) (by intro h; first | exact fun _ => rfl | cases h) (by kernel_rfl) ?_
  intro (s : Str) (hs : s.length ≤ 1073741824)
  have h1 := spl_len 10 s []
  have h2 : s.count 10 ≤ s.length := List.count_le_length
  have e0 : linesI [] = ([], true) := rfl
  have e1 : ¬ s = [] → linesI s = ((spl 10 s []).dropLast, decide ((spl 10 s []).getLastD [] = [])) := fun h => by unfold linesI; rw [if_neg h]
  have e2 : (spl 10 s []).dropLast = (spl 10 s []).take ((spl 10 s []).length - 1) := List.dropLast_eq_take
  have hlt : (spl 10 s []).length - 1 < (spl 10 s []).length := by omega
  have e3 : (spl 10 s []).getLastD [] = (spl 10 s [])[(spl 10 s []).length - 1] := by
    rw [List.getLastD_eq_getLast?, List.getLast?_eq_getElem?, List.getElem?_eq_getElem hlt]; rfl
  simp -implicitDefEqProofs [vc_skip, extOf, vc_seq, vc_cond, vc_block, vc_exit, vc_ret, vc_region, vc_regionD, vc_loop, kSeq_normal, kSeq_ret, kSeq_exit, kBlock_normal, kBlock_ret, kBlock_exit, kLoop_normal, kLoop_ret, kLoop_exit, kCond_bool, kNorm_app, vcOps_nil, vcOps_cons, kOps_app, kStep_some, kStep_none, vcDL_nil, vcDL_cons, kOpsD_app, kStepD_true, kStepD_tt, kStepD_false, ldB, btys, btyAct, kStepC_some, kStepC_none, kMv_app, act3_store, act3_call, act3_bs, kAct_app, kSt2_app, stealSlots, stealL, stealOne, subIn, AV.stolen, act_store, act_bs, act_append, act_call, kSet_app, kSet2_app, kSetG_app, kSetG_app0, kStore_ptr, kStore_eptr, kCallW_some, kCallC_some, kCall_some, wk_T, wk_n, wk_keep, wk_inv, wk_act, wk_dr, wk_le, aCalm, wantC, dstOk, calm, aCallK, aCall3K, subOf, subRep, aCall2K, apnd, bsMove, putBox, putOwn, partAV, mvL, AV.mv, AV.base, AV.moved, kBld, bldK, wrK, stK, AV.selfOk, AV.src, TI.flat, apSize, pickAV, St.val, St.cond, St.fn, St.next, St.set, St.trim, wipe_eq, wipeE_app, wipeM_app, pickEnv, get?, cGet, upd_app, withPuts, killAll, rm, freshP, Oper.hnd, Sc.st, ofConst, constOk, lenAV, elemLen, loadAV, ldL, ld1, fieldAddrAV, indexAddrAV, sliceAV, convAV, buildAV, fillAV, fieldAV, Out.of, binAV, AV.rows, AV.one, AV.cells, AV.deepOk, AV.toD, toDs, partRows, partRowsM, partsDeep, TK.zeroAV, TK.zeroD, byteOf, inR, Op.operands, Call.operands, passVs, passV, passL, pass1, passB, pasVs, pasV, pasL, pas1, ownsOk, okHs, okHs2, okFin, finOk2, rho, over, backRes, backAV, backAV1, backBlk, putBack, back2, back2_V, back2_1, m2, AV.wipe, AV.wipeV, AV.wipe1, Blk.wipe, AV.hs, AV.hs.hsL, alOps, Con.start2, Con.pk, bodyQ, fini, resAV, resA, firstId, Sc.from, renEnv, renT, renV, renVs, renL, ren1, renBox, renOwn, okRen, clOf, actB, setRow, flatRows, flatD, noInv, shr_nil, shr_some, kStepF_some, shareL, AV.viewed, AV.viewed1, cLinesOf, cSplit, Con.fn, tTabR, tTab]
  try dsimp only
  refine ⟨fun h => by subst h; exact ⟨rfl, rfl⟩, fun h => ⟨s, 10, ⟨rfl, rfl⟩, hs, fun _ => ⟨by omega, fun _ _ => ⟨by omega, fun _ _ => ⟨by omega, fun _ _ => ?_⟩⟩⟩⟩⟩
  have e4 : Option.map eStr (spl 10 s [])[(spl 10 s []).length - 1]? = some (eStr (spl 10 s [])[(spl 10 s []).length - 1]) := by rw [List.getElem?_eq_getElem hlt]; rfl
  rw [e4, e1 h, e2, e3]
  simp -implicitDefEqProofs [eStr, eStrs_take]

theorem rfI_nil {num n t} : rfI num n t [] = (t, []) := by cases n <;> rfl
def okW (w : List Str) : Prop := w.length = 3 ∧ w.getD 0 [] = [102, 105, 108, 101]
theorem rfI_step {num : Str → Int × Bool} {t : List FileD} {l : Str} {ls : List Str} :
    (¬ (spl 32 l []).length = 3 → rfI num (l :: ls).length t (l :: ls) = (t, l :: ls)) ∧
    (¬ (spl 32 l []).getD 0 [] = [102, 105, 108, 101] → rfI num (l :: ls).length t (l :: ls) = (t, l :: ls)) ∧
    ((num ((spl 32 l []).getD 2 [])).2 = false → rfI num (l :: ls).length t (l :: ls) = (t, l :: ls)) ∧
    (¬ (0 ≤ (num ((spl 32 l []).getD 2 [])).1 ∧ (num ((spl 32 l []).getD 2 [])).1 ≤ ls.length) → rfI num (l :: ls).length t (l :: ls) = (t, l :: ls)) ∧
    ((spl 32 l []).length = 3 → (spl 32 l []).getD 0 [] = [102, 105, 108, 101] → (num ((spl 32 l []).getD 2 [])).2 = true → 0 ≤ (num ((spl 32 l []).getD 2 [])).1 → (num ((spl 32 l []).getD 2 [])).1 ≤ ls.length →
      rfI num (l :: ls).length t (l :: ls) = rfI num (ls.drop (num ((spl 32 l []).getD 2 [])).1.toNat).length (t ++ [⟨(spl 32 l []).getD 1 [], ls.take (num ((spl 32 l []).getD 2 [])).1.toNat⟩]) (ls.drop (num ((spl 32 l []).getD 2 [])).1.toNat)) := by
  simp only [List.length_cons, rfI]
  refine ⟨fun h => if_neg fun q => h q.1, fun h => if_neg fun q => h q.2, fun h => ?_, fun h => ?_, fun h1 h2 h3 h4 h5 => ?_⟩
  · split
    · exact if_neg fun q => by rw [h] at q; cases q.1
    · rfl
  · split
    · exact if_neg fun q => h q.2
    · rfl
  · rw [if_pos ⟨h1, h2⟩, if_pos ⟨h3, h4, h5⟩]
    exact rfI_fuel (by simp) (Nat.le_refl _)
def lsPre (ls : List Str) : Prop := ls.length ≤ 1048576 ∧ ∀ l ∈ ls, l.length ≤ 1073741824
def cReadFiles : Con := { (Con.fn 59 (List Str) (fun ls => [.sl true 1 (eStrs ls)]) lsPre (fun ls => .tup [.own 8 2 (eFiles (rfI numS ls.length [] ls).1), .sl true 1 (eStrs (rfI numS ls.length [] ls).2)]) (fun ls => ownFiles 8 (rfI numS ls.length [] ls).1)) with need := numNeed }
set_option maxHeartbeats 4000000 in
theorem readFiles_has : Has Tryd.prog 45 cReadFiles := by
  refine has_walk mixed tTabR_ok (l := [(82, cSplit), (83, cNumber), (75, cWithin), (84, cCopyText)]) (HasL.cons split_has (HasL.cons number_has (HasL.cons within_has (HasL.cons copyText_has HasL.nil)))) [0, 2, 3, 4, 5, 6, 7] ((fun a n (_ : Nat) => (fun ls _ => ⟨List FileD × List Str, fun t => ⟨[(0, true, .sl true 1 (eStrs t.2)), (2, true, .nil), (3, true, .nil), (4, true, .own 9 2 (eFiles t.1))], ownFiles 9 t.1⟩, fun t => t.1.length + t.2.length ≤ ls.length ∧ (∀ l ∈ t.2, l.length ≤ 1073741824) ∧ rfI numS t.2.length t.1 t.2 = rfI numS ls.length [] ls, fun t => t.2.length⟩) a n)) [51] Tryd.func45 (by kernel_rfl) (code := _) (by unfold Tryd.f45; rfl) (by kernel_rfl) (by decide) (fun _ => ⟨(), trivial⟩) (by intro h; first | exact fun _ => rfl | cases h) (by kernel_rfl) ?_
  intro (ls : List Str) ⟨h1, h2⟩
  simp -implicitDefEqProofs [vc_skip, extOf, vc_seq, vc_cond, vc_block, vc_exit, vc_ret, vc_region, vc_regionD, vc_loop, kSeq_normal, kSeq_ret, kSeq_exit, kBlock_normal, kBlock_ret, kBlock_exit, kLoop_normal, kLoop_ret, kLoop_exit, kCond_bool, kNorm_app, vcOps_nil, vcOps_cons, kOps_app, kStep_some, kStep_none, vcDL_nil, vcDL_cons, kOpsD_app, kStepD_true, kStepD_tt, kStepD_false, ldB, btys, btyAct, kStepC_some, kStepC_none, kMv_app, act3_store, act3_call, act3_bs, kAct_app, kSt2_app, stealSlots, stealL, stealOne, subIn, AV.stolen, act_store, act_bs, act_append, act_call, kSet_app, kSet2_app, kSetG_app, kSetG_app0, kStore_ptr, kStore_eptr, kCallW_some, kCallC_some, kCall_some, wk_T, wk_n, wk_keep, wk_inv, wk_act, wk_dr, wk_le, aCalm, wantC, dstOk, calm, aCallK, aCall3K, subOf, subRep, aCall2K, apnd, bsMove, putBox, putOwn, partAV, mvL, AV.mv, AV.base, AV.moved, kBld, bldK, wrK, stK, AV.selfOk, AV.src, TI.flat, apSize, pickAV, St.val, St.cond, St.fn, St.next, St.set, St.trim, wipe_eq, wipeE_app, wipeM_app, pickEnv, get?, cGet, upd_app, withPuts, killAll, rm, freshP, Oper.hnd, Sc.st, ofConst, constOk, lenAV, elemLen, loadAV, ldL, ld1, fieldAddrAV, indexAddrAV, sliceAV, convAV, buildAV, fillAV, fieldAV, Out.of, binAV, AV.rows, AV.one, AV.cells, AV.deepOk, AV.toD, toDs, partRows, partRowsM, partsDeep, TK.zeroAV, TK.zeroD, byteOf, inR, Op.operands, Call.operands, passVs, passV, passL, pass1, passB, pasVs, pasV, pasL, pas1, ownsOk, okHs, okHs2, okFin, finOk2, rho, over, backRes, backAV, backAV1, backBlk, putBack, back2, back2_V, back2_1, m2, AV.wipe, AV.wipeV, AV.wipe1, Blk.wipe, AV.hs, AV.hs.hsL, alOps, Con.start2, Con.pk, bodyQ, fini, resAV, resA, firstId, Sc.from, renEnv, renT, renV, renVs, renL, ren1, renBox, renOwn, okRen, clOf, actB, setRow, flatRows, flatD, noInv, shr_nil, shr_some, kStepF_some, shareL, AV.viewed, AV.viewed1, cReadFiles, cSplit, cNumber, cWithin, cCopyText, Con.fn, tTabR, tTab]
  try dsimp only
  refine ⟨⟨[], ls, ⟨rfl, rfl⟩, by simp, h2, rfl⟩, fun t b g1 g2 g3 _ => ⟨fun hb => ⟨hb, fun _ => ?_⟩, fun hb => ?_⟩⟩
  · obtain ⟨l, r, rfl⟩ : ∃ l r, b = l :: r := by cases b with | nil => simp at hb | cons l r => exact ⟨l, r, rfl⟩
    obtain ⟨s1, s2, s3, s4, s5⟩ := rfI_step (num := numS) (t := t) (l := l) (ls := r)
    rw [g3] at s1 s2 s3 s4 s5
    clear g3
    generalize rfI numS ls.length [] ls = F at s1 s2 s3 s4 s5 ⊢
    have hl := g2 l (by simp)
    have hle := fun q hq => spl_le (c := 32) (s := l) (p := []) q hq
    simp only [List.length_cons] at g1
    simp -implicitDefEqProofs [eStr]
    refine ⟨l, 32, ⟨rfl, rfl⟩, hl, fun hw => ⟨fun h3 => by rw [s1 (by omega)]; simp, fun h3 => ⟨by omega, fun _ => ?_⟩⟩⟩
    obtain ⟨x, y, z, hw3⟩ : ∃ x y z, spl 32 l [] = [x, y, z] := by
      have h3 : (spl 32 l []).length = 3 := by omega
      match hq : spl 32 l [], h3 with
      | [x, y, z], _ => exact ⟨x, y, z, rfl⟩
    rw [hw3] at s2 s3 s4 s5 hle ⊢
    simp only [List.getD_cons_zero, List.getD_cons_succ, List.length_cons, List.length_nil] at s2 s3 s4 s5
    have hz := hle z (by simp)
    simp -implicitDefEqProofs [eStr]
    refine ⟨fun hx => by rw [s2 hx]; simp, fun hx => ⟨by simp at hz; omega, fun hk => ?_, fun hk => by rw [s3 hk]; simp⟩⟩
    have hn1 : ((numS z).1 + 1).toNat - 1 = (numS z).1.toNat := by omega
    refine fun _ => ⟨by omega, fun _ => ⟨(numS z).1, 0, r.length, ⟨rfl, rfl, rfl⟩, fun h => by rw [s4 (by omega)]; simp, fun h0 h1' => ⟨by omega, fun _ _ => ⟨by omega, fun _ _ => ⟨r.take (numS z).1.toNat, ?_, by simp; omega, by omega, by omega, fun _ _ => ⟨by omega, fun _ _ => ⟨t ++ [⟨y, r.take (numS z).1.toNat⟩], r.drop (numS z).1.toNat, ⟨⟨?_, ?_⟩, ?_⟩, ⟨by simp; omega, fun q hq => g2 q (by simp -implicitDefEqProofs [List.mem_of_mem_drop hq]), (s5 trivial hx hk h0 h1').symm⟩, by simp; omega⟩⟩⟩⟩⟩⟩⟩
    · rw [hn1]; simp -implicitDefEqProofs [eStrs]
    · have e5 : ((numS z).1 + 1).toNat = (numS z).1.toNat + 1 := by omega
      rw [e5]
      simp only [eStrs, List.map_cons, List.drop_succ_cons]
      rw [List.take_of_length_le (by simp), List.map_drop]
    · simp -implicitDefEqProofs [eFiles, eFile]
    · simp -implicitDefEqProofs [eFiles, eFile]
  · subst hb
    rw [← g3, rfI_nil]; exact ⟨⟨rfl, rfl⟩, rfl⟩

def cNumB : Con := .fn 47 Str (fun s => [.str s]) (fun s => s.length ≤ 1073741824) (fun s => .int .i64 (numB s)) (fun _ => [])
theorem numA_step {s : Str} {i : Nat} {n : Int} (h : i < s.length) : numA (s.drop i) i n = if s[i].toNat < 48 ∨ 57 < s[i].toNat ∨ 6 ≤ i then -1 else numA (s.drop (i + 1)) (i + 1) (n * 10 + ((s[i].toNat : Int) - 48)) := by
  rw [List.drop_eq_getElem_cons h]; rfl
theorem numA_end {s : Str} {i : Nat} {n : Int} (h : s.length ≤ i) : numA (s.drop i) i n = n := by
  rw [List.drop_eq_nil_of_le h]; rfl
set_option maxHeartbeats 4000000 in
theorem numB_has : Has Tryd.prog 81 cNumB := by
  refine has_walk mixed tTabR_ok (l := []) HasL.nil [0, 2, 3, 4] ((fun a n (_ : Nat) => (fun s _ => ⟨Nat × Int, fun t => ⟨[(0, true, .str s), (2, true, .int .i64 0), (3, true, .int .i64 t.2), (4, true, .int .i64 t.1)], []⟩, fun t => t.1 ≤ s.length ∧ t.1 ≤ 6 ∧ 0 ≤ t.2 ∧ t.2 < ((10 ^ t.1 : Nat) : Int) ∧ numA (s.drop t.1) t.1 t.2 = numA s 0 0, fun t => s.length - t.1⟩) a n)) [] Tryd.func81 (by kernel_rfl) (code := _) (by unfold Tryd.f81; rfl) (by kernel_rfl) (by decide) (fun _ => ⟨(), trivial⟩) (by intro h; first | exact fun _ => rfl | cases h) (by kernel_rfl) ?_
  intro (s : Str) (hs : s.length ≤ 1073741824)
  simp -implicitDefEqProofs [vc_skip, extOf, vc_seq, vc_cond, vc_block, vc_exit, vc_ret, vc_region, vc_regionD, vc_loop, kSeq_normal, kSeq_ret, kSeq_exit, kBlock_normal, kBlock_ret, kBlock_exit, kLoop_normal, kLoop_ret, kLoop_exit, kCond_bool, kNorm_app, vcOps_nil, vcOps_cons, kOps_app, kStep_some, kStep_none, vcDL_nil, vcDL_cons, kOpsD_app, kStepD_true, kStepD_tt, kStepD_false, ldB, btys, btyAct, kStepC_some, kStepC_none, kMv_app, act3_store, act3_call, act3_bs, kAct_app, kSt2_app, stealSlots, stealL, stealOne, subIn, AV.stolen, act_store, act_bs, act_append, act_call, kSet_app, kSet2_app, kSetG_app, kSetG_app0, kStore_ptr, kStore_eptr, kCallW_some, kCallC_some, kCall_some, wk_T, wk_n, wk_keep, wk_inv, wk_act, wk_dr, wk_le, aCalm, wantC, dstOk, calm, aCallK, aCall3K, subOf, subRep, aCall2K, apnd, bsMove, putBox, putOwn, partAV, mvL, AV.mv, AV.base, AV.moved, kBld, bldK, wrK, stK, AV.selfOk, AV.src, TI.flat, apSize, pickAV, St.val, St.cond, St.fn, St.next, St.set, St.trim, wipe_eq, wipeE_app, wipeM_app, pickEnv, get?, cGet, upd_app, withPuts, killAll, rm, freshP, Oper.hnd, Sc.st, ofConst, constOk, lenAV, elemLen, loadAV, ldL, ld1, fieldAddrAV, indexAddrAV, sliceAV, convAV, buildAV, fillAV, fieldAV, Out.of, binAV, AV.rows, AV.one, AV.cells, AV.deepOk, AV.toD, toDs, partRows, partRowsM, partsDeep, TK.zeroAV, TK.zeroD, byteOf, inR, Op.operands, Call.operands, passVs, passV, passL, pass1, passB, pasVs, pasV, pasL, pas1, ownsOk, okHs, okHs2, okFin, finOk2, rho, over, backRes, backAV, backAV1, backBlk, putBack, back2, back2_V, back2_1, m2, AV.wipe, AV.wipeV, AV.wipe1, Blk.wipe, AV.hs, AV.hs.hsL, alOps, Con.start2, Con.pk, bodyQ, fini, resAV, resA, firstId, Sc.from, renEnv, renT, renV, renVs, renL, ren1, renBox, renOwn, okRen, clOf, actB, setRow, flatRows, flatD, noInv, shr_nil, shr_some, kStepF_some, shareL, AV.viewed, AV.viewed1, cNumB, Con.fn, tTabR, tTab]
  try dsimp only
  refine ⟨⟨0, 0, ⟨rfl, rfl⟩, by omega, by omega, by omega, by simp, rfl⟩, fun i n g1 g2 g3 g4 g5 _ => ⟨fun hlt => ⟨hlt, fun _ => ?_⟩, fun hge _ => ?_⟩⟩
  · have e : s[i]?.getD 0 = s[i] := by simp -implicitDefEqProofs [hlt]
    rw [e]
    have st := numA_step (n := n) hlt
    rw [g5] at st
    have q : (10 : Int) ^ (i + 1) = 10 * 10 ^ i := by rw [Int.pow_succ]; omega
    have p6 : (10 : Int) ^ i ≤ 1000000 := by
      have h1 : (10 : Nat) ^ i ≤ 10 ^ 6 := Nat.pow_le_pow_right (by omega) g2
      have h2 : (((10 : Nat) ^ i : Nat) : Int) = (10 : Int) ^ i := by simp
      rw [← h2]
      omega
    have hb : s[i].toNat < 256 := s[i].toNat_lt
    have hno : (s[i].toNat < 48 ∨ 57 < s[i].toNat ∨ 6 ≤ i) → numB s = -1 := fun h => by unfold numB; rw [st, if_pos h]; simp
    have hok : ¬ (s[i].toNat < 48 ∨ 57 < s[i].toNat ∨ 6 ≤ i) → numA (s.drop (i + 1)) (i + 1) (n * 10 + ((s[i].toNat : Int) - 48)) = numA s 0 0 := fun h => by rw [st, if_neg h]
    exact ⟨fun h => hno (by omega), fun a1 => ⟨hlt, fun _ => ⟨fun h => hno (by omega), fun a2 => ⟨fun h => hno (by omega), fun a3 => ⟨by omega, fun _ _ => ⟨hlt, fun _ => ⟨by omega, fun _ _ => ⟨by omega, fun _ _ => ⟨by omega, fun _ _ => ⟨by omega, fun _ _ => ⟨i + 1, _, ⟨rfl, by omega⟩, ⟨by omega, by omega, by omega, by rw [q]; omega, hok (by omega)⟩, by omega⟩⟩⟩⟩⟩⟩⟩⟩⟩⟩⟩
  · have e5 : numA s 0 0 = n := by rw [← g5, numA_end hge]
    have nb : numB s = if s.length = 0 ∨ (1 < s.length ∧ s.getD 0 0 = 48) then -1 else n := by unfold numB; rw [e5, if_neg (by omega)]
    rw [nb]
    have hc : s[0]?.getD 0 = s.getD 0 0 := by simp -implicitDefEqProofs [List.getD_eq_getElem?_getD]
    rw [hc]
    have h48 : ∀ x : UInt8, ((x.toNat : Int) = 48) = (x = 48) := fun x => by
      apply propext
      constructor
      · intro h; exact UInt8.toNat_inj.1 (by have : (48 : UInt8).toNat = 48 := rfl; omega)
      · rintro rfl; rfl
    rw [h48]
    refine ⟨fun h => ⟨fun _ => if_pos (.inl (by simp -implicitDefEqProofs [h])), fun _ => if_pos (.inl (by simp -implicitDefEqProofs [h]))⟩, fun h _ => ?_⟩
    have hl : 0 < s.length := List.length_pos_iff.2 h
    exact ⟨fun h1 => ⟨by omega, fun _ => ⟨fun h2 => if_pos (.inr ⟨by omega, h2⟩), fun h2 => if_neg fun q => q.elim (fun q => by omega) fun q => h2 q.2⟩⟩, fun h1 => if_neg fun q => q.elim (fun q => by omega) fun q => by omega⟩

abbrev r24 (ls : List Str) (a : Nat × Bool) : Blk := .box 68 [.sl true 1 (eStrs ls), .int .i64 a.1, .bool a.2]
def r24p (ls : List Str) (a : Nat × Bool) : Prop := ls.length ≤ 1048577 ∧ a.1 ≤ 1048577
def cRdLine : Con := { A := List Str × (Nat × Bool), X := Unit, n := 36, args := fun _ => [.ptr 0 0], boxes := fun a => [(0, 68, [.sl true 1 (eStrs a.1), .int .i64 a.2.1, .bool a.2.2])], pre := fun a => r24p a.1 a.2, post := fun _ _ => True, res := fun a _ => .str (rdLine a.1 a.2).1, fin := fun a _ => [(0, r24 a.1 (rdLine a.1 a.2).2)], nob := false, bty := [68] }
set_option maxHeartbeats 4000000 in
theorem rdLine_has : Has Tryd.prog 80 cRdLine := by
  refine has_walk mixed tTabR_ok (l := []) HasL.nil [0, 2] ((fun a n (_ : Nat) => (fun _ => noInv) a n)) [] Tryd.func80 (by kernel_rfl) (code := _) (by unfold Tryd.f80; rfl) (by kernel_rfl) (by decide) (fun _ => ⟨(), trivial⟩) (by intro h; first | exact fun _ => rfl | cases h) (by kernel_rfl) ?_ (hbt := .inr fun a => ⟨fun b hb => (by simp only [cRdLine, List.mem_cons, List.not_mem_nil, or_false] at hb; subst hb; simp -implicitDefEqProofs [cRdLine]), fun x p hp ty vs e => (by simp only [cRdLine, List.mem_cons, List.not_mem_nil, or_false] at hp; subst hp; cases e; simp -implicitDefEqProofs [cRdLine])⟩)
  intro a ha
  obtain ⟨ls, i, b⟩ := a
  obtain ⟨h1, h2⟩ : ls.length ≤ 1048577 ∧ i ≤ 1048577 := ha
  simp -implicitDefEqProofs [vc_skip, extOf, vc_seq, vc_cond, vc_block, vc_exit, vc_ret, vc_region, vc_regionD, vc_loop, kSeq_normal, kSeq_ret, kSeq_exit, kBlock_normal, kBlock_ret, kBlock_exit, kLoop_normal, kLoop_ret, kLoop_exit, kCond_bool, kNorm_app, vcOps_nil, vcOps_cons, kOps_app, kStep_some, kStep_none, vcDL_nil, vcDL_cons, kOpsD_app, kStepD_true, kStepD_tt, kStepD_false, ldB, btys, btyAct, kStepC_some, kStepC_none, kMv_app, act3_store, act3_call, act3_bs, kAct_app, kSt2_app, stealSlots, stealL, stealOne, subIn, AV.stolen, act_store, act_bs, act_append, act_call, kSet_app, kSet2_app, kSetG_app, kSetG_app0, kStore_ptr, kStore_eptr, kCallW_some, kCallC_some, kCall_some, wk_T, wk_n, wk_keep, wk_inv, wk_act, wk_dr, wk_le, aCalm, wantC, dstOk, calm, aCallK, aCall3K, subOf, subRep, aCall2K, apnd, bsMove, putBox, putOwn, partAV, mvL, AV.mv, AV.base, AV.moved, kBld, bldK, wrK, stK, AV.selfOk, AV.src, TI.flat, apSize, pickAV, St.val, St.cond, St.fn, St.next, St.set, St.trim, wipe_eq, wipeE_app, wipeM_app, pickEnv, get?, cGet, upd_app, withPuts, killAll, rm, freshP, Oper.hnd, Sc.st, ofConst, constOk, lenAV, elemLen, loadAV, ldL, ld1, fieldAddrAV, indexAddrAV, sliceAV, convAV, buildAV, fillAV, fieldAV, Out.of, binAV, AV.rows, AV.one, AV.cells, AV.deepOk, AV.toD, toDs, partRows, partRowsM, partsDeep, TK.zeroAV, TK.zeroD, byteOf, inR, Op.operands, Call.operands, passVs, passV, passL, pass1, passB, pasVs, pasV, pasL, pas1, ownsOk, okHs, okHs2, okFin, finOk2, rho, over, backRes, backAV, backAV1, backBlk, putBack, back2, back2_V, back2_1, m2, AV.wipe, AV.wipeV, AV.wipe1, Blk.wipe, AV.hs, AV.hs.hsL, alOps, Con.start2, Con.pk, bodyQ, fini, resAV, resA, firstId, Sc.from, renEnv, renT, renV, renVs, renL, ren1, renBox, renOwn, okRen, clOf, actB, setRow, flatRows, flatD, noInv, shr_nil, shr_some, kStepF_some, shareL, AV.viewed, AV.viewed1, cRdLine, Con.fn, tTabR, tTab]
  try dsimp only
  refine ⟨by omega, fun _ _ => ⟨fun h => ?_, fun h => ⟨by omega, fun _ _ => ⟨by omega, fun _ => ⟨by omega, fun hi => ?_⟩⟩⟩⟩⟩
  · have e : rdLine ls (i, b) = ([], (i, true)) := if_pos (by show ls.length ≤ i + 1; omega)
    rw [e]; exact ⟨rfl, rfl, rfl⟩
  · have e : rdLine ls (i, b) = (ls.getD i [], (i + 1, b)) := if_neg (by show ¬ ls.length ≤ i + 1; omega)
    have e2 : Option.map eStr ls[i]? = some (eStr ls[i]) := by rw [List.getElem?_eq_getElem hi]; rfl
    rw [e2, e]
    simp -implicitDefEqProofs [eStr, hi]
def cRdMore : Con := { A := (List Str × (Nat × Bool)) × Str, X := Unit, n := 46, args := fun a => [.ptr 0 0, .str a.2], boxes := fun a => [(0, 68, [.sl true 1 (eStrs a.1.1), .int .i64 a.1.2.1, .bool a.1.2.2])], pre := fun a => r24p a.1.1 a.1.2 ∧ a.2.length ≤ 1048576, post := fun _ _ => True, res := fun a _ => .bool (rdMore a.1.1 a.2 a.1.2), fin := fun a _ => [(0, r24 a.1.1 a.1.2)], nob := false }
set_option maxHeartbeats 4000000 in
theorem rdMore_has : Has Tryd.prog 79 cRdMore := by
  refine has_walk mixed tTabR_ok (l := []) HasL.nil [0, 1, 4, 5] ((fun a n (_ : Nat) => (fun _ => noInv) a n)) [] Tryd.func79 (by kernel_rfl) (code := _) (by unfold Tryd.f79; rfl) (by kernel_rfl) (by decide) (fun _ => ⟨(), trivial⟩) (by intro h; first | exact fun _ => rfl | cases h) (by kernel_rfl) ?_
  intro a ha
  obtain ⟨⟨ls, i, b⟩, hd⟩ := a
  obtain ⟨⟨h1, h2⟩, h3⟩ : (ls.length ≤ 1048577 ∧ i ≤ 1048577) ∧ hd.length ≤ 1048576 := ha
  simp -implicitDefEqProofs [vc_skip, extOf, vc_seq, vc_cond, vc_block, vc_exit, vc_ret, vc_region, vc_regionD, vc_loop, kSeq_normal, kSeq_ret, kSeq_exit, kBlock_normal, kBlock_ret, kBlock_exit, kLoop_normal, kLoop_ret, kLoop_exit, kCond_bool, kNorm_app, vcOps_nil, vcOps_cons, kOps_app, kStep_some, kStep_none, vcDL_nil, vcDL_cons, kOpsD_app, kStepD_true, kStepD_tt, kStepD_false, ldB, btys, btyAct, kStepC_some, kStepC_none, kMv_app, act3_store, act3_call, act3_bs, kAct_app, kSt2_app, stealSlots, stealL, stealOne, subIn, AV.stolen, act_store, act_bs, act_append, act_call, kSet_app, kSet2_app, kSetG_app, kSetG_app0, kStore_ptr, kStore_eptr, kCallW_some, kCallC_some, kCall_some, wk_T, wk_n, wk_keep, wk_inv, wk_act, wk_dr, wk_le, aCalm, wantC, dstOk, calm, aCallK, aCall3K, subOf, subRep, aCall2K, apnd, bsMove, putBox, putOwn, partAV, mvL, AV.mv, AV.base, AV.moved, kBld, bldK, wrK, stK, AV.selfOk, AV.src, TI.flat, apSize, pickAV, St.val, St.cond, St.fn, St.next, St.set, St.trim, wipe_eq, wipeE_app, wipeM_app, pickEnv, get?, cGet, upd_app, withPuts, killAll, rm, freshP, Oper.hnd, Sc.st, ofConst, constOk, lenAV, elemLen, loadAV, ldL, ld1, fieldAddrAV, indexAddrAV, sliceAV, convAV, buildAV, fillAV, fieldAV, Out.of, binAV, AV.rows, AV.one, AV.cells, AV.deepOk, AV.toD, toDs, partRows, partRowsM, partsDeep, TK.zeroAV, TK.zeroD, byteOf, inR, Op.operands, Call.operands, passVs, passV, passL, pass1, passB, pasVs, pasV, pasL, pas1, ownsOk, okHs, okHs2, okFin, finOk2, rho, over, backRes, backAV, backAV1, backBlk, putBack, back2, back2_V, back2_1, m2, AV.wipe, AV.wipeV, AV.wipe1, Blk.wipe, AV.hs, AV.hs.hsL, alOps, Con.start2, Con.pk, bodyQ, fini, resAV, resA, firstId, Sc.from, renEnv, renT, renV, renVs, renL, ren1, renBox, renOwn, okRen, clOf, actB, setRow, flatRows, flatD, noInv, shr_nil, shr_some, kStepF_some, shareL, AV.viewed, AV.viewed1, cRdMore, Con.fn, tTabR, tTab]
  try dsimp only
  refine ⟨fun h => by subst h; rfl, fun h => ⟨by omega, fun _ _ => ⟨fun hl => ?_, fun hl => ⟨by omega, fun hi => ?_⟩⟩⟩⟩
  · have : ¬ i + 1 < ls.length := by omega
    simp -implicitDefEqProofs [rdMore, this]
  · have e2 : Option.map eStr ls[i]? = some (eStr ls[i]) := by rw [List.getElem?_eq_getElem hi]; rfl
    have e3 : rdMore ls hd (i, b) = prefB hd ls[i] := by
      have : i + 1 < ls.length := by omega
      subst h
      simp -implicitDefEqProofs [rdMore, this, hi]
    rw [e2, e3]
    simp -implicitDefEqProofs [eStr, prefB]
    exact fun _ _ => ⟨fun h _ => ⟨h, fun _ => by simp -implicitDefEqProofs [h]⟩, fun h h' => absurd h' (by omega)⟩

theorem cutL_le {b : Int} {m : Nat} : ∀ {s c : Str} {n : Nat}, ∀ q ∈ cutL b m s c n, q.length ≤ c.length + s.length := by
  intro s
  induction s with
  | nil => intro c n q hq; simp -implicitDefEqProofs [cutL] at hq; simp -implicitDefEqProofs [hq]
  | cons x s ih =>
    intro c n q hq
    simp only [cutL] at hq
    split at hq
    · split at hq
      · rcases List.mem_cons.1 hq with rfl | hq
        · simp
        · have := ih q hq; simp at this ⊢; omega
      · have := ih q hq; simp at this ⊢; omega
    · simp at hq; subst hq; simp
theorem cutB_le {s : Str} {b : Int} {m : Nat} : ∀ q ∈ cutB s b m, q.length ≤ s.length := fun q hq => by
  have := cutL_le q hq; simpa using this
theorem rdText_succ {ls : List Str} : ∀ {n : Nat} {acc : List Str} {a : Nat × Bool}, rdText ls (n + 1) acc a = ((rdText ls n acc a).1 ++ [(rdLine ls (rdText ls n acc a).2).1], (rdLine ls (rdText ls n acc a).2).2) := by
  intro n
  induction n with
  | zero => intro acc a; rfl
  | succ n ih => intro acc a; rw [rdText, ih]; rfl
theorem rdText_len {ls : List Str} : ∀ {n : Nat} {acc : List Str} {a : Nat × Bool}, (rdText ls n acc a).1.length = acc.length + n := by
  intro n
  induction n with
  | zero => intro acc a; rfl
  | succ n ih => intro acc a; rw [rdText, ih]; simp; omega
theorem rdLine_bd {ls : List Str} {a : Nat × Bool} (h : ls.length ≤ 1048577) (h1 : a.1 ≤ 1048577) : (rdLine ls a).2.1 ≤ 1048577 := by
  unfold rdLine; split
  · exact h1
  · show a.1 + 1 ≤ _; omega
theorem rdLine_len {ls : List Str} {a : Nat × Bool} (h : ∀ l ∈ ls, l.length ≤ 1073741824) : (rdLine ls a).1.length ≤ 1073741824 := by
  unfold rdLine; split
  · simp
  · rename_i h1
    have : a.1 < ls.length := by omega
    rw [List.getD_eq_getElem?_getD, List.getElem?_eq_getElem this]
    exact h _ (List.getElem_mem this)
theorem rdText_bd {ls : List Str} (h : ls.length ≤ 1048577) : ∀ {n : Nat} {acc : List Str} {a : Nat × Bool}, a.1 ≤ 1048577 → (rdText ls n acc a).2.1 ≤ 1048577 := by
  intro n
  induction n with
  | zero => intro acc a h1; exact h1
  | succ n ih => intro acc a h1; rw [rdText]; exact ih (rdLine_bd h h1)
/-- The words of the next line, and what one more file makes of what was read. -/
def trW (ls : List Str) (s : List FileD × (Nat × Bool)) : List Str := cutB (rdLine ls s.2).1 32 3
def trT (ls : List Str) (s : List FileD × (Nat × Bool)) (k : Nat) : List Str × (Nat × Bool) := rdText ls k [] (rdLine ls s.2).2
def trN (ls : List Str) (s : List FileD × (Nat × Bool)) : Int := numB ((trW ls s).getD 2 [])
def trStep (ls : List Str) (s : List FileD × (Nat × Bool)) : List FileD × (Nat × Bool) := (s.1 ++ [⟨(trW ls s).getD 1 [], (trT ls s (trN ls s).toNat).1⟩], (trT ls s (trN ls s).toNat).2)
def trAt (ls : List Str) (a : Nat × Bool) : Nat → List FileD × (Nat × Bool)
  | 0 => ([], a)
  | i + 1 => trStep ls (trAt ls a i)
theorem trAt_len {ls a} : ∀ i, (trAt ls a i).1.length = i := by
  intro i
  induction i with
  | zero => rfl
  | succ i ih => simp -implicitDefEqProofs [trAt, trStep, ih]
theorem trAt_bd {ls : List Str} {a : Nat × Bool} (h : ls.length ≤ 1048577) (h1 : a.1 ≤ 1048577) : ∀ i, (trAt ls a i).2.1 ≤ 1048577 := by
  intro i
  induction i with
  | zero => exact h1
  | succ i ih => exact rdText_bd h (rdLine_bd h ih)
def trFile : Str := [102, 105, 108, 101, 32]
theorem tr_step {ls : List Str} {a : Nat × Bool} {i : Nat} (hi : i < 8) :
    (rdMore ls trFile (trAt ls a i).2 = false → rdTree ls (8 - i) (trAt ls a i).1 (trAt ls a i).2 = trAt ls a i) ∧
    (rdMore ls trFile (trAt ls a i).2 = true → (¬ (trW ls (trAt ls a i)).length = 3 ∨ 10 < trN ls (trAt ls a i)) → rdTree ls (8 - i) (trAt ls a i).1 (trAt ls a i).2 = ([], ((rdLine ls (trAt ls a i).2).2.1, true))) ∧
    (rdMore ls trFile (trAt ls a i).2 = true → (trW ls (trAt ls a i)).length = 3 → trN ls (trAt ls a i) ≤ 10 → rdTree ls (8 - i) (trAt ls a i).1 (trAt ls a i).2 = rdTree ls (8 - (i + 1)) (trAt ls a (i + 1)).1 (trAt ls a (i + 1)).2) := by
  obtain ⟨n, hn⟩ : ∃ n, 8 - i = n + 1 := ⟨7 - i, by omega⟩
  have hn' : 8 - (i + 1) = n := by omega
  rw [hn, hn']
  refine ⟨fun h => ?_, fun h h' => ?_, fun h h1 h2 => ?_⟩
  · have h : rdMore ls [102, 105, 108, 101, 32] (trAt ls a i).2 = false := h
    rw [rdTree, h]; rfl
  · have h : rdMore ls [102, 105, 108, 101, 32] (trAt ls a i).2 = true := h
    rw [rdTree, h, if_pos rfl]
    exact if_pos h'
  · have h : rdMore ls [102, 105, 108, 101, 32] (trAt ls a i).2 = true := h
    rw [rdTree, h, if_pos rfl]
    exact if_neg fun q => q.elim (fun q => q h1) fun q => by have : trN ls (trAt ls a i) ≤ 10 := h2; have : 10 < trN ls (trAt ls a i) := q; omega

def trO (ls : List Str) (a : Nat × Bool) : Inv := ⟨Nat, fun i => ⟨[(0, true, .ptr 0 0), (2, true, .nil), (3, true, .own 9 2 (eFiles (trAt ls a i).1))], [(0, r24 ls (trAt ls a i).2), (9, .own 55 2 true (eFiles (trAt ls a i).1))]⟩,
  fun i => i ≤ 8 ∧ rdTree ls (8 - i) (trAt ls a i).1 (trAt ls a i).2 = rdTree ls 8 [] a, fun i => 8 - i⟩
def trI (ls : List Str) (a : Nat × Bool) (g : Nat) : Inv := ⟨Nat, fun k => ⟨[(0, true, .ptr 0 0), (2, true, .nil), (3, true, .own 9 2 (eFiles (trAt ls a g).1)), (4, true, .own 12 1 (eStrs (trW ls (trAt ls a g)))), (5, true, .ptr 10 0), (6, true, .int .i64 k)],
  [(0, r24 ls (trT ls (trAt ls a g) k).2), (9, .own 55 2 true (eFiles (trAt ls a g).1)), (12, .own 9 1 true (eStrs (trW ls (trAt ls a g)))), (10, .box 55 [.str ((trW ls (trAt ls a g)).getD 1 []), .own 11 1 (eStrs (trT ls (trAt ls a g) k).1)]), (11, .own 9 1 true (eStrs (trT ls (trAt ls a g) k).1))]⟩,
  fun k => g < 8 ∧ rdMore ls trFile (trAt ls a g).2 = true ∧ (trW ls (trAt ls a g)).length = 3 ∧ trN ls (trAt ls a g) ≤ 10 ∧ k ≤ (trN ls (trAt ls a g)).toNat ∧ rdTree ls (8 - g) (trAt ls a g).1 (trAt ls a g).2 = rdTree ls 8 [] a, fun k => 11 - k⟩
def trInv (ls : List Str) (a : Nat × Bool) (n g : Nat) : Inv := if n = 2 then trO ls a else trI ls a g
theorem trInv_2 (ls a g) : trInv ls a 2 g = trO ls a := rfl
theorem trInv_9 (ls a g) : trInv ls a 9 g = trI ls a g := rfl
def cRdTree : Con := { A := List Str × (Nat × Bool), X := Unit, n := 55, args := fun _ => [.ptr 0 0], boxes := fun a => [(0, 68, [.sl true 1 (eStrs a.1), .int .i64 a.2.1, .bool a.2.2])], pre := fun a => r24p a.1 a.2 ∧ ∀ l ∈ a.1, l.length ≤ 1073741824, post := fun _ _ => True, res := fun a _ => .own 8 2 (eFiles (rdTree a.1 8 [] a.2).1), fin := fun a _ => [(0, r24 a.1 (rdTree a.1 8 [] a.2).2), (8, .own 55 2 true (eFiles (rdTree a.1 8 [] a.2).1))], nob := false }
set_option maxHeartbeats 4000000 in
theorem rdTree_has : Has Tryd.prog 43 cRdTree := by
  refine has_walk mixed tTabR_ok (l := [(79, cRdMore), (80, cRdLine), (42, cL1Cut), (81, cNumB)]) (HasL.cons rdMore_has (HasL.cons rdLine_has (HasL.cons l1Cut_has (HasL.cons numB_has HasL.nil)))) [0, 2, 3, 4, 5, 6] (fun a => trInv a.1 a.2) [52, 8191] Tryd.func43 (by kernel_rfl) (code := _) (by unfold Tryd.f43; rfl) (by kernel_rfl) (by decide) (fun _ => ⟨(), trivial⟩) (by intro h; first | exact fun _ => rfl | cases h) (by kernel_rfl) ?_
  intro a ha
  obtain ⟨ls, i, b⟩ := a
  obtain ⟨⟨h1, h2⟩, h3⟩ : (ls.length ≤ 1048577 ∧ i ≤ 1048577) ∧ ∀ l ∈ ls, l.length ≤ 1073741824 := ha
  simp -implicitDefEqProofs [vc_skip, extOf, vc_seq, vc_cond, vc_block, vc_exit, vc_ret, vc_region, vc_regionD, vc_loop, kSeq_normal, kSeq_ret, kSeq_exit, kBlock_normal, kBlock_ret, kBlock_exit, kLoop_normal, kLoop_ret, kLoop_exit, kCond_bool, kNorm_app, vcOps_nil, vcOps_cons, kOps_app, kStep_some, kStep_none, vcDL_nil, vcDL_cons, kOpsD_app, kStepD_true, kStepD_tt, kStepD_false, ldB, btys, btyAct, kStepC_some, kStepC_none, kMv_app, act3_store, act3_call, act3_bs, kAct_app, kSt2_app, stealSlots, stealL, stealOne, subIn, AV.stolen, act_store, act_bs, act_append, act_call, kSet_app, kSet2_app, kSetG_app, kSetG_app0, kStore_ptr, kStore_eptr, kCallW_some, kCallC_some, kCall_some, wk_T, wk_n, wk_keep, wk_inv, wk_act, wk_dr, wk_le, aCalm, wantC, dstOk, calm, aCallK, aCall3K, subOf, subRep, aCall2K, apnd, bsMove, putBox, putOwn, partAV, mvL, AV.mv, AV.base, AV.moved, kBld, bldK, wrK, stK, AV.selfOk, AV.src, TI.flat, apSize, pickAV, St.val, St.cond, St.fn, St.next, St.set, St.trim, wipe_eq, wipeE_app, wipeM_app, pickEnv, get?, cGet, upd_app, withPuts, killAll, rm, freshP, Oper.hnd, Sc.st, ofConst, constOk, lenAV, elemLen, loadAV, ldL, ld1, fieldAddrAV, indexAddrAV, sliceAV, convAV, buildAV, fillAV, fieldAV, Out.of, binAV, AV.rows, AV.one, AV.cells, AV.deepOk, AV.toD, toDs, partRows, partRowsM, partsDeep, TK.zeroAV, TK.zeroD, byteOf, inR, Op.operands, Call.operands, passVs, passV, passL, pass1, passB, pasVs, pasV, pasL, pas1, ownsOk, okHs, okHs2, okFin, finOk2, rho, over, backRes, backAV, backAV1, backBlk, putBack, back2, back2_V, back2_1, m2, AV.wipe, AV.wipeV, AV.wipe1, Blk.wipe, AV.hs, AV.hs.hsL, alOps, Con.start2, Con.pk, bodyQ, fini, resAV, resA, firstId, Sc.from, renEnv, renT, renV, renVs, renL, ren1, renBox, renOwn, okRen, clOf, actB, setRow, flatRows, flatD, noInv, shr_nil, shr_some, kStepF_some, shareL, AV.viewed, AV.viewed1, cRdTree, cRdMore, cRdLine, cL1Cut, cNumB, Con.fn, tTabR, tTab, -Bool.exists_bool, trInv_2, trInv_9, trO, trI]
  try dsimp only
  refine ⟨⟨0, ⟨rfl, ⟨rfl, rfl⟩, rfl⟩, by omega, rfl⟩, fun t ht hR => ?_⟩
  have hbd := trAt_bd (a := (i, b)) h1 h2 t
  have hln := trAt_len (ls := ls) (a := (i, b)) t
  have h8e : t = 8 → rdTree ls 8 [] (i, b) = trAt ls (i, b) t := fun e => by rw [← hR, e]; rfl
  refine ⟨ls, (trAt ls (i, b) t).2.1, (trAt ls (i, b) t).2.2, ⟨rfl, rfl, rfl⟩, ⟨h1, hbd⟩, fun hm hl => ⟨fun h8 => ?_, fun h8 => ?_⟩, fun hm => ?_⟩
  · have hlt : t < 8 := by omega
    obtain ⟨_, s2, s3⟩ := tr_step (ls := ls) (a := (i, b)) hlt
    rw [hR] at s2 s3
    refine ⟨ls, (trAt ls (i, b) t).2.1, (trAt ls (i, b) t).2.2, ⟨rfl, rfl, rfl⟩, ⟨h1, hbd⟩, (rdLine ls (trAt ls (i, b) t).2).1, 32, 3, ⟨rfl, rfl, rfl⟩, by omega, fun hw => ⟨fun hn3 => ?_, fun h3' => ⟨by omega, fun _ => ?_⟩⟩⟩
    · rw [s2 hm (.inl fun q => hn3 (by have : (cutB (rdLine ls (trAt ls (i, b) t).2).1 32 3).length = 3 := q; omega))]
      exact ⟨rfl, ⟨rfl, rfl, rfl⟩, rfl⟩
    · have h3l : (cutB (rdLine ls (trAt ls (i, b) t).2).1 32 3).length = 3 := by omega
      have hle := fun q hq => cutB_le (s := (rdLine ls (trAt ls (i, b) t).2).1) (b := 32) (m := 3) q hq
      have hlen := rdLine_len (ls := ls) (a := (trAt ls (i, b) t).2) h3
      obtain ⟨x, y, z, hW⟩ : ∃ x y z, cutB (rdLine ls (trAt ls (i, b) t).2).1 32 3 = [x, y, z] := by
        match hq : cutB (rdLine ls (trAt ls (i, b) t).2).1 32 3, h3l with
        | [x, y, z], _ => exact ⟨x, y, z, rfl⟩
      have hT : trW ls (trAt ls (i, b) t) = [x, y, z] := hW
      have hN : trN ls (trAt ls (i, b) t) = numB z := by unfold trN; rw [hT]; rfl
      rw [hT] at s2 s3
      rw [hN] at s2 s3
      have hz := hle z (by rw [hW]; simp)
      rw [hW]
      simp -implicitDefEqProofs [eStr, -Bool.exists_bool]
      refine ⟨by omega, fun h10 => ?_, fun h10 => ?_⟩
      · rw [s2 hm (.inr h10)]
        exact ⟨rfl, ⟨rfl, rfl⟩, rfl⟩
      · have s3 := s3 hm rfl h10
        refine ⟨t, ⟨0, ⟨⟨rfl, hT, rfl⟩, ⟨⟨rfl, rfl⟩, by rw [hT]; rfl, rfl⟩, rfl, hT.symm, rfl⟩, hlt, hm, by rw [hT]; rfl, by rw [hN]; exact h10, by omega, hR⟩, fun k _ _ _ _ hk _ => ?_⟩
        rw [hN] at hk
        have hkl : (trT ls (trAt ls (i, b) t) k).1.length = k := by unfold trT; rw [rdText_len]; simp
        have hkb : (trT ls (trAt ls (i, b) t) k).2.1 ≤ 1048577 := rdText_bd h1 (rdLine_bd h1 hbd)
        have hks : trT ls (trAt ls (i, b) t) (k + 1) = ((trT ls (trAt ls (i, b) t) k).1 ++ [(rdLine ls (trT ls (trAt ls (i, b) t) k).2).1], (rdLine ls (trT ls (trAt ls (i, b) t) k).2).2) := rdText_succ
        rw [hT, hN]
        simp -implicitDefEqProofs [eStr, -Bool.exists_bool]
        refine ⟨by omega, fun hk2 => ?_, fun hk2 => ?_⟩
        · refine ⟨ls, (trT ls (trAt ls (i, b) t) k).2.1, (trT ls (trAt ls (i, b) t) k).2.2, ⟨rfl, rfl, rfl⟩, ⟨h1, hkb⟩, by rw [hkl]; omega, by omega, fun _ _ => ⟨k + 1, ?_, ?_⟩⟩
          · rw [hks]
            exact ⟨by omega, ⟨⟨rfl, rfl, rfl⟩, by simp -implicitDefEqProofs [eStrs, eStr]⟩, by simp -implicitDefEqProofs [eStrs, eStr]⟩
          · exact ⟨⟨hlt, hm, h10, by omega, hR⟩, by omega⟩
        · have hke : k = (numB z).toNat := by omega
          have ha : trAt ls (i, b) (t + 1) = ((trAt ls (i, b) t).1 ++ [⟨y, (trT ls (trAt ls (i, b) t) k).1⟩], (trT ls (trAt ls (i, b) t) k).2) := by
            show trStep ls (trAt ls (i, b) t) = _
            unfold trStep
            rw [hT, hN, ← hke]
            rfl
          refine ⟨by rw [hln]; omega, t + 1, ?_, ⟨by omega, s3.symm⟩, by omega⟩
          rw [ha]
          exact ⟨by simp -implicitDefEqProofs [eFiles, eFile], ⟨rfl, rfl⟩, by simp -implicitDefEqProofs [eFiles, eFile]⟩
  · rw [h8e (by omega)]; exact ⟨rfl, ⟨rfl, rfl, rfl⟩, rfl⟩
  · by_cases h8 : t = 8
    · rw [h8e h8]; exact ⟨rfl, ⟨rfl, rfl, rfl⟩, rfl⟩
    · have s1 := (tr_step (ls := ls) (a := (i, b)) (show t < 8 by omega)).1
      rw [hR] at s1
      rw [s1 hm]; exact ⟨rfl, ⟨rfl, rfl, rfl⟩, rfl⟩

theorem rdTree_bd {ls : List Str} (h : ls.length ≤ 1048577) : ∀ {n : Nat} {t : List FileD} {a : Nat × Bool}, a.1 ≤ 1048577 → (rdTree ls n t a).2.1 ≤ 1048577 := by
  intro n
  induction n with
  | zero => intro t a h1; exact h1
  | succ n ih =>
    intro t a h1
    rw [rdTree]
    split
    · split
      · exact rdLine_bd h h1
      · exact ih (rdText_bd h (rdLine_bd h h1))
    · exact h1

end Vx
end Go.Proofs.YthmhaggmcfemnaaDoor
/-
  Contracts: ViewOf (the reference's), marks looked for in trees; the law FnExactViewOf.
-/
namespace Go.Proofs.YthmhaggmcfemnaaDoor
namespace Vx
open Go.RowKit
set_option maxRecDepth 8000

def viewOfS (t : List FileD) (l : List Str) : List FileD := if treeS t && viewS l then filB (fun f => in25 l f.path) t else []
theorem kE_marks (t : List FileD) (k j : Int) : kE (markFs t k) j = kE t j := by
  have : nLines (markFs t k) = nLines t := by
    unfold nLines markFs
    rw [List.map_map]
    have : ((fun f : FileD => f.text.length) ∘ fun i : Nat => (⟨markS (kE (t.take i) k), markL (t.getD i default).text.length (kE (t.take i) k + 1)⟩ : FileD)) = fun i => (t.getD i default).text.length := by
      funext i; simp [markL_len]
    rw [this]
    congr 1
    apply List.ext_getElem (by simp)
    intro i h1 h2
    simp at h1
    simp [h1]
  unfold kE
  rw [this, markFs_len]
theorem markFs_take (t : List FileD) (k : Int) (i : Nat) (h : i ≤ t.length) : markFs (t.take i) k = (markFs t k).take i := by
  unfold markFs
  rw [← List.map_take, List.take_range, List.length_take, Nat.min_comm]
  rw [Nat.min_comm]
  apply List.map_congr_left
  intro j hj
  have hj : j < i := by simp at hj; omega
  rw [List.take_take, Nat.min_eq_left (by omega)]
  simp [List.getElem?_take, hj]
theorem markFs_same (t : List FileD) (k : Int) : markFs (markFs t k) k = markFs t k := by
  show (List.range (markFs t k).length).map _ = (List.range t.length).map _
  rw [markFs_len]
  apply List.map_congr_left
  intro i hi
  have hi : i < t.length := by simpa using hi
  rw [← markFs_take t k i (by omega), kE_marks]
  have : ((markFs t k).getD i default).text.length = (t.getD i default).text.length := by simp [markFs, hi, markL_len]
  rw [this]

def heldFs (t : List FileD) (k : Int) : Int := if t = markFs t k then kE t k else -1
theorem heldFs_mark (t : List FileD) (k : Int) : heldFs (markFs t k) k = kE t k := by
  unfold heldFs
  rw [markFs_same, if_pos rfl, kE_marks]
def cHeldFileS : Con := .fn 32 (List FileD × Int) (fun a => [.sl true 2 (eFiles a.1), .int .i64 a.2]) (fun a => 0 ≤ a.2 ∧ kE a.1 a.2 ≤ 1152921504606846976) (fun a => .int .i64 (heldFs a.1 a.2)) (fun _ => [])
theorem heldF_get {t : List FileD} {k : Int} {i : Nat} (h : i < t.length) : (markFs t k)[i]'(by rw [markFs_len]; exact h) = ⟨markS (kE (t.take i) k), markL t[i].text.length (kE (t.take i) k + 1)⟩ := by simp [markFs, h]
theorem heldF_miss {t : List FileD} {k : Int} {i : Nat} (h : i < t.length) (h2 : t[i].path ≠ markS (kE (t.take i) k) ∨ t[i].text ≠ markL t[i].text.length (kE (t.take i) k + 1)) : heldFs t k = -1 := by
  unfold heldFs
  rw [if_neg]
  intro h3
  have : t[i]? = (markFs t k)[i]? := by rw [← h3]
  rw [List.getElem?_eq_getElem h, List.getElem?_eq_getElem (by rw [markFs_len]; exact h), heldF_get h] at this
  have := Option.some.inj this
  rcases h2 with h2 | h2
  · exact h2 (congrArg FileD.path this)
  · exact h2 (congrArg FileD.text this)
theorem heldF_step {t : List FileD} {k : Int} {i : Nat} (h : i < t.length) (h1 : t.take i = (markFs t k).take i) (h2 : t[i].path = markS (kE (t.take i) k)) (h3 : t[i].text = markL t[i].text.length (kE (t.take i) k + 1)) : t.take (i + 1) = (markFs t k).take (i + 1) := by
  rw [take_succ' h, take_succ' (by rw [markFs_len]; exact h), heldF_get h, ← h1, ← h2, ← h3]
theorem heldF_end {t : List FileD} {k : Int} {i : Nat} (h : t.length ≤ i) (h1 : t.take i = (markFs t k).take i) : heldFs t k = kE (t.take i) k := by
  rw [List.take_of_length_le h, List.take_of_length_le (by rw [markFs_len]; exact h)] at h1
  unfold heldFs
  rw [if_pos h1, List.take_of_length_le h]
set_option maxHeartbeats 4000000 in
theorem heldFileS_has : Has Tryd.prog 21 cHeldFileS := by
  refine has_walk mixed tTab_ok (l := [(46, cMarkText), (48, cHeldStringS)]) (HasL.cons markText_has (HasL.cons heldStringS_has HasL.nil)) [0, 1, 4, 5] ((fun a n (_ : Nat) => (fun a _ => ⟨Nat, fun i => ⟨[(0, true, .sl true 2 (eFiles a.1)), (1, true, .int .i64 (kE (a.1.take i) a.2)), (4, true, .int .i64 0), (5, true, .int .i64 i)], []⟩, fun i => i ≤ a.1.length ∧ a.1.take i = (markFs a.1 a.2).take i, fun i => a.1.length - i⟩) a n)) [] Tryd.func21 (by kernel_rfl) (code := _) (by unfold Tryd.f21; rfl) (by kernel_rfl) (by decide) (fun _ => ⟨(), trivial⟩) (by intro h; first | exact fun _ => rfl | cases h) (by kernel_rfl) ?_
  intro a ha
  obtain ⟨t, k⟩ := a
  obtain ⟨q1, q2⟩ : 0 ≤ k ∧ kE t k ≤ 1152921504606846976 := ha
  have e1 := fun i => @heldF_miss t k i
  have e2 := fun i => @heldF_step t k i
  have e3 := fun i => @heldF_end t k i
  have e6 := fun i => @kE_step t k i
  have e7 := fun i => @kE_le t k i
  have e8 := kE_zero k
  simp -implicitDefEqProofs [vc_skip, extOf, vc_seq, vc_cond, vc_block, vc_exit, vc_ret, vc_region, vc_regionD, vc_loop, kSeq_normal, kSeq_ret, kSeq_exit, kBlock_normal, kBlock_ret, kBlock_exit, kLoop_normal, kLoop_ret, kLoop_exit, kCond_bool, kNorm_app, vcOps_nil, vcOps_cons, kOps_app, kStep_some, kStep_none, vcDL_nil, vcDL_cons, kOpsD_app, kStepD_true, kStepD_tt, kStepD_false, ldB, btys, btyAct, kStepC_some, kStepC_none, kMv_app, act3_store, act3_call, act3_bs, kAct_app, kSt2_app, stealSlots, stealL, stealOne, subIn, AV.stolen, act_store, act_bs, act_append, act_call, kSet_app, kSet2_app, kSetG_app, kSetG_app0, kStore_ptr, kStore_eptr, kCallW_some, kCallC_some, kCall_some, wk_T, wk_n, wk_keep, wk_inv, wk_act, wk_dr, wk_le, aCalm, wantC, dstOk, calm, aCallK, aCall3K, subOf, subRep, aCall2K, apnd, bsMove, putBox, putOwn, partAV, mvL, AV.mv, AV.base, AV.moved, kBld, bldK, wrK, stK, AV.selfOk, AV.src, TI.flat, apSize, pickAV, St.val, St.cond, St.fn, St.next, St.set, St.trim, wipe_eq, wipeE_app, wipeM_app, pickEnv, get?, cGet, upd_app, withPuts, killAll, rm, freshP, Oper.hnd, Sc.st, ofConst, constOk, lenAV, elemLen, loadAV, ldL, ld1, fieldAddrAV, indexAddrAV, sliceAV, convAV, buildAV, fillAV, fieldAV, Out.of, binAV, AV.rows, AV.one, AV.cells, AV.deepOk, AV.toD, toDs, partRows, partRowsM, partsDeep, TK.zeroAV, TK.zeroD, byteOf, inR, Op.operands, Call.operands, passVs, passV, passL, pass1, passB, pasVs, pasV, pasL, pas1, ownsOk, okHs, okHs2, okFin, finOk2, rho, over, backRes, backAV, backAV1, backBlk, putBack, back2, back2_V, back2_1, m2, AV.wipe, AV.wipeV, AV.wipe1, Blk.wipe, AV.hs, AV.hs.hsL, alOps, Con.start2, Con.pk, bodyQ, fini, resAV, resA, firstId, Sc.from, renEnv, renT, renV, renVs, renL, ren1, renBox, renOwn, okRen, clOf, actB, setRow, flatRows, flatD, noInv, shr_nil, shr_some, kStepF_some, shareL, AV.viewed, AV.viewed1, cHeldFileS, Con.fn, tTab, cMarkText, cHeldStringS, e8]
  try dsimp only
  refine ⟨⟨0, by simp [e8]⟩, fun i hi hpre _ => ⟨fun hlt => ?_, fun hge => e3 i hge hpre⟩⟩
  have g := e6 i hlt
  have g1 := e7 i
  have g2 := e7 (i + 1)
  simp [hlt, eFile, D.asStr, D.asRows, and_assoc]
  have hl : ∀ l kk, heldL l kk = if l = markL l.length kk then kk + l.length else -1 := fun _ _ => rfl
  have m1 := e1 i hlt
  have m2 := e2 i hlt hpre
  by_cases ht : t[i].text = markL t[i].text.length (kE (t.take i) k + 1)
  · have hh : heldL t[i].text (kE (t.take i) k + 1) = kE (t.take (i + 1)) k := by rw [hl, if_pos ht, g]
    rw [hh]
    exact ⟨by omega, fun hn => m1 (.inl hn), fun hp => ⟨by omega, by omega, fun _ _ => ⟨by omega, by omega, fun hn => by omega, fun _ => ⟨by omega, by omega, fun _ _ => ⟨i + 1, rfl, by omega, by omega, m2 hp ht, by omega⟩⟩⟩⟩⟩
  · have hh : heldL t[i].text (kE (t.take i) k + 1) = -1 := by rw [hl, if_neg ht]
    rw [hh]
    exact ⟨by omega, fun hn => m1 (.inl hn), fun hp => ⟨by omega, by omega, fun _ _ => ⟨by omega, by omega, fun _ => m1 (.inr ht), fun hn => by omega⟩⟩⟩

theorem view_of_eq (t : List FileD) (l : List Str) : viewOfI t l = viewOfS t l := by
  unfold viewOfI viewOfS
  rw [tree_eq, view_eq]
  simp only [vis_in]
theorem viewOfS_bd (t : List FileD) (l : List Str) : (viewOfS t l).length ≤ 8 ∧ ∀ f ∈ viewOfS t l, f.text.length ≤ 64 := by
  unfold viewOfS
  split
  · rename_i h
    simp only [Bool.and_eq_true] at h
    have h1 := treeS_le t h.1
    refine ⟨Nat.le_trans (List.length_filter_le _ _) h1.1, fun f hf => h1.2 f (List.mem_filter.1 hf).1⟩
  · simp
theorem kE_bd {t : List FileD} {A B : Nat} (h1 : t.length ≤ A) (h2 : ∀ f ∈ t, f.text.length ≤ B) (k : Int) : k ≤ kE t k ∧ kE t k ≤ k + A + B * A := by
  have h3 := nLines_bd t h2
  have h4 : B * t.length ≤ B * A := Nat.mul_le_mul_left _ h1
  unfold kE
  refine ⟨by omega, ?_⟩
  have : (nLines t : Int) ≤ ((B * A : Nat) : Int) := by omega
  rw [Int.natCast_mul] at this
  omega

end Vx
end Go.Proofs.YthmhaggmcfemnaaDoor
/-
  Contracts: trees read (TreeRead, both sides); the law FnExactTreeRead.
-/
namespace Go.Proofs.YthmhaggmcfemnaaDoor
namespace Vx
open Go.RowKit
set_option maxRecDepth 8000

theorem cutL_len' {b : Int} {m : Nat} : ∀ {s c : Str} {n : Nat}, (cutL b m s c n).length ≤ s.length + 1 := by
  intro s
  induction s with
  | nil => intro c n; simp -implicitDefEqProofs [cutL]
  | cons x s ih =>
    intro c n
    simp only [cutL]
    split
    · split
      · have := ih (c := []) (n := n + 1); simp; omega
      · have := ih (c := c ++ [x]) (n := n); simp; omega
    · simp
theorem okT_I {t : List FileD} (h : treeI t = true) : okT t := okT_of (by rw [← tree_eq]; exact h) fun f hf => by have := (treeI_plain h f hf).1.2; omega
--TAB tTabR
def cTreeReadS : Con := .fn 41 Str (fun s => [.str s]) (fun s => s.length ≤ 1048576) (fun s => .tup [.own 8 2 (eFiles (treeReadS treeI s).1), .bool (treeReadS treeI s).2]) (fun s => ownFiles 8 (treeReadS treeI s).1)
set_option maxHeartbeats 4000000 in
theorem treeReadS_has : Has Tryd.prog 18 cTreeReadS := by
  refine has_walk mixed tTabR_ok (l := [(42, cL1Cut), (43, cRdTree), (27, cL4Ok), (28, cL24Tree)]) (HasL.cons l1Cut_has (HasL.cons rdTree_has (HasL.cons l4Ok_has (HasL.cons l24Tree_has HasL.nil)))) [0, 2, 3, 4, 5] ((fun a n (_ : Nat) => (fun _ => noInv) a n)) [] Tryd.func18 (by kernel_rfl) (code := _) (by unfold Tryd.f18; rfl) (by kernel_rfl) (by decide) (fun _ => ⟨(), trivial⟩) (by intro h; first | exact fun _ => rfl | cases h) (by kernel_rfl) ?_
  intro (s : Str) (hs : s.length ≤ 1048576)
  have g1 : (cutB s 10 89).length ≤ 1048577 := by have := cutL_len' (b := 10) (m := 89) (s := s) (c := []) (n := 0); unfold cutB; omega
  have g2 : ∀ l ∈ cutB s 10 89, l.length ≤ 1073741824 := fun l hl => by have := cutB_le l hl; omega
  have e1 : ∀ F, rdTree (cutB s 10 89) 8 [] (0, false) = F → treeReadS treeI s = if F.2.2 = false ∧ F.2.1 + 1 = (cutB s 10 89).length ∧ treeI F.1 = true ∧ treeT F.1 = s then (F.1, true) else ([], false) := fun F h => by unfold treeReadS; rw [h]
  have hb := rdTree_bd (ls := cutB s 10 89) g1 (t := []) (n := 8) (a := (0, false)) (by simp)
  simp -implicitDefEqProofs [vc_skip, extOf, vc_seq, vc_cond, vc_block, vc_exit, vc_ret, vc_region, vc_regionD, vc_loop, kSeq_normal, kSeq_ret, kSeq_exit, kBlock_normal, kBlock_ret, kBlock_exit, kLoop_normal, kLoop_ret, kLoop_exit, kCond_bool, kNorm_app, vcOps_nil, vcOps_cons, kOps_app, kStep_some, kStep_none, vcDL_nil, vcDL_cons, kOpsD_app, kStepD_true, kStepD_tt, kStepD_false, ldB, btys, btyAct, kStepC_some, kStepC_none, kMv_app, act3_store, act3_call, act3_bs, kAct_app, kSt2_app, stealSlots, stealL, stealOne, subIn, AV.stolen, act_store, act_bs, act_append, act_call, kSet_app, kSet2_app, kSetG_app, kSetG_app0, kStore_ptr, kStore_eptr, kCallW_some, kCallC_some, kCall_some, wk_T, wk_n, wk_keep, wk_inv, wk_act, wk_dr, wk_le, aCalm, wantC, dstOk, calm, aCallK, aCall3K, subOf, subRep, aCall2K, apnd, bsMove, putBox, putOwn, partAV, mvL, AV.mv, AV.base, AV.moved, kBld, bldK, wrK, stK, AV.selfOk, AV.src, TI.flat, apSize, pickAV, St.val, St.cond, St.fn, St.next, St.set, St.trim, wipe_eq, wipeE_app, wipeM_app, pickEnv, get?, cGet, upd_app, withPuts, killAll, rm, freshP, Oper.hnd, Sc.st, ofConst, constOk, lenAV, elemLen, loadAV, ldL, ld1, fieldAddrAV, indexAddrAV, sliceAV, convAV, buildAV, fillAV, fieldAV, Out.of, binAV, AV.rows, AV.one, AV.cells, AV.deepOk, AV.toD, toDs, partRows, partRowsM, partsDeep, TK.zeroAV, TK.zeroD, byteOf, inR, Op.operands, Call.operands, passVs, passV, passL, pass1, passB, pasVs, pasV, pasL, pas1, ownsOk, okHs, okHs2, okFin, finOk2, rho, over, backRes, backAV, backAV1, backBlk, putBack, back2, back2_V, back2_1, m2, AV.wipe, AV.wipeV, AV.wipe1, Blk.wipe, AV.hs, AV.hs.hsL, alOps, Con.start2, Con.pk, bodyQ, fini, resAV, resA, firstId, Sc.from, renEnv, renT, renV, renVs, renL, ren1, renBox, renOwn, okRen, clOf, actB, setRow, flatRows, flatD, noInv, shr_nil, shr_some, kStepF_some, shareL, AV.viewed, AV.viewed1, cTreeReadS, cL1Cut, cRdTree, cL4Ok, cL24Tree, Con.fn, tTabR, tTab, -Bool.exists_bool]
  try dsimp only
  refine ⟨s, 10, 89, ⟨rfl, rfl, rfl⟩, by omega, cutB s 10 89, 0, false, ⟨rfl, rfl, rfl⟩, ⟨⟨g1, by omega⟩, g2⟩, ?_⟩
  generalize hF : rdTree (cutB s 10 89) 8 [] (0, false) = F at hb ⊢
  have e1 := e1 F hF
  have no : ¬ (F.2.2 = false ∧ F.2.1 + 1 = (cutB s 10 89).length ∧ treeI F.1 = true ∧ treeT F.1 = s) → treeReadS treeI s = ([], false) := fun h => by rw [e1, if_neg h]
  have yes : (F.2.2 = false ∧ F.2.1 + 1 = (cutB s 10 89).length ∧ treeI F.1 = true ∧ treeT F.1 = s) → treeReadS treeI s = (F.1, true) := fun h => by rw [e1, if_pos h]
  rw [← tree_eq]
  refine ⟨fun h => ?_, fun h0 => ⟨by omega, fun _ _ => ⟨fun h => ?_, fun h1 => ⟨fun h2 => ?_, fun h2 => ⟨okT_I h2, fun h3 => ?_, fun h3 => ?_⟩⟩⟩⟩⟩
  · rw [no fun q => by rw [q.1] at h; cases h]; exact ⟨⟨rfl, rfl⟩, rfl⟩
  · rw [no fun q => h (by have := q.2.1; omega)]; exact ⟨⟨rfl, rfl⟩, rfl⟩
  · rw [no fun q => by rw [q.2.2.1] at h2; cases h2]; exact ⟨⟨rfl, rfl⟩, rfl⟩
  · rw [no fun q => h3 q.2.2.2]; exact ⟨⟨rfl, rfl⟩, rfl⟩
  · rw [yes ⟨h0, by omega, h2, h3⟩]; exact ⟨⟨rfl, rfl⟩, rfl⟩

theorem linesI_bd (s : Str) : (linesI s).1.length ≤ s.length ∧ ∀ l ∈ (linesI s).1, l.length ≤ s.length := by
  unfold linesI
  split
  · simp
  · have h1 := spl_len 10 s []
    have h2 : s.count 10 ≤ s.length := List.count_le_length
    refine ⟨by simp; omega, fun l hl => ?_⟩
    have := spl_le (c := 10) (s := s) (p := []) l (List.dropLast_subset _ hl)
    simpa using this
theorem rfI_path {num : Str → Int × Bool} {N : Nat} : ∀ {n : Nat} {t : List FileD} {ls : List Str}, (∀ l ∈ ls, l.length ≤ N) → (∀ f ∈ t, f.path.length ≤ N) → ∀ f ∈ (rfI num n t ls).1, f.path.length ≤ N := by
  intro n
  induction n with
  | zero => intro t ls _ h; exact h
  | succ n ih =>
    intro t ls h1 h2
    cases ls with
    | nil => exact h2
    | cons l ls =>
      rw [rfI]
      split
      · split
        · refine ih (fun x hx => h1 x (by simp -implicitDefEqProofs [List.mem_of_mem_drop hx])) fun f hf => ?_
          rcases List.mem_append.1 hf with hf | hf
          · exact h2 f hf
          · have : f = _ := List.mem_singleton.1 hf
            subst this
            show ((spl 32 l []).getD 1 []).length ≤ N
            rw [List.getD_eq_getElem?_getD]
            cases hq : (spl 32 l [])[1]? with
            | none => simp
            | some q =>
              have := spl_le (c := 32) (s := l) (p := []) q (List.mem_of_getElem? hq)
              have := h1 l (by simp)
              simp at *
              omega
        · exact h2
      · exact h2

def cTreeReadI : Con := { (Con.fn 37 Str (fun s => [.str s]) (fun s => s.length ≤ 1048576) (fun s => .tup [.own 8 2 (eFiles (treeReadI numS treeI s).1), .bool (treeReadI numS treeI s).2]) (fun s => ownFiles 8 (treeReadI numS treeI s).1)) with need := numNeed }
set_option maxHeartbeats 4000000 in
theorem treeReadI_has : Has Tryd.prog 19 cTreeReadI := by
  refine has_walk mixed tTabR_ok (l := [(44, cLinesOf), (45, cReadFiles), (23, cTreeOk), (30, cTreePutT)]) (HasL.cons linesOf_has (HasL.cons readFiles_has (HasL.cons treeOk_has (HasL.cons treePutT_has HasL.nil)))) [0, 2, 3, 4, 5, 6, 7] ((fun a n (_ : Nat) => (fun _ => noInv) a n)) [] Tryd.func19 (by kernel_rfl) (code := _) (by unfold Tryd.f19; rfl) (by kernel_rfl) (by decide) (fun _ => ⟨(), trivial⟩) (by intro h; first | exact fun _ => rfl | cases h) (by kernel_rfl) ?_
  intro (s : Str) (hs : s.length ≤ 1048576)
  simp -implicitDefEqProofs [vc_skip, extOf, vc_seq, vc_cond, vc_block, vc_exit, vc_ret, vc_region, vc_regionD, vc_loop, kSeq_normal, kSeq_ret, kSeq_exit, kBlock_normal, kBlock_ret, kBlock_exit, kLoop_normal, kLoop_ret, kLoop_exit, kCond_bool, kNorm_app, vcOps_nil, vcOps_cons, kOps_app, kStep_some, kStep_none, vcDL_nil, vcDL_cons, kOpsD_app, kStepD_true, kStepD_tt, kStepD_false, ldB, btys, btyAct, kStepC_some, kStepC_none, kMv_app, act3_store, act3_call, act3_bs, kAct_app, kSt2_app, stealSlots, stealL, stealOne, subIn, AV.stolen, act_store, act_bs, act_append, act_call, kSet_app, kSet2_app, kSetG_app, kSetG_app0, kStore_ptr, kStore_eptr, kCallW_some, kCallC_some, kCall_some, wk_T, wk_n, wk_keep, wk_inv, wk_act, wk_dr, wk_le, aCalm, wantC, dstOk, calm, aCallK, aCall3K, subOf, subRep, aCall2K, apnd, bsMove, putBox, putOwn, partAV, mvL, AV.mv, AV.base, AV.moved, kBld, bldK, wrK, stK, AV.selfOk, AV.src, TI.flat, apSize, pickAV, St.val, St.cond, St.fn, St.next, St.set, St.trim, wipe_eq, wipeE_app, wipeM_app, pickEnv, get?, cGet, upd_app, withPuts, killAll, rm, freshP, Oper.hnd, Sc.st, ofConst, constOk, lenAV, elemLen, loadAV, ldL, ld1, fieldAddrAV, indexAddrAV, sliceAV, convAV, buildAV, fillAV, fieldAV, Out.of, binAV, AV.rows, AV.one, AV.cells, AV.deepOk, AV.toD, toDs, partRows, partRowsM, partsDeep, TK.zeroAV, TK.zeroD, byteOf, inR, Op.operands, Call.operands, passVs, passV, passL, pass1, passB, pasVs, pasV, pasL, pas1, ownsOk, okHs, okHs2, okFin, finOk2, rho, over, backRes, backAV, backAV1, backBlk, putBack, back2, back2_V, back2_1, m2, AV.wipe, AV.wipeV, AV.wipe1, Blk.wipe, AV.hs, AV.hs.hsL, alOps, Con.start2, Con.pk, bodyQ, fini, resAV, resA, firstId, Sc.from, renEnv, renT, renV, renVs, renL, ren1, renBox, renOwn, okRen, clOf, actB, setRow, flatRows, flatD, noInv, shr_nil, shr_some, kStepF_some, shareL, AV.viewed, AV.viewed1, cTreeReadI, cLinesOf, cReadFiles, cTreeOk, cTreePutT, Con.fn, tTabR, tTab]
  try dsimp only
  have e0 : ∀ L, linesI s = L → ∀ F, rfI numS L.1.length [] L.1 = F → treeReadI numS treeI s = if L.2 = true ∧ F.2 = [] ∧ treeI F.1 = true ∧ treeT F.1 = s then (F.1, true) else ([], false) := fun L hL F hF => by unfold treeReadI; rw [hL, hF]
  obtain ⟨b1, b2⟩ := linesI_bd s
  generalize hL : linesI s = L at b1 b2 ⊢
  have hp := rfI_path (num := numS) (N := 536870912) (n := L.1.length) (t := []) (ls := L.1) (fun l hl => by have := b2 l hl; omega) (by simp)
  generalize hF : rfI numS L.1.length [] L.1 = F at hp ⊢
  have e1 := e0 L hL F hF
  have no : ¬ (L.2 = true ∧ F.2 = [] ∧ treeI F.1 = true ∧ treeT F.1 = s) → treeReadI numS treeI s = ([], false) := fun h => by rw [e1, if_neg h]
  have yes : (L.2 = true ∧ F.2 = [] ∧ treeI F.1 = true ∧ treeT F.1 = s) → treeReadI numS treeI s = (F.1, true) := fun h => by rw [e1, if_pos h]
  refine ⟨by omega, ⟨by omega, fun l hl => by have := b2 l hl; omega⟩, fun h0 _ => ⟨fun h => ?_, fun h1 => ⟨hp, fun h2 => ?_, fun h2 => ⟨okT_I h2, fun h3 => ?_, fun h3 => ?_⟩⟩⟩, fun h => ?_⟩
  · rw [no fun q => by rw [q.2.1] at h; simp at h]; exact ⟨⟨rfl, rfl⟩, rfl⟩
  · rw [no fun q => by rw [q.2.2.1] at h2; cases h2]; exact ⟨⟨rfl, rfl⟩, rfl⟩
  · rw [no fun q => h3 q.2.2.2]; exact ⟨⟨rfl, rfl⟩, rfl⟩
  · rw [yes ⟨h0, h1, h2, h3⟩]; exact ⟨⟨rfl, rfl⟩, rfl⟩
  · rw [no fun q => by rw [q.1] at h; cases h]; exact ⟨⟨rfl, rfl⟩, rfl⟩
theorem treeRead_is (s : Str) : treeReadI numS treeI s = treeReadS treeI s := treeRead_eq numS_dec okT_treeI s
theorem treeReadS_bd (s : Str) : (treeReadS treeI s).1.length ≤ 8 ∧ ∀ f ∈ (treeReadS treeI s).1, f.text.length ≤ 10 := by
  obtain ⟨h1, h2⟩ := treeReadS_ok (ok := treeI) (s := s)
  cases hb : (treeReadS treeI s).2 with
  | true =>
    obtain ⟨q1, _⟩ := h1 hb
    exact ⟨(treeI_le _ q1).1, fun f hf => (treeI_plain q1 f hf).2.1⟩
  | false => rw [h2 hb]; simp

def cFnExactTreeRead : Con := { (Con.fn 66 Str (fun s => [.str s]) (fun _ => True) (fun _ => .bool true) (fun _ => [])) with need := numNeed }
set_option maxHeartbeats 4000000 in
theorem fnExactTreeRead_has : Has Tryd.prog 5 cFnExactTreeRead := by
  refine has_walk mixed tTabR_ok (l := [(18, cTreeReadS), (19, cTreeReadI), (12, cEqFileS), (20, cMarkFileS), (21, cHeldFileS)]) (HasL.cons treeReadS_has (HasL.cons treeReadI_has (HasL.cons eqFileS_has (HasL.cons markFileS_has (HasL.cons heldFileS_has HasL.nil))))) [0, 2, 3, 4, 5, 6, 7, 8, 9, 10] ((fun a n (_ : Nat) => (fun _ => noInv) a n)) [] Tryd.func5 (by kernel_rfl) (code := _) (by unfold Tryd.f5; rfl) (by kernel_rfl) (by decide) (fun _ => ⟨(), trivial⟩) (by intro h; first | exact fun _ => rfl | cases h) (by kernel_rfl) ?_
  intro (s : Str) _
  obtain ⟨b1, b2⟩ := treeReadS_bd s
  have g7 : 1 ≤ kE (treeReadS treeI s).1 1 ∧ kE (treeReadS treeI s).1 1 ≤ 1 + 8 + 10 * 8 := kE_bd b1 b2 1
  have he := treeRead_is s
  have hm := heldFs_mark
  have hm2 := kE_marks
  simp -implicitDefEqProofs [vc_skip, extOf, vc_seq, vc_cond, vc_block, vc_exit, vc_ret, vc_region, vc_regionD, vc_loop, kSeq_normal, kSeq_ret, kSeq_exit, kBlock_normal, kBlock_ret, kBlock_exit, kLoop_normal, kLoop_ret, kLoop_exit, kCond_bool, kNorm_app, vcOps_nil, vcOps_cons, kOps_app, kStep_some, kStep_none, vcDL_nil, vcDL_cons, kOpsD_app, kStepD_true, kStepD_tt, kStepD_false, ldB, btys, btyAct, kStepC_some, kStepC_none, kMv_app, act3_store, act3_call, act3_bs, kAct_app, kSt2_app, stealSlots, stealL, stealOne, subIn, AV.stolen, act_store, act_bs, act_append, act_call, kSet_app, kSet2_app, kSetG_app, kSetG_app0, kStore_ptr, kStore_eptr, kCallW_some, kCallC_some, kCall_some, wk_T, wk_n, wk_keep, wk_inv, wk_act, wk_dr, wk_le, aCalm, wantC, dstOk, calm, aCallK, aCall3K, subOf, subRep, aCall2K, apnd, bsMove, putBox, putOwn, partAV, mvL, AV.mv, AV.base, AV.moved, kBld, bldK, wrK, stK, AV.selfOk, AV.src, TI.flat, apSize, pickAV, St.val, St.cond, St.fn, St.next, St.set, St.trim, wipe_eq, wipeE_app, wipeM_app, pickEnv, get?, cGet, upd_app, withPuts, killAll, rm, freshP, Oper.hnd, Sc.st, ofConst, constOk, lenAV, elemLen, loadAV, ldL, ld1, fieldAddrAV, indexAddrAV, sliceAV, convAV, buildAV, fillAV, fieldAV, Out.of, binAV, AV.rows, AV.one, AV.cells, AV.deepOk, AV.toD, toDs, partRows, partRowsM, partsDeep, TK.zeroAV, TK.zeroD, byteOf, inR, Op.operands, Call.operands, passVs, passV, passL, pass1, passB, pasVs, pasV, pasL, pas1, ownsOk, okHs, okHs2, okFin, finOk2, rho, over, backRes, backAV, backAV1, backBlk, putBack, back2, back2_V, back2_1, m2, AV.wipe, AV.wipeV, AV.wipe1, Blk.wipe, AV.hs, AV.hs.hsL, alOps, Con.start2, Con.pk, bodyQ, fini, resAV, resA, firstId, Sc.from, renEnv, renT, renV, renVs, renL, ren1, renBox, renOwn, okRen, clOf, actB, setRow, flatRows, flatD, noInv, shr_nil, shr_some, kStepF_some, shareL, AV.viewed, AV.viewed1, cFnExactTreeRead, cTreeReadS, cTreeReadI, cEqFileS, cMarkFileS, cHeldFileS, Con.fn, tTabR, tTab]
  try dsimp only
  rw [he]
  generalize treeReadS treeI s = R at g7 ⊢
  have q1 := hm R.1 1
  have q2 := hm2 R.1 1 1
  simp only [and_assoc, exists_eq_left, exists_and_left, q1, q2]
  cases R.2 <;> simp <;> omega

end Vx
end Go.Proofs.YthmhaggmcfemnaaDoor
