/-
  Joined by program (merge.py): Me, Ml, Mh, Mi, Mj, Mm, Mn, Td, Ng, He, Mo, Tl, Tq, Tc, Tm, Tn, Tr, Nh, Ni, Qd, Ua, Uc, Shj, Uw, Ud, Ug, Nj, Nk, Nl, Nm, Nn, Uf, Uh, Ui, Ue, Uj. It shows what the single texts show; conditions: none but those of each lemma.
-/
import Derived.Test.YtokdjnbcdokpjabGreatDoorWb
import Derived.Shelf.Strings.Builder1
import Derived.Shelf.Strings.Builder2
import Derived.Shelf.Strings.OnBuilder
import Derived.Test.YtokdjnbcdokpjabGreatDoorProg
set_option linter.unusedVariables false
set_option linter.unusedSimpArgs false
set_option linter.unusedSectionVars false
namespace Go.Proofs.YtokdjnbcdokpjabGreatDoor
set_option maxHeartbeats 4000000
namespace Vx
open Go.RowKit
set_option maxRecDepth 8000
def b1A : Con := .fn 42 (OpD × Bool × Bool × Bool × Bool) (fun a => [vOp a.1, .bool a.2.1, .bool a.2.2.1, .bool a.2.2.2.1, .bool a.2.2.2.2]) (fun a => a.1.text.length <= 1048576) (fun a => .bool (a3S a.1 a.2.1 a.2.2.1 a.2.2.2.1 a.2.2.2.2)) (fun _ => [])
theorem b8C : Has Tryz.prog 120 b1A := by
 refine a0d mixed a0g HasL.nil [0, 1, 2, 3, 4, 5, 10] ((fun a n (_ : Nat) => (fun _ => a0s) a n)) [] Tryz.func120 (by unfold Tryz.f120; rfl) (fun _ => ⟨(), trivial⟩) ?_
 intro a ha
 obtain ⟨o, p, t, a, x⟩ := a
 replace ha : o.text.length <= 1048576 := ha
 simp (maxSteps := 8000000) -implicitDefEqProofs [-kStep_move, -Bool.exists_bool, b1A, Con.fn, tTab]
 unfold a3S
 by_cases h1 : o.path = [] <;> by_cases h2 : o.to_ = [] <;> by_cases h3 : o.at_ = 0 <;> by_cases h4 : o.text = [] <;> simp -implicitDefEqProofs [h1, h2, h3, h4] <;> cases p <;> cases t <;> cases a <;> cases x <;> simp -implicitDefEqProofs <;> omega
def l19O (t : List Str) : Inv := ⟨Nat, fun i => ⟨[(0, true, .sl true 1 (a0a t)), (2, true, .bool false), (3, true, .int .i64 i)], []⟩, fun i => i <= t.length /\ (t.take i).all barB = true, fun i => t.length - i⟩
def l19I (t : List Str) (g : Nat) : Inv := ⟨Nat, fun k => ⟨[(0, true, .sl true 1 (a0a t)), (2, true, .bool false), (3, true, .int .i64 g), (4, true, .int .i64 k)], []⟩, fun k => g < t.length /\ (t.take g).all barB = true /\ k <= (t.getD g []).length /\ ((t.getD g []).take k).all (fun b => decide (b ≠ 124)) = true, fun k => (t.getD g []).length - k⟩
def b7d (t : List Str) (n g : Nat) : Inv := if n = 2 then l19O t else l19I t g
theorem c5J (t g) : b7d t 2 g = l19O t := rfl
theorem c5K (t g) : b7d t 5 g = l19I t g := rfl
def a9E : Con := .fn 29 (List Str) (fun t => [.sl true 1 (a0a t)]) (fun _ => True) (fun t => .bool (a5M t)) (fun _ => [])
theorem b7e : Has Tryz.prog 122 a9E := by
 refine a0d mixed a0g (HasL.cons b1W HasL.nil) [0, 2, 3, 4] (fun t => b7d t) [] Tryz.func122 (by unfold Tryz.f122; rfl) (fun _ => ⟨(), trivial⟩) ?_
 intro (t : List Str) _
 simp -implicitDefEqProofs [a9E, b2w, Con.fn, tTab, c5J, c5K, l19O, l19I]
 try dsimp only
 have e0 : ∀ i (h : i < t.length), ¬ barB t[i] = true -> a5M t = false := fun i h hb => by
  unfold a5M
  rw [Bool.and_eq_false_iff]; left
  rw [List.all_eq_false]
  exact ⟨_, List.getElem_mem h, hb⟩
 refine fun i hi hp _ => ⟨fun hlt => ⟨i, ⟨0, ⟨rfl, rfl⟩, hlt, hp, Nat.zero_le _, by simp⟩, fun k _ _ hk hq => ?_⟩, fun hge => ?_⟩
 ·have e1 := e0 i hlt
  have e2 : t[i]?.getD [] = t[i] := by simp -implicitDefEqProofs [hlt]
  have qq : Option.map eStr t[i]? = some (eStr t[i]) := by simp -implicitDefEqProofs [hlt]
  have e3 : (t.take (i + 1)).all barB = ((t.take i).all barB && barB t[i]) := a1b hlt
  rw [e2] at hk hq ⊢
  rw [qq]
  generalize t[i] = s at *
  simp -implicitDefEqProofs [eStr, D.asStr]
  have hex : ∀ h : k < List.length s, s[k]?.getD 0 = s[k] := fun h => by simp -implicitDefEqProofs [h]
  refine ⟨hlt, fun _ _ => ⟨fun hl => ⟨hlt, fun _ => ⟨hl, fun _ => ?_⟩⟩, fun hg => ⟨⟨by omega, by omega⟩, fun _ _ => ⟨i + 1, by omega, ⟨by omega, ?_⟩, by omega⟩⟩⟩⟩
  ·rw [hex hl]
   have hb := List.getElem_mem hl
   refine ⟨fun hc => e1 (fun hb2 => ?_), fun hc => ⟨⟨by omega, by omega⟩, fun _ _ => ⟨k + 1, by omega, ⟨hlt, ‹∀ x ∈ List.take i t, barB x = true›, by omega, fun x hx => ?_⟩, by omega⟩⟩⟩
   ·unfold barB at hb2
    have := List.all_eq_true.1 hb2 _ hb
    simp only [ne_eq, decide_not, Bool.not_eq_true', decide_eq_false_iff_not] at this
    exact this (UInt8.toNat_inj.1 (by simp; omega))
   ·rw [a0x hl] at hx
    rcases List.mem_append.1 hx with hx | hx
    ·exact hq x hx
    ·simp only [List.mem_singleton] at hx
     subst hx
     intro e; rw [e] at hc; exact hc rfl
  ·have hs : barB s = true := by
    unfold barB
    rw [List.all_eq_true]
    intro x hx
    have := hq x (by rw [List.take_of_length_le hg]; exact hx)
    simp -implicitDefEqProofs [this]
   rw [hs, Bool.and_true] at e3
   have hp' : (List.take i t).all barB = true := List.all_eq_true.2 ‹∀ x ∈ List.take i t, barB x = true›
   rw [hp'] at e3
   exact List.all_eq_true.1 e3
 ·have e : t.take i = t := List.take_of_length_le hge
  rw [e] at hp
  unfold a5M
  rw [List.all_eq_true.2 hp, Bool.true_and]
def b2v : Con := .fn 72 OpD (fun o => [vOp o]) (fun o => o.text.length <= 1048576) (fun o => .bool (opB o)) (fun _ => [])
theorem b4K : Has Tryz.prog 81 b2v := by
 refine a0d mixed a0g (HasL.cons a4s (HasL.cons b8C (HasL.cons a8R (HasL.cons b7e (HasL.cons a4K HasL.nil))))) [0, 1, 2, 14, 52, 62] ((fun a n (_ : Nat) => (fun _ => a0s) a n)) [] Tryz.func81 (by unfold Tryz.f81; rfl) (fun _ => ⟨(), trivial⟩) ?_
 intro (o : OpD) (ha : o.text.length <= 1048576)
 simp (maxSteps := 8000000) -implicitDefEqProofs [-kStep_move, -Bool.exists_bool, b2v, a4U, b1A, a7O, a9E, a6m, Con.fn, tTab, bOp]
 try dsimp only
 simp -implicitDefEqProofs only [and_assoc, exists_eq_left, exists_and_left, OpD.ex1, OpD.eta]
 have hk : o.kind = 1 \/ o.kind = 2 \/ o.kind = 3 \/ o.kind = 4 \/ o.kind = 5 \/ o.kind = 6 \/ o.kind = 7 \/ (¬ o.kind = 1 /\ ¬ o.kind = 2 /\ ¬ o.kind = 3 /\ ¬ o.kind = 4 /\ ¬ o.kind = 5 /\ ¬ o.kind = 6 /\ ¬ o.kind = 7) := by omega
 unfold opB
 generalize a1a o.branch = b1
 generalize a1a o.who = b2
 generalize a2Y o.path = b3
 generalize a2Y o.to_ = b4
 generalize a1a o.to_ = b5
 generalize a5M o.text = b6
 rcases hk with h | h | h | h | h | h | h | h <;> simp -implicitDefEqProofs [h, ha]
 all_goals grind
--TAB a0G
def b3J : Con := .fn 66 (RepoD × Int) (fun a => [a0Y a.1, .int .i64 a.2]) (fun a => a0j a.1 = true /\ 0 <= a.2 /\ a.2 < a.1.commits.length) (fun a => .sl false 1 (a0h (a0l (anc a.1 a.2)))) (fun _ => [])
theorem c1h : Has Tryz.prog 144 b3J := by
 refine a0d mixed a0B HasL.nil [0, 1, 2, 4, 5, 6, 7, 8, 9] (fun a => b2l a.1 a.2) [] Tryz.func144 (by unfold Tryz.f144; rfl) (fun _ => ⟨(), trivial⟩) ?_
 intro a ha
 obtain ⟨r, n⟩ := a
 obtain ⟨h1, h2, h3⟩ : a0j r = true /\ 0 <= n /\ n < r.commits.length := ha
 have h4 := a3o h1
 simp -implicitDefEqProofs [b3J, Con.fn, a0G, tTab, b9d, b9e, b5Y, alO, alI, alT, a0t]
 try dsimp only
 simp only [and_assoc, exists_eq_left, exists_and_left, RepoD.ex1, RepoD.eta]
 have hal := a1X r n
 refine fun _ => ⟨by omega, fun _ => ⟨h2, h3, fun _ _ => ⟨by omega, ⟨(List.replicate r.commits.length false).set n.toNat true, by rw [a3i]; exact (a1E _ _ _).symm, by rw [a3i]; exact a1E _ _ _, by simp, by omega, h3, rfl⟩, fun l b g1 g2 g3 g4 => ⟨fun hb => ⟨b.toNat, ?_⟩, fun hb => ?_⟩⟩⟩⟩
 ·have hb1 : b.toNat < l.length := by omega
  have hb2 : b.toNat < r.commits.length := by omega
  obtain ⟨p1, p2, _⟩ := a2P h1 hb2
  have hgd : r.commits.getD b.toNat default = r.commits[b.toNat] := by simp -implicitDefEqProofs [List.getD_eq_getElem?_getD, hb2]
  have hgo : r.commits[b.toNat]?.getD default = r.commits[b.toNat] := by simp -implicitDefEqProofs [hb2]
  rw [show (b + 1).toNat = b.toNat + 1 by omega] at g4
  have g5 : ancF r b.toNat (a4z r l b.toNat) = anc r n := g4
  unfold a4z at g5
  rw [hgd] at g5
  have e3 : Option.map a0E r.commits[b.toNat]? = some (a0E r.commits[b.toNat]) := by simp -implicitDefEqProofs [hb2]
  rw [hgo, e3]
  generalize r.commits[b.toNat] = c at *
  refine ⟨by omega, trivial, g1, hb2, Nat.zero_le _, fun h => ?_, fun h => ?_, fun m k m1 m2 m3 m4 m5 => ⟨hb2, fun _ => ?_⟩⟩
  ·rw [if_pos h] at g5; exact g5
  ·rw [if_neg (by rw [h]; simp)] at g5; exact g5
  ·have hbm : b.toNat < m.length := by omega
   have hT : isT m b.toNat = m[b.toNat] := by simp -implicitDefEqProofs [isT, List.getD_eq_getElem?_getD, hbm]
   have e4 : Option.map a1D m[b.toNat]? = some (a1D m[b.toNat]) := by simp -implicitDefEqProofs [hbm]
   have hmx : max b 0 = b := Int.max_eq_left hb
   simp -implicitDefEqProofs [a0E, D.asRows, e4, a1D, hbm, hb2, hmx]
   refine fun _ => ⟨fun hl2 => ⟨fun hm => ⟨hl2, fun _ => ?_⟩, fun hm => ⟨by omega, by omega, fun _ _ => ⟨m1, by omega, by omega, m5 (hT.trans hm), by omega⟩⟩⟩, fun hge => ⟨by omega, by omega, fun _ _ => ⟨m1, by omega, by omega, ?_, by omega⟩⟩⟩
   ·have hp := p2 c.parents[k] (List.getElem_mem hl2)
    have qt : Option.map eInt c.parents[k]? = some (eInt c.parents[k]) := by simp -implicitDefEqProofs [List.getElem?_eq_getElem hl2]
    simp -implicitDefEqProofs [qt, eInt, D.asInt]
    have hst : isT (m.set c.parents[k].toNat true) b.toNat = true := by rw [b2L _ (by omega)]; exact hT.trans hm
    refine ⟨hp.1, by omega, fun _ _ => ⟨by omega, by omega, by omega, fun _ _ => ⟨m.set c.parents[k].toNat true, (a1E _ _ _).symm, k + 1, by omega, a1E _ _ _, by simp -implicitDefEqProofs [m1], by omega, fun _ => ?_, fun h => ?_, by omega⟩⟩⟩
    ·have := m4 (hT.trans hm)
     rw [List.drop_eq_getElem_cons hl2] at this
     exact this
    ·rw [hst] at h; cases h
   ·cases hm : m[b.toNat] with
    | true =>
     have := m4 (hT.trans hm)
     rw [List.drop_eq_nil_of_le hge] at this
     exact this
    | false => exact m5 (hT.trans hm)
 ·rw [show (b + 1).toNat = 0 by omega] at g4
  have g5 : l = anc r n := g4
  refine ⟨g5.symm, ⟨0, rfl, rfl, g5, rfl, Nat.zero_le _⟩, fun i hi _ => ⟨fun hlt => ?_, fun hge => ?_⟩⟩
  ·have hl := a6a (anc r n) i
   have hi : isT (anc r n) i = (anc r n)[i] := by simp -implicitDefEqProofs [isT, List.getD_eq_getElem?_getD, hlt]
   rw [hal] at hlt
   simp -implicitDefEqProofs [hal, hlt, a1D, D.asBool, and_assoc]
   refine ⟨fun h => ?_, fun h => ?_⟩
   ·have e := b0e (hi.trans h)
    exact ⟨by omega, by omega, by omega, by omega, fun _ _ => ⟨i + 1, by rw [e]; simp -implicitDefEqProofs [a0h, eInt], by omega, by rw [e]; simp -implicitDefEqProofs [a0h, eInt], by omega, by omega⟩⟩
   ·have e := a8W (hi.trans h)
    exact ⟨by omega, by omega, fun _ _ => ⟨i + 1, e, by omega, e.symm, by omega, by omega⟩⟩
  ·rw [hal] at hge
   have : i = r.commits.length := by omega
   subst this
   unfold a0l
   rw [hal]
def l8bA (r : RepoD) (a b : Int) : Inv := ⟨Nat, fun i => ⟨[(3, true, .ptr 10 0), (6, true, .nil), (7, true, .sl false 1 (a0h (a0l (anc r a)))), (8, true, .sl false 1 (a0h (a0l (anc r b)))), (9, true, .own 9 1 (a0h (a1J r a b i))), (10, true, .int .i64 i)], [(10, a1P r), (9, .own 3 1 true (a0h (a1J r a b i)))]⟩, fun i => i <= (a0l (anc r a)).length, fun i => (a0l (anc r a)).length - i⟩
def l8bB (r : RepoD) (L : List Int) : Inv := ⟨Nat, fun i => ⟨[(3, true, .ptr 10 0), (6, true, .nil), (9, true, .own 9 1 (a0h L)), (11, true, .own 11 1 (a0h (a3h r L i))), (12, true, .int .i64 i)], [(10, a1P r), (9, .own 3 1 true (a0h L)), (11, .own 3 1 true (a0h (a3h r L i)))]⟩, fun i => i <= L.length, fun i => L.length - i⟩
def l8bC (r : RepoD) (L : List Int) (g : Nat) : Inv := ⟨Nat, fun k => ⟨[(3, true, .ptr 10 0), (6, true, .nil), (9, true, .own 9 1 (a0h L)), (11, true, .own 11 1 (a0h (a3h r L g))), (12, true, .int .i64 g), (13, true, .bool (a8u r L g k)), (14, true, .int .i64 k)], [(10, a1P r), (9, .own 3 1 true (a0h L)), (11, .own 3 1 true (a0h (a3h r L g)))]⟩, fun k => k <= L.length /\ g < L.length, fun k => L.length - k⟩
def b3a (r : RepoD) (a b : Int) (n g : Nat) : Inv := if n = 5 then l8bA r a b else if n = 11 then l8bB r (a1J r a b (a0l (anc r a)).length) else l8bC r (a1J r a b (a0l (anc r a)).length) g
theorem c5R (r a b g) : b3a r a b 5 g = l8bA r a b := rfl
theorem c3y (r a b g) : b3a r a b 11 g = l8bB r (a1J r a b (a0l (anc r a)).length) := rfl
theorem c3z (r a b g) : b3a r a b 15 g = l8bC r (a1J r a b (a0l (anc r a)).length) g := rfl
def b1F : Con := .fn 83 (RepoD × Int × Int) (fun a => [a0Y a.1, .int .i64 a.2.1, .int .i64 a.2.2]) (fun a => a0j a.1 = true /\ (0 <= a.2.1 /\ a.2.1 < a.1.commits.length) /\ 0 <= a.2.2 /\ a.2.2 < a.1.commits.length) (fun a => .own 8 1 (a0h (a3N a.1 a.2.1 a.2.2))) (fun a => a4v 8 (a3N a.1 a.2.1 a.2.2))
theorem b8H : Has Tryz.prog 178 b1F := by
 refine a0d mixed a0B (HasL.cons c1h (HasL.cons b4M HasL.nil)) [0, 1, 2, 3, 6, 7, 8, 9, 10, 11, 12, 13, 14] (fun a => b3a a.1 a.2.1 a.2.2) [] Tryz.func178 (by unfold Tryz.f178; rfl) (fun _ => ⟨(), trivial⟩) ?_
 intro a ha
 obtain ⟨r, a, b⟩ := a
 obtain ⟨h1, ⟨h2, h3⟩, h4, h5⟩ : a0j r = true /\ (0 <= a /\ a < r.commits.length) /\ 0 <= b /\ b < r.commits.length := ha
 simp (maxSteps := 8000000) -implicitDefEqProofs [-kStep_move, -kStepC_move, -Bool.exists_bool, b1F, b3J, b2A, Con.fn, a0G, tTab, c5R, c3y, c3z, l8bA, l8bB, l8bC, a0t]
 try dsimp only
 have hal := a1X r
 have h6 := a3o h1
 have hmem : ∀ c, ∀ x ∈ a0l (anc r c), 0 <= x /\ x < r.commits.length := fun c x hx => by
  obtain ⟨i, q1, _, rfl⟩ := listT_mem.1 hx
  rw [hal] at q1
  omega
 have h16 : ∀ c, (a0l (anc r c)).length <= 16 := fun c => by
  have := a6a (anc r c) (anc r c).length
  rw [hal] at this
  unfold a0l; rw [hal]; omega
 refine ⟨r, a, ⟨⟨rfl, rfl⟩, rfl⟩, ⟨h1, h2, h3⟩, r, b, ⟨⟨rfl, rfl⟩, rfl⟩, ⟨h1, h4, h5⟩, ?_⟩
 have hLm := hmem a
 have hL16 := h16 a
 have stepB : ∀ t (h : t < (a0l (anc r a)).length), a1J r a b (t + 1) = if (a0l (anc r a))[t] ∈ a0l (anc r b) then a1J r a b t ++ [(a0l (anc r a))[t]] else a1J r a b t := fun t h => by
  unfold a1J
  rw [a0x h, List.filter_append]
  split
  ·rename_i hq; rw [List.filter_cons_of_pos (by simpa using hq)]; simp
  ·rename_i hq; rw [List.filter_cons_of_neg (by simpa using hq)]; simp
 have bothL : ∀ t, (a1J r a b t).length <= (a0l (anc r a)).length := fun t => by
  unfold a1J
  exact Nat.le_trans (List.length_filter_le _ _) (by simp; omega)
 have hBm : ∀ x ∈ a1J r a b (a0l (anc r a)).length, 0 <= x /\ x < r.commits.length := fun x hx => by
  unfold a1J at hx
  exact hLm x (List.mem_of_mem_take (List.mem_filter.1 hx).1)
 have hout : a3N r a b = a3h r (a1J r a b (a0l (anc r a)).length) (a1J r a b (a0l (anc r a)).length).length := rfl
 have hb0 : a1J r a b 0 = [] := by unfold a1J; simp
 generalize a0l (anc r a) = L at *
 generalize hM : a0l (anc r b) = M at *
 have hB16 := bothL L.length
 generalize hB : a1J r a b L.length = B at *
 have baseS : ∀ u (h : u < B.length), a3h r B (u + 1) = if a8u r B u B.length then a3h r B u ++ [B[u]] else a3h r B u := fun u h => by
  unfold a3h
  rw [List.range_succ, List.filter_append, List.map_append]
  split
  ·rename_i hq; simp -implicitDefEqProofs [hq, List.getD_eq_getElem?_getD, h]
  ·rename_i hq; simp -implicitDefEqProofs [hq]
 have baseL : ∀ u, (a3h r B u).length <= u := fun u => by
  unfold a3h
  rw [List.length_map]
  exact Nat.le_trans (List.length_filter_le _ _) (by simp)
 refine ⟨⟨0, ⟨⟨rfl, rfl, hb0, rfl⟩, hb0⟩, Nat.zero_le _⟩, fun t ht _ => ⟨fun hlt => ⟨hlt, fun _ => ?_⟩, fun hge => ?_⟩⟩
 ·have qq : Option.map eInt L[t]? = some (eInt L[t]) := by simp -implicitDefEqProofs [hlt]
  have sB := stepB t hlt
  have bL := bothL t
  have sn : a0h (a1J r a b t) ++ [[D.int .i64 L[t]]] = a0h (a1J r a b t ++ [L[t]]) := b2F _ _
  rw [qq]
  generalize L[t] = y at *
  simp -implicitDefEqProofs [eInt, D.asInt]
  rw [sn]
  refine ⟨M, y, ⟨rfl, rfl⟩, fun h => ⟨hlt, fun _ => ⟨⟨by omega, by omega⟩, ⟨by omega, by omega⟩, fun _ _ => ⟨t + 1, by rw [sB, if_pos h]; exact ⟨⟨⟨rfl, by omega⟩, rfl⟩, by omega, by omega⟩⟩⟩⟩, fun h => ⟨⟨by omega, by omega⟩, fun _ _ => ⟨t + 1, by rw [sB, if_neg h]; exact ⟨⟨⟨rfl, by omega⟩, rfl⟩, by omega, by omega⟩⟩⟩⟩
 ·have ht' : t = L.length := by omega
  subst ht'
  rw [hB]
  refine ⟨⟨0, ⟨⟨rfl, rfl, rfl⟩, rfl, rfl⟩, Nat.zero_le _⟩, fun u hu _ => ⟨fun hlu => ⟨u, ⟨0, ⟨⟨rfl, rfl, rfl, rfl⟩, rfl⟩, Nat.zero_le _, hlu⟩, fun k hk _ _ => ?_⟩, fun hgu => ?_⟩⟩
  ·have q2 : Option.map eInt B[u]? = some (eInt B[u]) := by simp -implicitDefEqProofs [hlu]
   have sS := baseS u hlu
   have bL := baseL u
   have gu : B.getD u 0 = B[u] := by simp -implicitDefEqProofs [List.getD_eq_getElem?_getD, hlu]
   have sn : a0h (a3h r B u) ++ [[D.int .i64 B[u]]] = a0h (a3h r B u ++ [B[u]]) := b2F _ _
   refine ⟨fun hkl => ?_, fun hge => ?_⟩
   ·have q1 : Option.map eInt B[k]? = some (eInt B[k]) := by simp -implicitDefEqProofs [hkl]
    have gk : B.getD k 0 = B[k] := by simp -implicitDefEqProofs [List.getD_eq_getElem?_getD, hkl]
    have sb : a8u r B u (k + 1) = (a8u r B u k && (decide ((k : Int) = (u : Int)) || !decide (B[u] ∈ a0l (anc r B[k])))) := by
     have e : decide ((k : Int) = (u : Int)) = decide (k = u) := by rw [Bool.eq_iff_iff, decide_eq_true_eq, decide_eq_true_eq]; omega
     rw [e]
     unfold a8u
     rw [List.range_succ, List.all_append, gu]
     simp -implicitDefEqProofs [List.getD_eq_getElem?_getD, hkl]
    have hm := hBm B[k] (List.getElem_mem hkl)
    rw [q1, q2]
    generalize B[u] = y at *
    generalize B[k] = x at *
    simp -implicitDefEqProofs [eInt, D.asInt, hkl, hlu]
    refine ⟨fun a b => ⟨a, b⟩, fun _ => ⟨fun a b => ⟨a, b⟩, fun _ => ⟨r, x, ⟨⟨rfl, rfl⟩, rfl⟩, fun a b => ⟨⟨a, b⟩, h1, hm.1, hm.2⟩, fun a b => ⟨a, b⟩, fun _ => ⟨fun a b => ⟨a, b⟩, fun _ => ⟨_, y, ⟨rfl, rfl⟩, fun a => ⟨a, ?_⟩, fun _ => ⟨⟨by omega, by omega⟩, fun _ _ => ⟨k + 1, ⟨sb, by omega⟩, by omega, by omega⟩⟩⟩⟩⟩⟩⟩
    by_cases e : (k : Int) = u
    ·exact .inl e
    ·exact .inr ⟨a, e⟩
   ·have : k = B.length := by omega
    subst this
    rw [q2]
    generalize B[u] = y at *
    simp -implicitDefEqProofs [eInt, D.asInt, hlu]
    rw [sn]
    exact ⟨fun h => ⟨⟨by omega, by omega⟩, ⟨by omega, by omega⟩, fun _ _ => ⟨u + 1, by rw [sS, if_pos h]; exact ⟨⟨⟨rfl, by omega⟩, rfl⟩, by omega, by omega⟩⟩⟩, fun h => ⟨⟨by omega, by omega⟩, fun _ _ => ⟨u + 1, by rw [sS, if_neg (by simp -implicitDefEqProofs [h])]; exact ⟨⟨⟨rfl, by omega⟩, rfl⟩, by omega, by omega⟩⟩⟩⟩
  ·have : u = B.length := by omega
   subst this
   rw [<- hout]
   exact ⟨rfl, rfl⟩
--TAB a0G
theorem c1D {r : RepoD} (h : a0f r = true) (i : Nat) : a0W (r.commits.getD i default).tree = true := by
 rcases Nat.lt_or_ge i r.commits.length with hi | hi
 ·have := ((a0Q r).1 h).1 i hi
  unfold okCS okS1 at this
  simp only [Bool.and_eq_true] at this
  exact this.2.2
 ·have : r.commits.getD i default = default := by simp -implicitDefEqProofs [List.getD_eq_getElem?_getD, hi]
  rw [this]; rfl
theorem a2I {r : RepoD} (h : a0f r = true) (c : Int) : a0W (a0o r c) = true := c1D h _
theorem a9c {r : RepoD} (h : a0f r = true) : rpSz r := by
 obtain ⟨h1, h2, h3⟩ := (a0Q r).1 h
 refine ⟨by omega, fun c hc => ?_, by have := ((a1R _ _).1 h2).1; omega⟩
 obtain ⟨i, hi, rfl⟩ := List.getElem_of_mem hc
 have h4 := h1 i hi
 have e : r.commits.getD i default = r.commits[i] := by simp -implicitDefEqProofs [List.getD_eq_getElem?_getD, hi]
 unfold okCS okS1 at h4
 rw [e] at h4
 simp only [Bool.and_eq_true, decide_eq_true_eq] at h4
 obtain ⟨t1, t2⟩ := a4N _ h4.2.2
 exact ⟨by omega, by omega, fun g hg => by have := t2 g hg; omega⟩
theorem cget {r : RepoD} {c : Int} (h0 : 0 <= c) (h1 : c < r.commits.length) : Option.map a0E r.commits[c.toNat]? = some [D.sl 3 1 (a0h (r.commits.getD c.toNat default).parents), D.str (r.commits.getD c.toNat default).who, D.sl 66 2 (a0b (a0o r c))] := by
 have h : c.toNat < r.commits.length := by omega
 have e : r.commits.getD c.toNat default = r.commits[c.toNat] := by simp -implicitDefEqProofs [List.getD_eq_getElem?_getD, h]
 unfold a0o
 rw [e]; simp -implicitDefEqProofs [h, a0E]
theorem c2s {r : RepoD} {a b : Int} {i : Nat} : ∀ x ∈ a1J r a b i, 0 <= x /\ x < r.commits.length := fun x hx => by
 unfold a1J at hx
 obtain ⟨j, q1, _, rfl⟩ := listT_mem.1 (List.mem_of_mem_take (List.mem_filter.1 hx).1)
 rw [a1X] at q1
 omega
theorem c0c {r : RepoD} {a b : Int} : ∀ x ∈ a3N r a b, 0 <= x /\ x < r.commits.length := fun x hx => by
 unfold a3N a3h at hx
 obtain ⟨j, hj, rfl⟩ := List.mem_map.1 hx
 have hj := List.mem_range.1 (List.mem_filter.1 hj).1
 rw [List.getD_eq_getElem?_getD, List.getElem?_eq_getElem hj, Option.getD_some]
 exact c2s _ (List.getElem_mem hj)
theorem b9Z {r : RepoD} (h : a0j r = true) {a b : Int} : (a3N r a b).length <= 16 := by
 have h6 := a3o h
 have h1 := a6a (anc r a) (anc r a).length
 unfold a3N a3h
 rw [List.length_map]
 refine Nat.le_trans (List.length_filter_le _ _) ?_
 rw [List.length_range]
 unfold a1J
 refine Nat.le_trans (List.length_filter_le _ _) ?_
 rw [a1X] at h1
 simp only [List.length_take, a0l, a1X]; omega
theorem b9X {r : RepoD} (h : a0f r = true) (a b : Int) : a0W (a2j r a b) = true := by
 unfold a2j
 split
 ·rfl
 ·exact a2I h _
theorem a9w {r : RepoD} (h : a0f r = true) (c : Int) : a0W (a2r r c) = true := by
 unfold a2r
 split
 ·rfl
 ·exact a2I h _
theorem a2v {t : List FileD} (h : a0W t = true) : szT t := by
 obtain ⟨h1, h2⟩ := a4N t h
 exact ⟨by omega, h2⟩
def b3K : Con := .fn 26 (RepoD × Int × Int) (fun a => [a0Y a.1, .int .i64 a.2.1, .int .i64 a.2.2]) (fun a => a0f a.1 = true /\ (0 <= a.2.1 /\ a.2.1 < a.1.commits.length) /\ 0 <= a.2.2 /\ a.2.2 < a.1.commits.length) (fun a => .sl true 2 (a0b (a2j a.1 a.2.1 a.2.2))) (fun _ => [])
theorem c1i : Has Tryz.prog 147 b3K := by
 refine a0d mixed a0B (HasL.cons b8H HasL.nil) [0, 1, 2, 3, 6, 7] ((fun a n (_ : Nat) => (fun _ => a0s) a n)) [] Tryz.func147 (by unfold Tryz.f147; rfl) (fun _ => ⟨(), trivial⟩) ?_
 intro a ha
 obtain ⟨r, a, b⟩ := a
 obtain ⟨h1, ⟨h2, h3⟩, h4, h5⟩ : a0f r = true /\ (0 <= a /\ a < r.commits.length) /\ 0 <= b /\ b < r.commits.length := ha
 simp -implicitDefEqProofs [b3K, b1F, Con.fn, a0G, tTab, a0t]
 try dsimp only
 simp -implicitDefEqProofs only [and_assoc, exists_eq_left, exists_and_left, RepoD.ex1, RepoD.eta]
 have hI : a0j r = true := by rw [a0A]; exact h1
 have hl := b9Z hI (a := a) (b := b)
 have hmm := c0c (r := r) (a := a) (b := b)
 have hb : a2j r a b = match (a3N r a b).getLast? with | none => [] | some c => a0o r c := rfl
 refine ⟨hI, h2, h3, h4, h5, fun _ => ⟨fun h => by rw [hb, h]; rfl, fun h => ?_⟩⟩
 rcases List.eq_nil_or_concat (a3N r a b) with e | ⟨m, q, e⟩
 ·exact absurd e h
 ·rw [e] at hl hmm hb ⊢
  have hq := hmm q (by simp)
  have cg := cget hq.1 hq.2
  have hb : a2j r a b = a0o r q := by rw [hb]; simp
  rw [hb]
  simp -implicitDefEqProofs [eInt, D.asInt, cg, D.asRows]
  simp at hl
  omega
def b1G : Con := .fn 70 (RepoD × Str × Str × Int) (fun a => [a0Y a.1, .str a.2.1, .str a.2.2.1, .int .i64 a.2.2.2]) (fun a => a0f a.1 = true /\ 0 <= atL a.1.heads a.2.1 /\ 0 <= a.2.2.2 /\ a.2.2.2 < a.1.commits.length) (fun a => .tup [.agg [.sl false 3 (a0e (a2q a.1 a.2.1 a.2.2.1 a.2.2.2).1.commits), .sl false 2 (a0c (a2q a.1 a.2.1 a.2.2.1 a.2.2.2).1.heads)], .int .i64 (a2q a.1 a.2.1 a.2.2.1 a.2.2.2).2]) (fun _ => [])
theorem b8I : Has Tryz.prog 101 b1G := by
 refine a0d mixed a0B (HasL.cons a3I (HasL.cons c3x (HasL.cons b4M (HasL.cons a8S (HasL.cons c1i (HasL.cons b2Y (HasL.cons b0d (HasL.cons a3J HasL.nil)))))))) [0, 1, 2, 3, 4, 8, 9, 10, 11, 12, 13] ((fun a n (_ : Nat) => (fun _ => a0s) a n)) [] Tryz.func101 (by unfold Tryz.f101; rfl) (fun _ => ⟨(), trivial⟩) ?_
 intro a ha
 obtain ⟨r, n, w, b⟩ := a
 obtain ⟨h1, h2, h3, h4⟩ : a0f r = true /\ 0 <= atL r.heads n /\ 0 <= b /\ b < r.commits.length := ha
 simp -implicitDefEqProofs [b1G, a5j, b6w, b2A, a7P, b3K, b0J, a9F, a5k, Con.fn, a0G, tTab, a0t]
 try dsimp only
 simp -implicitDefEqProofs only [and_assoc, exists_eq_left, exists_and_left, RepoD.ex1, RepoD.eta]
 have hI : a0j r = true := by rw [a0A]; exact h1
 obtain ⟨k1, k2, k3⟩ := a9c h1
 have hat := a9z (n := n) ((a0Q r).1 h1).2.1
 have ga := cget (r := r) (c := atL r.heads n) h2 (by omega)
 have gb := cget (r := r) h3 h4
 rw [ga, gb]
 simp -implicitDefEqProofs [D.asRows]
 have hlen : ∀ c, (addR r n c).commits.length <= 1073741824 := fun c => by simp -implicitDefEqProofs [addR]; omega
 refine ⟨hI, h2, by omega, fun h => ?_, fun h => ⟨hI, h3, h4, fun h' => ⟨by omega, ?_⟩, fun h' => ⟨h1, h2, by omega, h3, h4, h2, by omega, fun _ _ => ⟨h3, h4, fun _ _ => ⟨a2v (b9X h1 _ _), a2v (a2I h1 _), a2v (a2I h1 _), fun _ => ⟨fun hj => ?_, fun hj => ⟨⟨[atL r.heads n, b], w, (a1n (a2j r (atL r.heads n) b) (a0o r (atL r.heads n)) (a0o r b)).1⟩, rfl, rfl, rfl, k1, k3, hlen _, fun hs => ?_, fun hs => ?_⟩⟩⟩⟩⟩⟩⟩
 ·unfold a2q; rw [if_pos h]; exact ⟨rfl, rfl, rfl⟩
 ·unfold a2q; rw [if_neg h, if_pos h']; exact ⟨rfl, rfl, rfl⟩
 ·unfold a2q; rw [if_neg h, if_neg h', if_neg (by intro e; rw [e] at hj; simp at hj)]; exact ⟨rfl, rfl, rfl⟩
 ·unfold a2q; rw [if_neg h, if_neg h', if_pos hj, if_neg (by simp -implicitDefEqProofs [hs])]; exact ⟨rfl, rfl, rfl⟩
 ·unfold a2q; rw [if_neg h, if_neg h', if_pos hj, if_pos hs]; exact ⟨rfl, rfl, rfl⟩
def a6p : Con := .fn 42 (RepoD × Str × Str × Int) (fun a => [a0Y a.1, .str a.2.1, .str a.2.2.1, .int .i64 a.2.2.2]) (fun a => rpSz a.1) (fun a => .tup [.agg [.sl false 3 (a0e (a0K a.1 a.2.1 a.2.2.1 a.2.2.2).1.commits), .sl false 2 (a0c (a0K a.1 a.2.1 a.2.2.1 a.2.2.2).1.heads)], .int .i64 (a0K a.1 a.2.1 a.2.2.1 a.2.2.2).2]) (fun _ => [])
theorem a9r : Has Tryz.prog 54 a6p := by
 refine a0d mixed a0B (HasL.cons a3J (HasL.cons a3I (HasL.cons a4s (HasL.cons a4K (HasL.cons a3k (HasL.cons b8I HasL.nil)))))) [0, 1, 2, 3, 4, 8, 9] ((fun a n (_ : Nat) => (fun _ => a0s) a n)) [] Tryz.func54 (by unfold Tryz.f54; rfl) (fun _ => ⟨(), trivial⟩) ?_
 intro a ha
 obtain ⟨r, n, w, b⟩ := a
 replace ha : rpSz r := ha
 simp -implicitDefEqProofs [a6p, a5k, a5j, a4U, a6m, a3Y, b1G, Con.fn, a0G, tTab, a0t]
 try dsimp only
 simp -implicitDefEqProofs only [and_assoc, exists_eq_left, exists_and_left, RepoD.ex1, RepoD.eta]
 have e0 : a0f r = false -> a0K r n w b = (noR, 1) := fun h => by unfold a0K; rw [if_neg (by simp -implicitDefEqProofs [h])]
 have e1 : a0f r = true -> (atL r.heads n < 0 \/ a1a w = false \/ ¬ (0 <= b /\ b < r.commits.length)) -> a0K r n w b = (r, 1) := fun h h' => by unfold a0K; rw [if_pos h, if_pos h']
 have e2 : a0f r = true -> ¬ (atL r.heads n < 0 \/ a1a w = false \/ ¬ (0 <= b /\ b < r.commits.length)) -> a0K r n w b = a2q r n w b := fun h h' => by unfold a0K; rw [if_pos h, if_neg h']
 have hr1 : r.commits.length <= 1048576 := ha.1
 refine ⟨by omega, fun h => by rw [e0 h]; exact ⟨rfl, rfl, rfl⟩, fun h => ⟨fun hn => ⟨ha, by rw [e1 h (.inl hn)]; exact ⟨rfl, rfl, rfl⟩⟩, fun hn => ⟨fun hw => ⟨ha, by rw [e1 h (.inr (.inl hw))]; exact ⟨rfl, rfl, rfl⟩⟩, fun hw _ => ⟨by omega, by omega, fun _ _ => ⟨fun hb => ⟨ha, by rw [e1 h (.inr (.inr (by omega)))]; exact ⟨rfl, rfl, rfl⟩⟩, fun hb hb' => ⟨ha, h, hn, hb, by omega, ?_⟩⟩⟩⟩⟩⟩
 rw [e2 h (by rintro (q | q | q); omega; rw [hw] at q; cases q; omega)]; exact ⟨rfl, rfl, rfl⟩
def a7i : Con := .fn 26 (RepoD × Int) (fun a => [a0Y a.1, .int .i64 a.2]) (fun a => a0f a.1 = true /\ 0 <= a.2 /\ a.2 < a.1.commits.length) (fun a => .sl true 2 (a0b (a2r a.1 a.2))) (fun _ => [])
theorem b0c : Has Tryz.prog 168 a7i := by
 refine a0d mixed a0B HasL.nil [0, 1, 2, 4] ((fun a n (_ : Nat) => (fun _ => a0s) a n)) [] Tryz.func168 (by unfold Tryz.f168; rfl) (fun _ => ⟨(), trivial⟩) ?_
 intro a ha
 obtain ⟨r, c⟩ := a
 obtain ⟨h1, h2, h3⟩ : a0f r = true /\ 0 <= c /\ c < r.commits.length := ha
 simp -implicitDefEqProofs [a7i, Con.fn, a0G, tTab, a0t]
 try dsimp only
 simp -implicitDefEqProofs only [and_assoc, exists_eq_left, exists_and_left, RepoD.ex1, RepoD.eta]
 have cg := cget (r := r) h2 h3
 have hp : a2r r c = match (r.commits.getD c.toNat default).parents with | [] => [] | p :: _ => a0o r p := rfl
 have hmem : ∀ p ∈ (r.commits.getD c.toNat default).parents, 0 <= p /\ p < r.commits.length := fun p hp => by
  have hc : c.toNat < r.commits.length := by omega
  have := (a2P (r := r) (by rw [a0A]; exact h1) hc).2.1 p (by simpa [List.getD_eq_getElem?_getD, hc] using hp)
  omega
 have hl : (r.commits.getD c.toNat default).parents.length <= 1000 := by
  have hc : c.toNat < r.commits.length := by omega
  have := (a2P (r := r) (by rw [a0A]; exact h1) hc).1
  simpa [List.getD_eq_getElem?_getD, hc] using by omega
 rw [cg]
 generalize (r.commits.getD c.toNat default).parents = P at *
 cases P with
 | nil => simp -implicitDefEqProofs [D.asRows, hp]; omega
 | cons p P =>
  have hq := hmem p (by simp)
  have cp := cget hq.1 hq.2
  have hp : a2r r c = a0o r p := hp
  simp -implicitDefEqProofs [D.asRows, hp, a0h, eInt, D.asInt, cp]
  exact ⟨h2, h3, fun _ _ _ => ⟨h2, h3, fun _ _ => hq⟩⟩
def b0G : Con := .fn 48 (RepoD × Str × Str × List FileD × List FileD) (fun a => [a0Y a.1, .str a.2.1, .str a.2.2.1, .sl true 2 (a0b a.2.2.2.1), .sl true 2 (a0b a.2.2.2.2)]) (fun a => a0f a.1 = true /\ 0 <= atL a.1.heads a.2.1 /\ a0W a.2.2.2.1 = true /\ a0W a.2.2.2.2 = true) (fun a => .tup [.agg [.sl false 3 (a0e (a2y a.1 a.2.1 a.2.2.1 a.2.2.2.1 a.2.2.2.2).1.commits), .sl false 2 (a0c (a2y a.1 a.2.1 a.2.2.1 a.2.2.2.1 a.2.2.2.2).1.heads)], .int .i64 (a2y a.1 a.2.1 a.2.2.1 a.2.2.2.1 a.2.2.2.2).2]) (fun _ => [])
theorem b2S : Has Tryz.prog 167 b0G := by
 refine a0d mixed a0B (HasL.cons a3I (HasL.cons b2Y (HasL.cons b0d (HasL.cons a3J HasL.nil)))) [0, 1, 2, 3, 4, 5, 10, 11, 12, 13, 14, 15] ((fun a n (_ : Nat) => (fun _ => a0s) a n)) [] Tryz.func167 (by unfold Tryz.f167; rfl) (fun _ => ⟨(), trivial⟩) ?_
 intro a ha
 obtain ⟨r, n, w, o, b⟩ := a
 obtain ⟨h1, h2, h3, h4⟩ : a0f r = true /\ 0 <= atL r.heads n /\ a0W o = true /\ a0W b = true := ha
 simp -implicitDefEqProofs [b0G, a5j, b0J, a9F, a5k, Con.fn, a0G, tTab, a0t]
 try dsimp only
 simp -implicitDefEqProofs only [and_assoc, exists_eq_left, exists_and_left, RepoD.ex1, RepoD.eta]
 obtain ⟨k1, k2, k3⟩ := a9c h1
 have hat := a9z (n := n) ((a0Q r).1 h1).2.1
 have ga := cget (r := r) (c := atL r.heads n) h2 (by omega)
 rw [ga]
 simp -implicitDefEqProofs [D.asRows]
 have hlen : ∀ c, (addR r n c).commits.length <= 1073741824 := fun c => by simp -implicitDefEqProofs [addR]; omega
 refine ⟨h2, by omega, fun _ _ => ⟨a2v h3, a2v (a2I h1 _), a2v h4, fun _ => ⟨fun hj => ?_, fun hj => ⟨⟨[atL r.heads n], w, (a1n o (a0o r (atL r.heads n)) b).1⟩, rfl, rfl, rfl, k1, k3, hlen _, fun hs => ?_, fun hs => ?_⟩⟩⟩⟩
 ·unfold a2y; rw [if_neg (by intro e; rw [e] at hj; simp at hj)]; exact ⟨rfl, rfl, rfl⟩
 ·unfold a2y; rw [if_pos hj, if_neg (by simp -implicitDefEqProofs [hs])]; exact ⟨rfl, rfl, rfl⟩
 ·unfold a2y; rw [if_pos hj, if_pos hs]; exact ⟨rfl, rfl, rfl⟩
def b3Q : Con := .fn 52 (RepoD × Str × Str × Int) (fun a => [a0Y a.1, .str a.2.1, .str a.2.2.1, .int .i64 a.2.2.2]) (fun a => rpSz a.1) (fun a => .tup [.agg [.sl false 3 (a0e (a1t false a.1 a.2.1 a.2.2.1 a.2.2.2).1.commits), .sl false 2 (a0c (a1t false a.1 a.2.1 a.2.2.1 a.2.2.2).1.heads)], .int .i64 (a1t false a.1 a.2.1 a.2.2.1 a.2.2.2).2]) (fun _ => [])
theorem c1v : Has Tryz.prog 128 b3Q := by
 refine a0d mixed a0B (HasL.cons a3J (HasL.cons a3I (HasL.cons a4s (HasL.cons a4K (HasL.cons a3k (HasL.cons b0c (HasL.cons b2S HasL.nil))))))) [0, 1, 2, 3, 4, 8, 9, 10] ((fun a n (_ : Nat) => (fun _ => a0s) a n)) [] Tryz.func128 (by unfold Tryz.f128; rfl) (fun _ => ⟨(), trivial⟩) ?_
 intro a ha
 obtain ⟨r, n, w, b⟩ := a
 replace ha : rpSz r := ha
 simp -implicitDefEqProofs [b3Q, a5k, a5j, a4U, a6m, a3Y, a7i, b0G, Con.fn, a0G, tTab, a0t]
 try dsimp only
 simp -implicitDefEqProofs only [and_assoc, exists_eq_left, exists_and_left, RepoD.ex1, RepoD.eta]
 have e0 : a0f r = false -> a1t false r n w b = (noR, 1) := fun h => by unfold a1t; rw [if_neg (by simp -implicitDefEqProofs [h])]
 have e1 : a0f r = true -> (atL r.heads n < 0 \/ a1a w = false \/ ¬ (0 <= b /\ b < r.commits.length)) -> a1t false r n w b = (r, 1) := fun h h' => by unfold a1t; rw [if_pos h, if_pos h']
 have e2 : a0f r = true -> ¬ (atL r.heads n < 0 \/ a1a w = false \/ ¬ (0 <= b /\ b < r.commits.length)) -> a1t false r n w b = a2y r n w (a2r r b) (a0o r b) := fun h h' => by unfold a1t; rw [if_pos h, if_neg h']; rfl
 have hr1 : r.commits.length <= 1048576 := ha.1
 refine ⟨by omega, fun h => by rw [e0 h]; exact ⟨rfl, rfl, rfl⟩, fun h => ⟨fun hn => ⟨ha, by rw [e1 h (.inl hn)]; exact ⟨rfl, rfl, rfl⟩⟩, fun hn => ⟨fun hw => ⟨ha, by rw [e1 h (.inr (.inl hw))]; exact ⟨rfl, rfl, rfl⟩⟩, fun hw _ => ⟨by omega, by omega, fun _ _ => ⟨fun hb => ⟨ha, by rw [e1 h (.inr (.inr (by omega)))]; exact ⟨rfl, rfl, rfl⟩⟩, fun hb hb' => ?_⟩⟩⟩⟩⟩
 rw [e2 h (by rintro (q | q | q); omega; rw [hw] at q; cases q; omega)]
 have cb := cget hb (show b < r.commits.length by omega)
 have s1 := a2I h b
 have s2 := a9w h b
 rw [cb]
 simp -implicitDefEqProofs [D.asRows, h, hn, hb, s1, s2, show b < r.commits.length by omega, show rpSz r from ha]
def a9G : Con := .fn 52 (RepoD × Str × Str × Int) (fun a => [a0Y a.1, .str a.2.1, .str a.2.2.1, .int .i64 a.2.2.2]) (fun a => rpSz a.1) (fun a => .tup [.agg [.sl false 3 (a0e (a1t true a.1 a.2.1 a.2.2.1 a.2.2.2).1.commits), .sl false 2 (a0c (a1t true a.1 a.2.1 a.2.2.1 a.2.2.2).1.heads)], .int .i64 (a1t true a.1 a.2.1 a.2.2.1 a.2.2.2).2]) (fun _ => [])
theorem b7z : Has Tryz.prog 129 a9G := by
 refine a0d mixed a0B (HasL.cons a3J (HasL.cons a3I (HasL.cons a4s (HasL.cons a4K (HasL.cons a3k (HasL.cons b0c (HasL.cons b2S HasL.nil))))))) [0, 1, 2, 3, 4, 8, 9, 10] ((fun a n (_ : Nat) => (fun _ => a0s) a n)) [] Tryz.func129 (by unfold Tryz.f129; rfl) (fun _ => ⟨(), trivial⟩) ?_
 intro a ha
 obtain ⟨r, n, w, b⟩ := a
 replace ha : rpSz r := ha
 simp -implicitDefEqProofs [a9G, a5k, a5j, a4U, a6m, a3Y, a7i, b0G, Con.fn, a0G, tTab, a0t]
 try dsimp only
 simp -implicitDefEqProofs only [and_assoc, exists_eq_left, exists_and_left, RepoD.ex1, RepoD.eta]
 have e0 : a0f r = false -> a1t true r n w b = (noR, 1) := fun h => by unfold a1t; rw [if_neg (by simp -implicitDefEqProofs [h])]
 have e1 : a0f r = true -> (atL r.heads n < 0 \/ a1a w = false \/ ¬ (0 <= b /\ b < r.commits.length)) -> a1t true r n w b = (r, 1) := fun h h' => by unfold a1t; rw [if_pos h, if_pos h']
 have e2 : a0f r = true -> ¬ (atL r.heads n < 0 \/ a1a w = false \/ ¬ (0 <= b /\ b < r.commits.length)) -> a1t true r n w b = a2y r n w (a0o r b) (a2r r b) := fun h h' => by unfold a1t; rw [if_pos h, if_neg h']; rfl
 have hr1 : r.commits.length <= 1048576 := ha.1
 refine ⟨by omega, fun h => by rw [e0 h]; exact ⟨rfl, rfl, rfl⟩, fun h => ⟨fun hn => ⟨ha, by rw [e1 h (.inl hn)]; exact ⟨rfl, rfl, rfl⟩⟩, fun hn => ⟨fun hw => ⟨ha, by rw [e1 h (.inr (.inl hw))]; exact ⟨rfl, rfl, rfl⟩⟩, fun hw _ => ⟨by omega, by omega, fun _ _ => ⟨fun hb => ⟨ha, by rw [e1 h (.inr (.inr (by omega)))]; exact ⟨rfl, rfl, rfl⟩⟩, fun hb hb' => ?_⟩⟩⟩⟩⟩
 rw [e2 h (by rintro (q | q | q); omega; rw [hw] at q; cases q; omega)]
 have cb := cget hb (show b < r.commits.length by omega)
 have s1 := a2I h b
 have s2 := a9w h b
 rw [cb]
 simp -implicitDefEqProofs [D.asRows, h, hn, hb, s1, s2, show b < r.commits.length by omega, show rpSz r from ha]
--TAB a0G
def opSz (o : OpD) : Prop := o.path.length <= 1048576 /\ o.to_.length <= 1048576 /\ o.text.length <= 1048576
def b1B : Con := .fn 29 (RepoD × OpD × (List FileD × Bool)) (fun a => [a0Y a.1, vOp a.2.1, .sl true 2 (a0b a.2.2.1), .bool a.2.2.2]) (fun a => rpSz a.1 /\ a.2.2.1.length <= 1048576 /\ ∀ f ∈ a.2.2.1, f.text.length <= 1048576) (fun a => .tup [.agg [.sl false 3 (a0e (a1w a.1 a.2.1 a.2.2).1.commits), .sl false 2 (a0c (a1w a.1 a.2.1 a.2.2).1.heads)], .int .i64 (a1w a.1 a.2.1 a.2.2).2]) (fun _ => [])
theorem b8D : Has Tryz.prog 124 b1B := by
 refine a0d mixed a0B (HasL.cons b4q HasL.nil) [0, 1, 2, 3, 4, 5, 8, 9, 10, 11] ((fun a n (_ : Nat) => (fun _ => a0s) a n)) [] Tryz.func124 (by unfold Tryz.f124; rfl) (fun _ => ⟨(), trivial⟩) ?_
 intro a ha
 obtain ⟨r, o, t, k⟩ := a
 obtain ⟨h1, h2, h3⟩ : rpSz r /\ t.length <= 1048576 /\ ∀ f ∈ t, f.text.length <= 1048576 := ha
 simp (maxSteps := 8000000) -implicitDefEqProofs [-kStep_move, -Bool.exists_bool, b1B, a7D, Con.fn, a0G, tTab, a0t, bOp]
 try dsimp only
 simp -implicitDefEqProofs only [and_assoc, exists_eq_left, exists_and_left, RepoD.ex1, RepoD.eta, OpD.ex1, OpD.eta]
 refine ⟨fun h => ?_, fun h => ⟨h1, h2, h3, fun h' => ?_, fun h' => ?_⟩⟩
 ·unfold a1w; rw [if_neg (by simp -implicitDefEqProofs [h])]; exact ⟨rfl, rfl, rfl⟩
 ·unfold a1w; rw [if_pos h, if_neg (by simp -implicitDefEqProofs [h'])]; exact ⟨rfl, rfl, rfl⟩
 ·unfold a1w; rw [if_pos h, if_pos h']; exact ⟨rfl, rfl, rfl⟩
theorem a9q {t : List FileD} (h : a0W t = true) (f : FileD) : a0W (a2f t f).1 = true := by
 unfold a2f
 rw [if_pos h]
 split
 ·assumption
 ·exact h
theorem a8n {t : List FileD} (h : a0W t = true) (p to : Str) : a0W (a1A t p to).1 = true := by
 unfold a1A
 rw [if_pos h]
 split
 ·exact h
 ·split
  ·exact h
  ·rename_i q
   cases q2 : a0W (mvFs p to (filB (a1l p) t) t) with
   | true => rfl
   | false => exact absurd (.inl q2) q
theorem a7d {t : List FileD} (h : a0W t = true) (p : Str) : szT (a2i t p).1 := by
 unfold a2i filB
 rw [if_pos h]
 obtain ⟨h1, h2⟩ := a2v h
 exact ⟨Nat.le_trans (List.length_filter_le _ _) h1, fun f hf => h2 f (List.mem_filter.1 hf).1⟩
theorem a6y {t : List FileD} (h : a0W t = true) : ∀ f ∈ t, f.path.length <= 20 := fun f hf => (a4a (by rw [a2t]; exact h) f hf).1.2
theorem a4I {t : List FileD} (h : szT t) : t.length <= 1048576 /\ ∀ f ∈ t, f.text.length <= 1048576 := ⟨by have := h.1; omega, fun f hf => by have := h.2 f hf; omega⟩
theorem a7J {r : RepoD} (h : a0f r = true) (n : Str) : a0W (a1z r n) = true := by
 unfold a1z
 split
 ·exact a2I h _
 ·rfl
def b2u : Con := .fn 134 (RepoD × OpD) (fun a => [a0Y a.1, vOp a.2]) (fun a => a0f a.1 = true /\ opSz a.2) (fun a => .tup [.agg [.sl false 3 (a0e (do19 a.1 a.2).1.commits), .sl false 2 (a0c (do19 a.1 a.2).1.heads)], .int .i64 (do19 a.1 a.2).2]) (fun _ => [])
theorem b4J : Has Tryz.prog 82 b2u := by
 refine a0d mixed a0B (HasL.cons a3I (HasL.cons b7W (HasL.cons b5y (HasL.cons b5A (HasL.cons b8D (HasL.cons b4o (HasL.cons a9r (HasL.cons c1v (HasL.cons b7z HasL.nil))))))))) [0, 1, 2, 3, 4, 5, 6, 7, 8, 9, 10, 11, 12, 13, 14, 15, 30] ((fun a n (_ : Nat) => (fun _ => a0s) a n)) [] Tryz.func82 (by unfold Tryz.f82; rfl) (fun _ => ⟨(), trivial⟩) ?_
 intro a ha
 obtain ⟨r, o⟩ := a
 obtain ⟨h1, h2, h3, h4⟩ : a0f r = true /\ opSz o := ha
 simp (maxSteps := 8000000) -implicitDefEqProofs [-kStep_move, -Bool.exists_bool, b2u, a5j, a9L, a8G, a8I, b1B, a7C, a6p, b3Q, a9G, Con.fn, a0G, tTab, a0t, bOp]
 try dsimp only
 simp -implicitDefEqProofs only [and_assoc, exists_eq_left, exists_and_left, RepoD.ex1, RepoD.eta, OpD.ex1, OpD.eta]
 have hsz := a9c h1
 have hat := a9z (n := o.branch) ((a0Q r).1 h1).2.1
 have hT := a7J h1 o.branch
 have e1 : o.kind = 1 -> do19 r o = a1w r o (a2f (a1z r o.branch) ⟨o.path, o.text⟩) := fun h => by unfold do19; rw [if_pos h]
 have e2 : o.kind = 2 -> do19 r o = a1w r o (a2i (a1z r o.branch) o.path) := fun h => by unfold do19; rw [if_neg (by omega), if_pos h]
 have e3 : o.kind = 3 -> do19 r o = a1w r o (a1A (a1z r o.branch) o.path o.to_) := fun h => by unfold do19; rw [if_neg (by omega), if_neg (by omega), if_pos h]
 have e4 : o.kind = 4 -> (a0u r o.to_ (atL r.heads o.branch)).2 = true -> do19 r o = ((a0u r o.to_ (atL r.heads o.branch)).1, 0) := fun h h' => by unfold do19; rw [if_neg (by omega), if_neg (by omega), if_neg (by omega), if_pos h, if_pos h']
 have e4' : o.kind = 4 -> (a0u r o.to_ (atL r.heads o.branch)).2 = false -> do19 r o = (r, 1) := fun h h' => by unfold do19; rw [if_neg (by omega), if_neg (by omega), if_neg (by omega), if_pos h, if_neg (by simp -implicitDefEqProofs [h'])]
 have e5 : o.kind = 5 -> do19 r o = a0K r o.branch o.who (atL r.heads o.to_) := fun h => by unfold do19; rw [if_neg (by omega), if_neg (by omega), if_neg (by omega), if_neg (by omega), if_pos h]
 have e6 : o.kind = 6 -> do19 r o = a1t false r o.branch o.who o.at_ := fun h => by unfold do19; rw [if_neg (by omega), if_neg (by omega), if_neg (by omega), if_neg (by omega), if_neg (by omega), if_pos h]
 have e7 : ¬ o.kind = 1 -> ¬ o.kind = 2 -> ¬ o.kind = 3 -> ¬ o.kind = 4 -> ¬ o.kind = 5 -> ¬ o.kind = 6 -> do19 r o = a1t true r o.branch o.who o.at_ := fun k1 k2 k3 k4 k5 k6 => by unfold do19; rw [if_neg k1, if_neg k2, if_neg k3, if_neg k4, if_neg k5, if_neg k6]
 have s1 := a4I (a2v (a9q hT ⟨o.path, o.text⟩))
 have s2 := a4I (a7d hT o.path)
 have s3 := a4I (a2v (a8n hT o.path o.to_))
 have s0 := a2v hT
 have sp := a6y hT
 have sp : ∀ f ∈ a1z r o.branch, f.path.length <= 1048576 := fun f hf => by have := sp f hf; omega
 have sl : (a1z r o.branch).length <= 1048575 := by have := s0.1; omega
 have st := (a4I s0).2
 refine ⟨fun hp => ⟨hp, by omega, fun _ _ => ?_⟩, fun hn => ?_⟩
 ·have ca := cget (r := r) hp (by omega)
  have eT : a0o r (atL r.heads o.branch) = a1z r o.branch := by unfold a1z; rw [if_pos hp]
  rw [ca, eT]
  simp -implicitDefEqProofs [D.asRows]
  exact ⟨fun h => ⟨sl, st, h4, hsz, s1.1, s1.2, by rw [e1 h]; exact ⟨rfl, rfl, rfl⟩⟩, fun k1 => ⟨fun h => ⟨(a4I s0).1, st, hsz, s2.1, s2.2, by rw [e2 h]; exact ⟨rfl, rfl, rfl⟩⟩, fun k2 => ⟨fun h => ⟨(a4I s0).1, st, h3, sp, hsz, s3.1, s3.2, by rw [e3 h]; exact ⟨rfl, rfl, rfl⟩⟩, fun k3 => ⟨fun h => ⟨hsz, fun h' => by rw [e4' h h']; exact ⟨rfl, rfl, rfl⟩, fun h' => by rw [e4 h h']; exact ⟨rfl, rfl, rfl⟩⟩, fun k4 => ⟨fun h => ⟨hsz, by rw [e5 h]; exact ⟨rfl, rfl, rfl⟩⟩, fun k5 => ⟨fun h => ⟨hsz, by rw [e6 h]; exact ⟨rfl, rfl, rfl⟩⟩, fun k6 => ⟨hsz, by rw [e7 k1 k2 k3 k4 k5 k6]; exact ⟨rfl, rfl, rfl⟩⟩⟩⟩⟩⟩⟩⟩
 ·have eT : a1z r o.branch = [] := by unfold a1z; rw [if_neg (by omega)]
  simp -implicitDefEqProofs only [FileD.ex1]
  rw [<- eT]
  exact ⟨fun h => ⟨sl, st, h4, hsz, s1.1, s1.2, by rw [e1 h]; exact ⟨rfl, rfl, rfl⟩⟩, fun k1 => ⟨fun h => ⟨(a4I s0).1, st, hsz, s2.1, s2.2, by rw [e2 h]; exact ⟨rfl, rfl, rfl⟩⟩, fun k2 => ⟨fun h => ⟨(a4I s0).1, st, h3, sp, hsz, s3.1, s3.2, by rw [e3 h]; exact ⟨rfl, rfl, rfl⟩⟩, fun k3 => ⟨fun h => ⟨hsz, fun h' => by rw [e4' h h']; exact ⟨rfl, rfl, rfl⟩, fun h' => by rw [e4 h h']; exact ⟨rfl, rfl, rfl⟩⟩, fun k4 => ⟨fun h => ⟨hsz, by rw [e5 h]; exact ⟨rfl, rfl, rfl⟩⟩, fun k5 => ⟨fun h => ⟨hsz, by rw [e6 h]; exact ⟨rfl, rfl, rfl⟩⟩, fun k6 => ⟨hsz, by rw [e7 k1 k2 k3 k4 k5 k6]; exact ⟨rfl, rfl, rfl⟩⟩⟩⟩⟩⟩⟩⟩
def rpI (l : List OpD) : Inv := ⟨Nat, fun i => ⟨[(0, true, .sl true 7 (eOps l)), (2, true, .ptr 10 0), (3, true, .ptr 11 0), (4, true, .int .i64 i)], [(10, a6k), (11, .box 32 [.sl false 3 (a0e (a2k (l.take i)).commits), .sl false 2 (a0c (a2k (l.take i)).heads)])]⟩, fun i => i <= l.length /\ i <= 30, fun i => l.length - i⟩
def a6o : Con := .fn 34 (List OpD) (fun l => [.sl true 7 (eOps l)]) (fun l => ∀ o ∈ l, opSz o) (fun l => .agg [.sl false 3 (a0e (a2Z l).commits), .sl false 2 (a0c (a2Z l).heads)]) (fun _ => [])
theorem a9p : Has Tryz.prog 35 a6o := by
 refine a0d mixed a0B (HasL.cons b4K (HasL.cons b4J HasL.nil)) [0, 2, 3, 4, 5] ((fun a n (_ : Nat) => (fun l _ => rpI l) a n)) [12287] Tryz.func35 (by unfold Tryz.f35; rfl) (fun _ => ⟨(), trivial⟩) ?_
 intro (l : List OpD) (ha : ∀ o ∈ l, opSz o)
 simp (maxSteps := 8000000) -implicitDefEqProofs [-kStep_move, -Bool.exists_bool, a6o, b2v, b2u, Con.fn, a0G, tTab, rpI]
 try dsimp only
 simp -implicitDefEqProofs only [and_assoc, exists_eq_left, exists_and_left, RepoD.ex1, RepoD.eta, OpD.ex1, OpD.eta]
 refine ⟨rfl, rfl, Nat.zero_le _, Nat.zero_le _, fun t ht h30 _ => ⟨fun hlt h30' => ⟨hlt, fun _ => ?_⟩, ?_⟩⟩
 ·have qq : Option.map eOp l[t]? = some (eOp l[t]) := by simp -implicitDefEqProofs [hlt]
  have hs := b3h hlt
  have hok := (a4M (l.take t)).1
  have ho := ha l[t] (List.getElem_mem hlt)
  rw [qq]
  generalize a2k (l.take t) = R at *
  generalize l[t] = o at *
  simp -implicitDefEqProofs [eOp, D.asInt, D.asStr, D.asRows]
  refine ⟨ho.2.2, fun hb => ⟨hlt, fun _ => ⟨hok, ho, by omega, by omega, fun _ _ => ⟨t + 1, by omega, by rw [hs, if_pos hb], by rw [hs, if_pos hb], by omega, by omega, by omega⟩⟩⟩, fun hb => ⟨by omega, by omega, fun _ _ => ⟨t + 1, by omega, by rw [hs, if_neg (by simp -implicitDefEqProofs [hb])], by rw [hs, if_neg (by simp -implicitDefEqProofs [hb])], by omega, by omega, by omega⟩⟩⟩
 ·intro h
  have e : a2Z l = a2k (l.take t) := by
   unfold a2Z
   rcases Nat.lt_or_ge t l.length with h1 | h1
   ·have := h h1
    have : t = 30 := by omega
    rw [this]
   ·rw [List.take_of_length_le h1, List.take_of_length_le (by omega)]
  rw [e]; exact ⟨rfl, rfl⟩
def a6O : Con := .fn 21 (RepoD × OpD) (fun a => [a0Y a.1, vOp a.2]) (fun a => rpSz a.1 /\ opSz a.2) (fun a => .tup [.agg [.sl false 3 (a0e (a0i a.1 a.2).1.commits), .sl false 2 (a0c (a0i a.1 a.2).1.heads)], .int .i64 (a0i a.1 a.2).2]) (fun _ => [])
theorem a7I : Has Tryz.prog 38 a6O := by
 refine a0d mixed a0B (HasL.cons a3J (HasL.cons a3k (HasL.cons b4K (HasL.cons b4J HasL.nil)))) [0, 1, 2, 3, 4, 5] ((fun a n (_ : Nat) => (fun _ => a0s) a n)) [] Tryz.func38 (by unfold Tryz.f38; rfl) (fun _ => ⟨(), trivial⟩) ?_
 intro a ha
 obtain ⟨r, o⟩ := a
 obtain ⟨h1, h2⟩ : rpSz r /\ opSz o := ha
 simp (maxSteps := 8000000) -implicitDefEqProofs [-kStep_move, -Bool.exists_bool, a6O, a5k, a3Y, b2v, b2u, Con.fn, a0G, tTab, a0t, bOp]
 try dsimp only
 simp -implicitDefEqProofs only [and_assoc, exists_eq_left, exists_and_left, RepoD.ex1, RepoD.eta, OpD.ex1, OpD.eta]
 have hr1 : r.commits.length <= 1048576 := h1.1
 have e0 : a0f r = false -> a0i r o = (noR, 1) := fun h => by unfold a0i; rw [if_neg (by simp -implicitDefEqProofs [h])]
 have e1 : a0f r = true -> opB o = false -> a0i r o = (r, 1) := fun h h' => by unfold a0i; rw [if_pos h, if_neg (by simp -implicitDefEqProofs [h'])]
 have e2 : a0f r = true -> opB o = true -> a0i r o = do19 r o := fun h h' => by unfold a0i; rw [if_pos h, if_pos h']
 exact ⟨by omega, fun h => by rw [e0 h]; exact ⟨rfl, rfl, rfl⟩, fun h => ⟨h2.2.2, fun h' => ⟨h1, by rw [e1 h h']; exact ⟨rfl, rfl, rfl⟩⟩, fun h' => ⟨h1, h, h2, by rw [e2 h h']; exact ⟨rfl, rfl, rfl⟩⟩⟩⟩
def b1w : Con := { A := Str × Int, X := Str, n := 6, args := fun _ => [.ptr 0 0], boxes := fun a => [(0, 140, [.sl true 1 (a1g a.1), .int .i64 a.2])], pre := fun a => a.1.length <= 2000 /\ 0 <= a.2 /\ a.2 <= 1073741800, post := fun _ x => x.length <= 4, res := fun _ x => .str x, fin := fun a _ => [(0, a3m a.1 (a.2 + 1))], nob := false }
theorem b8h : Has Tryz.prog 160 b1w := by
 refine a0d mixed a0g (HasL.cons of_has HasL.nil) [0, 2] ((fun a n (_ : Nat) => (fun _ => a0s) a n)) [] Tryz.func160 (by unfold Tryz.f160; rfl) (fun _ => ⟨([] : Str), Nat.zero_le 4⟩) ?_
 intro a ha
 obtain ⟨s, p⟩ := a
 obtain ⟨h1, h2, h3⟩ : s.length <= 2000 /\ 0 <= p /\ p <= 1073741800 := ha
 simp -implicitDefEqProofs [b1w, cOf, tTab, a1L, clash, kd, a2x, a2M]
 exact ⟨s, p, ⟨rfl, rfl⟩, ⟨h1, by omega, by omega⟩, by simp⟩
def a6T (o : OpD) : Prop := (1 <= o.kind /\ o.kind <= 7) /\ o.branch.length <= 4 /\ o.who.length <= 3 /\ o.path.length <= 5 /\ o.to_.length <= 5 /\ (0 <= o.at_ /\ o.at_ <= 9) /\ o.text.length <= 8 /\ ∀ s ∈ o.text, s.length <= 7
def cOpD : Con := { A := Str × Int, X := OpD × Int, n := 63, args := fun _ => [.ptr 0 0], boxes := fun a => [(0, 140, [.sl true 1 (a1g a.1), .int .i64 a.2])], pre := fun a => a.1.length <= 2000 /\ 0 <= a.2 /\ a.2 <= 1073741500, post := fun a x => a6T x.1 /\ a.2 <= x.2 /\ x.2 <= a.2 + 20, res := fun _ x => .agg [.int .i64 x.1.kind, .str x.1.branch, .str x.1.who, .str x.1.path, .str x.1.to_, .int .i64 x.1.at_, .own 8 1 (a0a x.1.text)], fin := fun a x => (0, a3m a.1 x.2) :: a1Y 8 x.1.text, nob := false }
theorem b9B : Has Tryz.prog 119 cOpD := by
 refine a0d mixed a0g (HasL.cons b8h (HasL.cons of_has (HasL.cons a4L (HasL.cons c6t (HasL.cons c6V HasL.nil))))) [0, 2, 3, 11, 34, 42] ((fun a n (_ : Nat) => (fun _ => a0s) a n)) [] Tryz.func119 (by unfold Tryz.f119; rfl) (fun a => ⟨((⟨1, [], [], [], [], 0, []⟩ : OpD), a.2), (by simp -implicitDefEqProofs [a6T]), Int.le_refl _, by omega⟩) ?_
 intro a ha
 obtain ⟨s, p⟩ := a
 obtain ⟨h1, h2, h3⟩ : s.length <= 2000 /\ 0 <= p /\ p <= 1073741500 := ha
 simp (maxSteps := 8000000) -implicitDefEqProofs [-kStep_move, -Bool.exists_bool, cOpD, b1w, cOf, a6n, c0n, c0o, tTab, a1L, clash, kd, a2x, a2M]
 have fin : ∀ (k : Int) (b w pa t : Str) (i : Int) (q : Int), (1 <= k /\ k <= 7) -> b.length <= 4 -> w.length <= 3 -> pa.length <= 5 -> t.length <= 5 -> (0 <= i /\ i <= 9) -> (p <= q /\ q <= p + 20) -> ∃ (a : OpD) (c : Int), (a6T a /\ p <= c /\ c <= p + 20) /\ (a.kind = k /\ a.branch = b /\ a.who = w /\ a.path = pa /\ a.to_ = t /\ a.at_ = i /\ a.text = []) /\ (s = s /\ c = q) /\ a.text = [] :=
  fun k b w pa t i q h1 h2 h3 h4 h5 h6 h7 => ⟨⟨k, b, w, pa, t, i, []⟩, q, ⟨⟨h1, h2, h3, h4, h5, h6, Nat.zero_le _, by simp⟩, h7⟩, ⟨rfl, rfl, rfl, rfl, rfl, rfl, rfl⟩, ⟨rfl, rfl⟩, rfl⟩
 have fin2 : ∀ (k : Int) (b w pa t : Str) (i : Int) (l : List Str) (q : Int), (1 <= k /\ k <= 7) -> b.length <= 4 -> w.length <= 3 -> pa.length <= 5 -> t.length <= 5 -> (0 <= i /\ i <= 9) -> (l.length <= 8) -> (∀ s ∈ l, s.length <= 7) -> (p <= q /\ q <= p + 20) -> ∃ (a : OpD) (c : Int), (a6T a /\ p <= c /\ c <= p + 20) /\ (a.kind = k /\ a.branch = b /\ a.who = w /\ a.path = pa /\ a.to_ = t /\ a.at_ = i /\ a.text = l) /\ (s = s /\ c = q) /\ l = a.text :=
  fun k b w pa t i l q h1 h2 h3 h4 h5 h6 g1 g2 h7 => ⟨⟨k, b, w, pa, t, i, l⟩, q, ⟨⟨h1, h2, h3, h4, h5, h6, g1, g2⟩, h7⟩, ⟨rfl, rfl, rfl, rfl, rfl, rfl, rfl⟩, ⟨rfl, rfl⟩, rfl⟩
 repeat' (first
  | intro _
  | refine ⟨_, _, ⟨rfl, rfl⟩, ⟨h1, by omega, by omega⟩, ?_⟩
  | exact fin _ _ _ _ _ _ _ (by omega) (by first | assumption | omega | decide) (by first | assumption | omega | decide) (by first | assumption | omega | decide) (by first | assumption | omega | decide) (by omega) (by omega)
  | exact fin2 _ _ _ _ _ _ _ _ (by omega) (by first | assumption | omega | decide) (by first | assumption | omega | decide) (by first | assumption | omega | decide) (by first | assumption | omega | decide) (by omega) (by assumption) (by assumption) (by omega)
  | apply And.intro)
def b5F : Con := { A := Str × Int, X := List OpD × Int, n := 19, args := fun _ => [.ptr 0 0], boxes := fun a => [(0, 140, [.sl true 1 (a1g a.1), .int .i64 a.2])], pre := fun a => a.1.length <= 2000 /\ 0 <= a.2 /\ a.2 <= 1073741000, post := fun a x => (x.1.length <= 20 /\ ∀ o ∈ x.1, a6T o) /\ a.2 <= x.2 /\ x.2 <= a.2 + 450, res := fun _ x => .own 8 7 (eOps x.1), fin := fun a x => [(0, a3m a.1 x.2), (8, .own 58 7 true (eOps x.1))], nob := false }
theorem b7r : Has Tryz.prog 79 b5F := by
 refine a0d mixed a0g (HasL.cons one_has (HasL.cons b9B HasL.nil)) [0, 2, 3, 4] ((fun a n (_ : Nat) => (fun a _ => ⟨List OpD × Int × Nat, fun t => ⟨[(0, true, .ptr 0 0), (2, true, .nil), (3, true, .own 9 7 (eOps t.1)), (4, true, .int .i64 t.2.2)], [(0, a3m a.1 t.2.1), (9, .own 58 7 true (eOps t.1))]⟩, fun t => t.1.length + t.2.2 <= 20 /\ (∀ o ∈ t.1, a6T o) /\ a.2 <= t.2.1 /\ t.2.1 + 20 * t.2.2 <= a.2 + 450, fun t => t.2.2⟩) a n)) [] Tryz.func79 (by unfold Tryz.f79; rfl) (fun a => ⟨(([] : List OpD), a.2), ⟨Nat.zero_le _, by simp⟩, Int.le_refl _, by omega⟩) ?_
 intro a ha
 obtain ⟨s, p⟩ := a
 obtain ⟨h1, h2, h3⟩ : s.length <= 2000 /\ 0 <= p /\ p <= 1073741000 := ha
 simp (maxSteps := 8000000) -implicitDefEqProofs [-kStep_move, -Bool.exists_bool, b5F, cOne, cOpD, tTab, a1L, clash, kd, a2x, a2M]
 refine ⟨s, p, [0, 3, 8, 14, 20], rfl, ⟨rfl, rfl⟩, ⟨h1, by omega, by omega, by simp, by simp⟩, fun y hy => ?_⟩
 have hy := hy (by simp)
 have hy2 : 0 <= y /\ y <= 20 := by simp only [List.mem_cons, List.not_mem_nil, or_false] at hy; omega
 refine ⟨⟨[], p + 1, y.toNat, ⟨⟨rfl, by omega⟩, ⟨rfl, rfl⟩, rfl⟩, by simp; omega, by simp, by omega, by omega⟩, fun a q b ga gb gc gd => ⟨fun hb => ⟨s, q, ⟨rfl, rfl⟩, ⟨h1, by omega, by omega⟩, fun o q2 ho g1 g2 => ⟨⟨by omega, by omega⟩, ⟨by omega, by omega⟩, fun _ _ => ⟨a ++ [o], q2, b - 1, ⟨⟨(a7m _ _ _ _ _ _ _ _).symm, by omega⟩, ⟨rfl, rfl⟩, a7m _ _ _ _ _ _ _ _⟩, ⟨by simp; omega, fun x hx => ?_, by omega, by omega⟩, by omega⟩⟩⟩, fun hb => ⟨a, q, ⟨⟨by omega, gb⟩, by omega, by omega⟩, rfl, rfl, rfl⟩⟩⟩
 rcases List.mem_append.1 hx with hx | hx
 ·exact gb x hx
 ·simp at hx; subst hx; exact ho
def b6y : Con := { A := Str × Int, X := RepoD × Int, n := 7, args := fun _ => [.ptr 0 0], boxes := fun a => [(0, 140, [.sl true 1 (a1g a.1), .int .i64 a.2])], pre := fun a => a.1.length <= 2000 /\ 0 <= a.2 /\ a.2 <= 1073740000, post := fun a x => plR x.1 /\ a.2 <= x.2 /\ x.2 <= a.2 + 450, res := fun _ x => .agg [.own 8 3 (a0e x.1.commits), .own 9 2 (a0c x.1.heads)], fin := fun a x => (0, a3m a.1 x.2) :: (a1S 8 x.1.commits ++ a2e 9 x.1.heads), nob := false }
theorem c4c : Has Tryz.prog 113 b6y := by
 refine a0d mixed a0g (HasL.cons b7r (HasL.cons a9p (HasL.cons a3k HasL.nil))) [0, 2] ((fun a n (_ : Nat) => (fun _ => a0s) a n)) [] Tryz.func113 (by unfold Tryz.f113; rfl) (fun a => ⟨(noR, a.2), b0l, Int.le_refl _, by omega⟩) ?_
 intro a ha
 obtain ⟨s, p⟩ := a
 obtain ⟨h1, h2, h3⟩ : s.length <= 2000 /\ 0 <= p /\ p <= 1073740000 := ha
 simp (maxSteps := 8000000) -implicitDefEqProofs [-kStep_move, -Bool.exists_bool, b6y, b5F, a6o, a3Y, Con.fn, tTab, a1L, clash, kd, a2x, a2M]
 refine ⟨s, p, ⟨rfl, rfl⟩, ⟨h1, by omega, by omega⟩, fun l q g1 g2 g3 g4 => ⟨fun o ho => ?_, a9c (a4M _).1, a2Z l, q, ⟨a4M _, by omega, by omega⟩, ⟨rfl, rfl⟩, ⟨rfl, rfl⟩, rfl, rfl⟩⟩
 obtain ⟨_, _, _, k1, k2, _, k3, _⟩ := g2 o ho
 exact ⟨by omega, by omega, by omega⟩
def a5m (r : RepoD) : Prop := r.commits.length <= 16 /\ r.heads.length <= 100 /\ ∀ c ∈ r.commits, c.parents.length <= 2 /\ a0W c.tree = true /\ c.who.length <= 6
theorem a4Y {r : RepoD} (h : plR r) : a5m r := by
 obtain ⟨h1, h2, h3⟩ := (a0Q r).1 h.1
 refine ⟨h3, by have := ((a1R _ _).1 h2).1; omega, fun c hc => ?_⟩
 obtain ⟨i, hi, rfl⟩ := List.getElem_of_mem hc
 have h4 := h1 i hi
 have e : r.commits.getD i default = r.commits[i] := by simp -implicitDefEqProofs [List.getD_eq_getElem?_getD, hi]
 unfold okCS okS1 at h4
 rw [e] at h4
 simp only [Bool.and_eq_true, decide_eq_true_eq, a1a] at h4
 exact ⟨h4.2.1.1, h4.2.2, h4.2.1.2.1.2⟩
def a7f : Con := { A := Str × Int, X := RepoD × Int, n := 46, args := fun _ => [.ptr 0 0], boxes := fun a => [(0, 140, [.sl true 1 (a1g a.1), .int .i64 a.2])], pre := fun a => a.1.length <= 2000 /\ 0 <= a.2 /\ a.2 <= 1073739000, post := fun a x => a5m x.1 /\ a.2 <= x.2 /\ x.2 <= a.2 + 500, res := fun _ x => .agg [.sl false 3 (a0e x.1.commits), .sl false 2 (a0c x.1.heads)], fin := fun a x => [(0, a3m a.1 x.2)], nob := false }
theorem a9x : Has Tryz.prog 69 a7f := by
 refine a0d mixed a0g (HasL.cons c4c (HasL.cons a4L HasL.nil)) [0, 2, 3, 4, 17] ((fun a n (_ : Nat) => (fun _ => a0s) a n)) [] Tryz.func69 (by unfold Tryz.f69; rfl) (fun a => ⟨(noR, a.2), a4Y b0l, Int.le_refl _, by omega⟩) ?_
 intro a ha
 obtain ⟨s, p⟩ := a
 obtain ⟨h1, h2, h3⟩ : s.length <= 2000 /\ 0 <= p /\ p <= 1073739000 := ha
 simp (maxSteps := 8000000) -implicitDefEqProofs [-kStep_move, -Bool.exists_bool, a7f, b6y, a6n, tTab, a1L, clash, kd, a2x, a2M]
 refine ⟨s, p, ⟨rfl, rfl⟩, ⟨h1, by omega, by omega⟩, fun r q hr g1 g2 _ => ⟨fun hp _ => ⟨s, q, ⟨rfl, rfl⟩, ⟨h1, by omega, by omega, ?_⟩, fun y _ hy => ⟨s, q + 1, ⟨rfl, rfl⟩, ⟨h1, by omega, by omega⟩, fun z hz0 hz1 => ?_⟩⟩, fun _ => ⟨r, q, ⟨a4Y hr, by omega, by omega⟩, ⟨rfl, rfl⟩, rfl, rfl⟩⟩⟩
 ·have := (a4Y hr).1; omega
 obtain ⟨k1, k2⟩ := hy (by omega)
 have hk : y.toNat < r.commits.length := by omega
 have e : Option.map a0E r.commits[y.toNat]? = some (a0E r.commits[y.toNat]) := by simp -implicitDefEqProofs [hk]
 have hd := a4Y hr
 have hh : 0 < r.heads.length := List.length_pos_iff.2 (hr.2 (by intro h; rw [h] at hp; simp at hp))
 have e2 : Option.map a1d r.heads[0]? = some (a1d r.heads[0]) := by simp -implicitDefEqProofs [hh]
 have ds : ∀ c : CommitD, (c.parents.length <= 2 /\ a0W c.tree = true /\ c.who.length <= 6) -> a5m ⟨r.commits.set y.toNat c, r.heads⟩ := fun c hc => ⟨by simp; exact hd.1, hd.2.1, fun x hx => (List.mem_or_eq_of_mem_set hx).elim (hd.2.2 x) fun h => h ▸ hc⟩
 have dc := hd.2.2 _ (List.getElem_mem hk)
 have dh : a5m ⟨r.commits, r.heads ++ [r.heads[0]]⟩ := ⟨hd.1, by have := ((a1R _ _).1 ((a0Q r).1 hr.1).2.1).1; simp; omega, hd.2.2⟩
 simp only [e, e2]
 simp -implicitDefEqProofs [a0E, a1d, D.asStr, D.asInt, hk, k1, k2, hh]
 have hl : r.heads.length <= 100 := hd.2.1
 have hA : p <= q + 1 + 1 /\ q + 1 + 1 <= p + 500 := ⟨by omega, by omega⟩
 have es : ∀ c : CommitD, a0e (r.commits.set y.toNat c) = (a0e r.commits).set y.toNat (a0E c) := fun c => by simp -implicitDefEqProofs [a0e, List.map_set]
 exact ⟨fun _ => ⟨_, ⟨ds ⟨[y], r.commits[y.toNat].who, r.commits[y.toNat].tree⟩ ⟨by simp, dc.2⟩, hA⟩, es _, rfl⟩, fun _ => ⟨fun _ => ⟨_, ⟨ds ⟨r.commits[y.toNat].parents, [], r.commits[y.toNat].tree⟩ ⟨dc.1, dc.2.1, Nat.zero_le _⟩, hA⟩, es _, rfl⟩, fun _ => ⟨fun _ => ⟨⟨by omega, by omega⟩, _, ⟨dh, hA⟩, rfl, by simp -implicitDefEqProofs [a0c, a1d]⟩, fun _ => ⟨r, ⟨hd, hA⟩, rfl, rfl⟩⟩⟩⟩
def cOfB : Con := { cOf with bty := [140] }
theorem c8h : Has Tryz.prog 71 cOfB :=
 ⟨of_has.enter, of_has.tot, of_has.nob, fun a h c hk vs β fp h1 h2 h3 h4 S => of_has.calls a h c hk vs β fp h1 h2 h3 h4 S, of_has.bldr,
  .inr fun a => ⟨fun b hb => (by simp only [cOfB, cOfB, cOf, List.mem_cons, List.not_mem_nil, or_false] at hb; subst hb; simp -implicitDefEqProofs [cOfB]), fun x p hp ty vs e => (by simp only [cOfB, cOfB, cOf, List.mem_cons, List.not_mem_nil, or_false] at hp; subst hp; cases e; simp -implicitDefEqProofs [cOfB])⟩⟩
def dqI : Inv := ⟨Str × Int × RepoD × List Str × Int, fun x => ⟨[(6, true, .ptr 10 0), (7, true, .ptr 11 0), (2, true, .ptr 12 0), (3, true, .str []), (4, true, .str []), (5, true, .nil), (8, true, .own 9 1 (a0a x.2.2.2.1)), (9, true, .int .i64 x.2.2.2.2)],
 [(10, a3m x.1 x.2.1), (11, .box 32 [.sl false 3 (a0e x.2.2.1.commits), .sl false 2 (a0c x.2.2.1.heads)]), (12, a6k), (9, .own 9 1 true (a0a x.2.2.2.1))]⟩, fun x => x.1.length <= 2000 /\ a5m x.2.2.1 /\ 0 <= x.2.2.2.2 /\ x.2.2.2.2 + x.2.2.2.1.length <= 3 /\ 0 <= x.2.1 /\ x.2.1 <= 600 + x.2.2.2.1.length, fun x => x.2.2.2.2.toNat⟩
def a6f : Con := { A := Str, X := RepoD × Str × Str × List Str, n := 35, args := fun s => [.sl true 1 (a1g s)], boxes := fun _ => [], pre := fun _ => True, post := fun _ x => a5m x.1 /\ x.2.2.2.length <= 3, res := fun _ x => .tup [.agg [.sl false 3 (a0e x.1.commits), .sl false 2 (a0c x.1.heads)], .str x.2.1, .str x.2.2.1, .own 8 1 (a0a x.2.2.2)], fin := fun _ x => a1Y 8 x.2.2.2 }
theorem b1M : Has Tryz.prog 25 a6f := by
 refine a0d mixed a0g (HasL.cons a7G (HasL.cons a9x (HasL.cons a4L (HasL.cons c8h HasL.nil)))) [0, 2, 3, 4, 5, 6, 7, 8, 9] ((fun a n (_ : Nat) => (fun _ _ => dqI) a n)) [8191, 12287] Tryz.func25 (by unfold Tryz.f25; rfl) (fun _ => ⟨(noR, [], [], []), a4Y b0l, Nat.zero_le _⟩) ?_
 intro (s : Str) _
 simp (maxSteps := 8000000) -implicitDefEqProofs [-kStep_move, -Bool.exists_bool, a6f, a6M, a7f, a6n, cOfB, cOf, tTab, Con.fn, a1L, clash, kd, a2x, a2M, dqI]
 have hl : (s.take 2000).length <= 2000 := by simp; omega
 refine ⟨_, _, ⟨rfl, rfl⟩, ⟨hl, by omega, by omega⟩, fun r p g1 g2 g3 => ⟨_, _, ⟨rfl, rfl⟩, ⟨hl, by omega, by omega⟩, fun y hy0 hy1 => ⟨⟨s.take 2000, p + 1, r, [], y, ⟨⟨rfl, rfl⟩, ⟨⟨rfl, rfl⟩, rfl, rfl⟩, rfl⟩, hl, g1, hy0, by simp; omega, by omega, by simp; omega⟩, fun a q R L b h1 h2 h3 h4 h5 h6 => ⟨fun hb => ⟨a, q, ⟨rfl, rfl⟩, ⟨h1, h5, by omega⟩, ?_⟩, fun hb => ⟨a, q, ⟨rfl, rfl⟩, ⟨h1, h5, by omega⟩, a, q + 1, ⟨rfl, rfl⟩, ⟨h1, by omega, by omega⟩, R, ⟨h2, by omega⟩, rfl, rfl⟩⟩⟩⟩⟩
 have sn : ∀ x : Str, a0a L ++ [[D.str x]] = a0a (L ++ [x]) := fun x => by simp -implicitDefEqProofs [a0a, eStr]
 refine ⟨?_, ?_, ?_, ?_, ?_⟩ <;> refine ⟨⟨by omega, by omega⟩, ⟨by omega, by omega⟩, fun _ _ => ?_⟩
 all_goals exact ⟨a, q + 1, R, L ++ [_], b - 1, ⟨⟨(sn _).symm, rfl⟩, ⟨⟨rfl, rfl⟩, rfl, rfl⟩, sn _⟩, ⟨h1, h2, by omega, by simp; omega, by omega, by simp; omega⟩, by omega⟩
theorem Uni.ok {r : RepoD} {n w : Str} {b : Int} {X : RepoD × Int} (h : a0f r = true) (hu : Uni r n w b X) : a0f X.1 = true := by
 cases hu with
 | form => exact h
 | same _ _ _ _ _ => exact h
 | on _ _ _ _ _ _ hr => exact hr
 | clash _ _ _ _ _ => exact h
 | full => exact h
 | made _ _ _ _ _ _ _ _ hr => exact hr
theorem Uni.keeps {r : RepoD} {n w : Str} {b : Int} {X : RepoD × Int} (hu : Uni r n w b X) : r.commits <+: X.1.commits := by
 cases hu with
 | made t _ _ _ _ _ _ _ _ => exact ⟨[⟨[atL r.heads n, b], w, t⟩], rfl⟩
 | _ => exact List.prefix_refl _
theorem Uni.other {r : RepoD} {n w m : Str} {b : Int} {X : RepoD × Int} (h : a0f r = true) (hu : Uni r n w b X) (hm : ¬ n = m) : atL X.1.heads m = atL r.heads m := by
 have hH := ((a0Q r).1 h).2.1
 cases hu with
 | on _ _ _ _ _ _ _ =>
  show atL (hSet r.heads n b) m = _
  rw [a4R hH, if_neg hm]
 | made t _ _ _ _ _ _ _ _ => rw [a6A h, if_neg hm]
 | _ => rfl
def Came (r : RepoD) (n : Str) (z : Nat) : Prop := 0 <= atL r.heads n /\ Rch r (atL r.heads n).toNat z
theorem Uni.came {r : RepoD} {n w : Str} {b : Int} {X : RepoD × Int} {z : Nat} (h : a0f r = true) (hu : Uni r n w b X) (hz : Came r n z) : Came X.1 n z := by
 have hH := ((a0Q r).1 h).2.1
 have hp := b0q h
 cases hu with
 | on h1 h2 h3 h4 h5 h6 h7 =>
  have e : atL (hSet r.heads n b) n = b := by rw [a4R hH, if_pos rfl]
  refine ⟨by show 0 <= atL (hSet r.heads n b) n; rw [e]; exact h3, ?_⟩
  show Rch ⟨r.commits, hSet r.heads n b⟩ (atL (hSet r.heads n b) n).toNat z
  rw [e]
  have := (Rch.more (cs := []) (hs := hSet r.heads n b) hp (a := b.toNat) (x := z) (by omega)).2 (h6.trans hz.2)
  simpa using this
 | made t h1 h2 h3 h4 h5 h6 h7 h8 =>
  have e : atL (addR r n ⟨[atL r.heads n, b], w, t⟩).heads n = r.commits.length := by rw [a6A h, if_pos rfl]
  have e2 : ((r.commits.length : Int)).toNat = r.commits.length := by omega
  refine ⟨by rw [e]; omega, ?_⟩
  rw [e, e2]
  have q := b5X (r := r) n ⟨[atL r.heads n, b], w, t⟩ (p := atL r.heads n) (by simp)
  exact q.trans ((Rch.more (cs := [⟨[atL r.heads n, b], w, t⟩]) (hs := hSet r.heads n r.commits.length) hp (a := (atL r.heads n).toNat) (x := z) (by omega)).2 hz.2)
 | _ => exact hz
theorem Uni.got {r : RepoD} {n w : Str} {b : Int} {X : RepoD × Int} (h : a0f r = true) (hu : Uni r n w b X) (hc : X.2 = 0 \/ X.2 = 3 \/ X.2 = 2) : (0 <= b /\ b < r.commits.length) /\ Came X.1 n b.toNat := by
 have hH := ((a0Q r).1 h).2.1
 cases hu with
 | form => simp at hc
 | same h1 h2 h3 h4 h5 => exact ⟨⟨h3, h4⟩, h1, h5⟩
 | on h1 h2 h3 h4 h5 h6 h7 =>
  have e : atL (hSet r.heads n b) n = b := by rw [a4R hH, if_pos rfl]
  refine ⟨⟨h3, h4⟩, by show 0 <= atL (hSet r.heads n b) n; rw [e]; exact h3, ?_⟩
  show Rch ⟨r.commits, hSet r.heads n b⟩ (atL (hSet r.heads n b) n).toNat b.toNat
  rw [e]; exact .refl
 | clash => simp at hc
 | full => simp at hc
 | made t h1 h2 h3 h4 h5 h6 h7 h8 =>
  have e : atL (addR r n ⟨[atL r.heads n, b], w, t⟩).heads n = r.commits.length := by rw [a6A h, if_pos rfl]
  have e2 : ((r.commits.length : Int)).toNat = r.commits.length := by omega
  refine ⟨⟨h3, h4⟩, by rw [e]; omega, ?_⟩
  rw [e, e2]
  exact b5X (r := r) n ⟨[atL r.heads n, b], w, t⟩ (p := b) (by simp)
def b5N (n w : Str) (s : RepoD × List Int) (m : Str) : RepoD × List Int := ((a0K s.1 n w (atL s.1.heads m)).1, s.2 ++ [(a0K s.1 n w (atL s.1.heads m)).2])
def qF (n w : Str) (l : List Str) (r : RepoD) : RepoD × List Int := l.foldl (b5N n w) (r, [])
theorem b0R {n w : Str} {l : List Str} {r : RepoD} {i : Nat} (h : i < l.length) : qF n w (l.take (i + 1)) r = b5N n w (qF n w (l.take i) r) l[i] := by
 unfold qF
 rw [a0x h, List.foldl_append]; rfl
theorem b3i (n w : Str) (r : RepoD) : ∀ l : List Str, (qF n w l r).2.length = l.length := by
 have : ∀ (l : List Str) (s : RepoD × List Int), (l.foldl (b5N n w) s).2.length = s.2.length + l.length := by
  intro l
  induction l with
  | nil => intro s; rfl
  | cons m l ih => intro s; rw [List.foldl_cons, ih]; simp -implicitDefEqProofs [b5N]; omega
 intro l
 have := this l (r, [])
 simpa [qF] using this
def a2o (r : RepoD) (n w : Str) (l : List Str) : RepoD × List Int := if a0f r then (if 5 < l.length then (r, []) else qF n w l r) else (noR, [])
theorem a7t {r : RepoD} (h : a0f r = true) (n w : Str) (l : List Str) : ∀ i, i <= l.length -> a0f (qF n w (l.take i) r).1 = true /\ r.commits <+: (qF n w (l.take i) r).1.commits
 | 0, _ => ⟨by simpa [qF] using h, by simp -implicitDefEqProofs [qF]⟩
 | i + 1, hi => by
  obtain ⟨h1, h2⟩ := a7t h n w l i (by omega)
  have hu := b0z h1 n w (atL (qF n w (l.take i) r).1.heads l[i])
  rw [b0R (show i < l.length by omega)]
  exact ⟨hu.ok h1, h2.trans hu.keeps⟩
theorem b4k {n w : Str} {l : List Str} {r : RepoD} {i : Nat} (h : i < l.length) : ∀ k, i < k -> k <= l.length -> (qF n w (l.take k) r).2[i]? = some (a0K (qF n w (l.take i) r).1 n w (atL (qF n w (l.take i) r).1.heads l[i])).2
 | 0, hk, _ => by omega
 | k + 1, hk, hkl => by
  have hl : (qF n w (l.take k) r).2.length = k := by rw [b3i]; simp; omega
  rw [b0R (show k < l.length by omega)]
  rcases Nat.lt_or_ge i k with hik | hik
  ·show ((qF n w (l.take k) r).2 ++ _)[i]? = _
   rw [List.getElem?_append_left (by omega)]
   exact b4k h k hik (by omega)
  ·have : i = k := by omega
   subst this
   show ((qF n w (l.take i) r).2 ++ _)[i]? = _
   rw [List.getElem?_append_right (by omega), hl]
   simp
theorem c7r {r : RepoD} (h : a0f r = true) {n w : Str} {l : List Str} {i : Nat} (hi : i < l.length) (hne : ¬ n = l[i]) (hc : (a0K (qF n w (l.take i) r).1 n w (atL (qF n w (l.take i) r).1.heads l[i])).2 = 0 \/ (a0K (qF n w (l.take i) r).1 n w (atL (qF n w (l.take i) r).1.heads l[i])).2 = 3 \/ (a0K (qF n w (l.take i) r).1 n w (atL (qF n w (l.take i) r).1.heads l[i])).2 = 2) :
  ∀ k, i < k -> k <= l.length -> (0 <= atL (qF n w (l.take k) r).1.heads l[i] /\ atL (qF n w (l.take k) r).1.heads l[i] < (qF n w (l.take k) r).1.commits.length) /\ Came (qF n w (l.take k) r).1 n (atL (qF n w (l.take k) r).1.heads l[i]).toNat
 | 0, hk, _ => by omega
 | k + 1, hk, hkl => by
  obtain ⟨h1, _⟩ := a7t h n w l k (by omega)
  have hu := b0z h1 n w (atL (qF n w (l.take k) r).1.heads l[k])
  have e := b0R (n := n) (w := w) (r := r) (show k < l.length by omega)
  have e1 : (qF n w (l.take (k + 1)) r).1 = (a0K (qF n w (l.take k) r).1 n w (atL (qF n w (l.take k) r).1.heads l[k])).1 := by rw [e]; rfl
  have hl := hu.keeps.length_le
  rw [e1, hu.other h1 hne]
  rcases Nat.lt_or_ge i k with hik | hik
  ·obtain ⟨q1, q2⟩ := c7r h hi hne hc k hik (by omega)
   exact ⟨⟨q1.1, by omega⟩, hu.came h1 q2⟩
  ·have : i = k := by omega
   subst this
   obtain ⟨q1, q2⟩ := hu.got h1 hc
   exact ⟨⟨q1.1, by omega⟩, q2⟩

theorem a4e {r : RepoD} (h : a5m r) : a1V r := ⟨by have := h.1; omega, fun c hc f hf => by have := a6y (h.2.2 c hc).2.1 f hf; omega⟩
theorem a8O {r : RepoD} (h : a5m r) : rpSz r := by
 refine ⟨by have := h.1; omega, fun c hc => ?_, by have := h.2.1; omega⟩
 obtain ⟨h1, h2, h3⟩ := h.2.2 c hc
 have h4 := a4N _ h2
 exact ⟨by omega, by omega, fun g hg => by have := h4.2 g hg; omega⟩
--TAB a0G
theorem b1o {r : RepoD} (h : a0j r = true) {a : Int} (h0 : 0 <= a) (h1 : a < r.commits.length) : a3n r a = (a0o r a, true) := by unfold a3n; rw [if_pos ⟨h, h0, h1⟩]
theorem a2H {r : RepoD} (h : a0j r = true) (n : Str) : a3e r n = atL r.heads n := by unfold a3e; rw [if_pos h]
--TAB a0G
theorem b4Z {r : RepoD} (h : a0j r = false) (n w : Str) (l : List Str) : a2o r n w l = (noR, []) := by unfold a2o; rw [if_neg (by rw [<- a0A, h]; simp)]
theorem b1n {r : RepoD} (h : a0j r = true) (n w : Str) {l : List Str} (h5 : 5 < l.length) : a2o r n w l = (r, []) := by unfold a2o; rw [if_pos (by rw [<- a0A]; exact h), if_pos h5]
theorem a9a {r : RepoD} (h : a0j r = true) (n w : Str) {l : List Str} (h5 : l.length <= 5) : a2o r n w l = qF n w l r := by unfold a2o; rw [if_pos (by rw [<- a0A]; exact h), if_neg (by omega)]
theorem c1A {n w : Str} {l : List Str} {r : RepoD} {i : Nat} (h : i < l.length) : qF n w (l.take (i + 1)) r = ((a0K (qF n w (l.take i) r).1 n w (atL (qF n w (l.take i) r).1.heads l[i])).1, (qF n w (l.take i) r).2 ++ [(a0K (qF n w (l.take i) r).1 n w (atL (qF n w (l.take i) r).1.heads l[i])).2]) := b0R h
theorem eIsn (l : List Int) (x : Int) : a0h l ++ [[D.int .i64 x]] = a0h (l ++ [x]) := by simp -implicitDefEqProofs [a0h, eInt]
def qrI (r : RepoD) (n w : Str) (l : List Str) : Inv := ⟨Nat, fun i => ⟨[(1, true, .str n), (2, true, .str w), (8, true, .ptr 11 0), (9, true, .nil), (10, true, .ptr 12 0), (11, true, .own 9 1 (a0h (qF n w (l.take i) r).2)), (26, true, .sl true 1 (a0a l)), (27, true, .int .i64 l.length), (28, true, .int .i64 i)],
 [(11, a6k), (12, .box 32 [.own 13 3 (a0e (qF n w (l.take i) r).1.commits), .own 14 2 (a0c (qF n w (l.take i) r).1.heads)]), (13, .own 102 3 true (a0e (qF n w (l.take i) r).1.commits)), (14, .own 69 2 true (a0c (qF n w (l.take i) r).1.heads)), (9, .own 3 1 true (a0h (qF n w (l.take i) r).2))]⟩, fun i => i <= l.length /\ l.length <= 5 /\ a0f r = true, fun i => l.length - i⟩
def a8B : Con := .fn 50 (RepoD × Str × Str × List Str) (fun a => [a0Y a.1, .str a.2.1, .str a.2.2.1, .sl true 1 (a0a a.2.2.2)]) (fun a => a1V a.1) (fun a => .tup [.agg [.own 8 3 (a0e (a2o a.1 a.2.1 a.2.2.1 a.2.2.2).1.commits), .own 9 2 (a0c (a2o a.1 a.2.1 a.2.2.1 a.2.2.2).1.heads)], .own 10 1 (a0h (a2o a.1 a.2.1 a.2.2.1 a.2.2.2).2)]) (fun a => a1S 8 (a2o a.1 a.2.1 a.2.2.1 a.2.2.2).1.commits ++ a2e 9 (a2o a.1 a.2.1 a.2.2.1 a.2.2.2).1.heads ++ a4v 10 (a2o a.1 a.2.1 a.2.2.1 a.2.2.2).2)
theorem b5s : Has Tryz.prog 16 a8B := by
 refine a0d mixed a0B (HasL.cons a1T (HasL.cons a3t (HasL.cons a4p (HasL.cons a9k HasL.nil)))) [0, 1, 2, 3, 4, 8, 9, 10, 11, 13, 14, 15, 26, 27, 28] ((fun a n (_ : Nat) => (fun a _ => qrI a.1 a.2.1 a.2.2.1 a.2.2.2) a n)) [12287] Tryz.func16 (by unfold Tryz.f16; rfl) (fun _ => ⟨(), trivial⟩) ?_
 intro a ha
 obtain ⟨r, n, w, l⟩ := a
 replace ha : a1V r := ha
 simp (maxSteps := 8000000) [a8B, a2z, a4F, cAtI, a7S, Con.fn, a0G, tTab, a0t, qrI]
 try dsimp only
 try simp only [and_assoc, exists_eq_left, exists_and_left, RepoD.ex1, RepoD.eta]
 refine ⟨ha, fun h => by rw [b4Z h]; exact ⟨rfl, rfl, rfl, rfl, rfl, rfl⟩, fun h => ⟨(a1y h).1, fun _ => ⟨fun h5 => by rw [b1n h n w (by omega)]; exact ⟨rfl, rfl, rfl, rfl, rfl, rfl⟩, fun h5 _ => ⟨⟨0, rfl, rfl, rfl, rfl, rfl, rfl, rfl, Nat.zero_le _, by omega, by rw [<- a0A]; exact h⟩, fun t ht hl hs => ⟨fun hlt => ⟨hlt, fun _ => ?_⟩, fun hge => ?_⟩⟩⟩⟩⟩
 ·have e1 : Option.map eStr l[t]? = some (eStr l[t]) := by simp -implicitDefEqProofs [hlt]
  have S := c1A (n := n) (w := w) (r := r) hlt
  have hQ := (a7t hs n w l t ht).1
  have hlen : (qF n w (l.take t) r).2.length = t := by rw [b3i]; simp; omega
  rw [<- a0A] at hQ
  rw [e1]
  generalize qF n w (l.take t) r = Q at *
  generalize l[t] = m at *
  simp -implicitDefEqProofs [eStr, D.asStr, eIsn]
  exact ⟨hQ, by omega, by omega, by omega, by omega, fun _ _ => ⟨t + 1, by rw [S], by omega, by rw [S], by rw [S], by rw [S], by rw [S], by rw [S], by omega, hl, hs, by omega⟩⟩
 ·rw [a9a h n w hl, List.take_of_length_le hge]
  exact ⟨rfl, rfl, rfl, rfl, rfl, rfl⟩
def qsI (r : RepoD) (n w : Str) (l : List Str) : Inv := ⟨Nat, fun i => ⟨[(1, true, .str n), (2, true, .str w), (3, true, .sl true 1 (a0a l)), (8, true, .ptr 11 0), (9, true, .nil), (10, true, .own 9 1 (a0h (qF n w (l.take i) r).2)), (11, true, .ptr 12 0), (12, true, .int .i64 i)],
 [(11, a6k), (12, .box 32 [.sl false 3 (a0e (qF n w (l.take i) r).1.commits), .sl false 2 (a0c (qF n w (l.take i) r).1.heads)]), (9, .own 3 1 true (a0h (qF n w (l.take i) r).2))]⟩, fun i => i <= l.length /\ l.length <= 5 /\ a0f r = true, fun i => l.length - i⟩
def a8C : Con := .fn 52 (RepoD × Str × Str × List Str) (fun a => [a0Y a.1, .str a.2.1, .str a.2.2.1, .sl true 1 (a0a a.2.2.2)]) (fun a => rpSz a.1) (fun a => .tup [.agg [.sl false 3 (a0e (a2o a.1 a.2.1 a.2.2.1 a.2.2.2).1.commits), .sl false 2 (a0c (a2o a.1 a.2.1 a.2.2.1 a.2.2.2).1.heads)], .own 10 1 (a0h (a2o a.1 a.2.1 a.2.2.1 a.2.2.2).2)]) (fun a => a4v 10 (a2o a.1 a.2.1 a.2.2.1 a.2.2.2).2)
theorem b5t : Has Tryz.prog 13 a8C := by
 refine a0d mixed a0B (HasL.cons a3J (HasL.cons a3k (HasL.cons a3I (HasL.cons a9r HasL.nil)))) [0, 1, 2, 3, 4, 8, 9, 10, 11, 12, 13, 14] ((fun a n (_ : Nat) => (fun a _ => qsI a.1 a.2.1 a.2.2.1 a.2.2.2) a n)) [12287] Tryz.func13 (by unfold Tryz.f13; rfl) (fun _ => ⟨(), trivial⟩) ?_
 intro a ha
 obtain ⟨r, n, w, l⟩ := a
 replace ha : rpSz r := ha
 simp (maxSteps := 8000000) [a8C, a5k, a3Y, a5j, a6p, Con.fn, a0G, tTab, a0t, qsI]
 try dsimp only
 try simp only [and_assoc, exists_eq_left, exists_and_left, RepoD.ex1, RepoD.eta]
 have hn : ∀ h : a0f r = false, a0j r = false := fun h => by rw [a0A]; exact h
 refine ⟨by have := ha.1; omega, fun h => by rw [b4Z (hn h)]; exact ⟨rfl, rfl, rfl⟩, fun h => ?_⟩
 have hI : a0j r = true := by rw [a0A]; exact h
 refine ⟨ha, fun _ => ⟨fun h5 => by rw [b1n hI n w (by omega)]; exact ⟨rfl, rfl, rfl⟩, fun h5 => ⟨⟨0, rfl, rfl, rfl, rfl, rfl, Nat.zero_le _, by omega, h⟩, fun t ht hl hs _ => ⟨fun hlt => ⟨hlt, fun _ => ?_⟩, fun hge => ?_⟩⟩⟩⟩
 ·have e1 : Option.map eStr l[t]? = some (eStr l[t]) := by simp -implicitDefEqProofs [hlt]
  have S := c1A (n := n) (w := w) (r := r) hlt
  have hQ := (a7t hs n w l t ht).1
  have hlen : (qF n w (l.take t) r).2.length = t := by rw [b3i]; simp; omega
  rw [<- a0A] at hQ
  rw [e1]
  generalize qF n w (l.take t) r = Q at *
  generalize l[t] = m at *
  simp -implicitDefEqProofs [eStr, D.asStr, eIsn]
  exact ⟨(a1y hQ).1, by omega, by omega, by omega, by omega, fun _ _ => ⟨t + 1, by rw [S], by omega, by rw [S], by rw [S], by rw [S], by omega, hl, hs, by omega⟩⟩
 ·rw [a9a hI n w hl, List.take_of_length_le hge]
  exact ⟨rfl, rfl, rfl, rfl⟩
--TAB a0G
--TAB a0G
--TAB a0G
theorem c8t {r : RepoD} (h : a0f r = true) {n w : Str} {l : List Str} {i : Nat} (hi : i < l.length) (hne : ¬ l[i] = n) (hc : (a0K (qF n w (l.take i) r).1 n w (atL (qF n w (l.take i) r).1.heads l[i])).2 = 0 \/ (a0K (qF n w (l.take i) r).1 n w (atL (qF n w (l.take i) r).1.heads l[i])).2 = 3 \/ (a0K (qF n w (l.take i) r).1 n w (atL (qF n w (l.take i) r).1.heads l[i])).2 = 2) :
  b2n (qF n w l r).1 (a3e (qF n w l r).1 l[i]) (a3e (qF n w l r).1 n) = true := by
 have h1 := c7r h hi (fun e => hne e.symm) hc l.length hi (Nat.le_refl _)
 have h2 := (a7t h n w l l.length (Nat.le_refl _)).1
 rw [List.take_length] at h1 h2
 have h3 : a0j (qF n w l r).1 = true := by rw [a0A]; exact h2
 obtain ⟨⟨a1, a2⟩, b1, b2⟩ := h1
 have b3 := a7e h3 b1
 unfold b2n
 rw [a2H h3, a2H h3, Bool.and_eq_true]
 refine ⟨areB_iff.2 ⟨h3, fun a ha => ?_⟩, ?_⟩
 ·rcases List.mem_cons.1 ha with rfl | ha
  ·exact ⟨a1, a2⟩
  ·rw [List.mem_singleton.1 ha]; exact ⟨b1, b3⟩
 ·have e : ((atL (qF n w l r).1.heads n).toNat : Int) = atL (qF n w l r).1.heads n := by omega
  have := (b9f (b0q h2) (a := (atL (qF n w l r).1.heads n).toNat) (by omega) (atL (qF n w l r).1.heads l[i]).toNat).2 b2
  rw [e] at this
  exact this
def bRv (r : RepoD) : Blk := .box 32 [.sl false 3 (a0e r.commits), .sl false 2 (a0c r.heads)]
theorem c7I (r : RepoD) : bRv r = .box 32 [.sl false 3 (a0e r.commits), .sl false 2 (a0c r.heads)] := rfl
def frA : Inv := ⟨RepoD × Str × Str × List Str × Nat, fun x => ⟨[(2, true, .bool false), (3, true, .ptr 10 0), (4, true, .str x.2.1), (5, true, .str x.2.2.1), (6, true, .own 11 1 (a0a x.2.2.2.1)), (7, true, .ptr 12 0), (8, true, .own 9 1 (a0h (qF x.2.1 x.2.2.1 x.2.2.2.1 x.1).2)), (11, true, .ptr 13 0), (12, true, .int .i64 x.2.2.2.2)],
 [(10, bRv x.1), (12, bRv (qF x.2.1 x.2.2.1 x.2.2.2.1 x.1).1), (13, bRv (qF x.2.1 x.2.2.1 (x.2.2.2.1.take x.2.2.2.2) x.1).1), (11, .own 9 1 true (a0a x.2.2.2.1)), (9, .own 3 1 true (a0h (qF x.2.1 x.2.2.1 x.2.2.2.1 x.1).2))]⟩, fun x => x.2.2.2.2 <= x.2.2.2.1.length /\ x.2.2.2.1.length <= 3 /\ a0f x.1 = true, fun x => 3 - x.2.2.2.2⟩
def frB : Inv := ⟨RepoD × Str × Str × List Str × Nat, fun x => ⟨[(2, true, .bool false), (3, true, .ptr 10 0), (4, true, .str x.2.1), (6, true, .own 11 1 (a0a x.2.2.2.1)), (7, true, .ptr 12 0), (8, true, .own 9 1 (a0h (qF x.2.1 x.2.2.1 x.2.2.2.1 x.1).2)), (11, true, .ptr 13 0), (15, true, .int .i64 x.2.2.2.2)],
 [(10, bRv x.1), (12, bRv (qF x.2.1 x.2.2.1 x.2.2.2.1 x.1).1), (13, bRv (qF x.2.1 x.2.2.1 x.2.2.2.1 x.1).1), (11, .own 9 1 true (a0a x.2.2.2.1)), (9, .own 3 1 true (a0h (qF x.2.1 x.2.2.1 x.2.2.2.1 x.1).2))]⟩, fun x => x.2.2.2.2 <= x.2.2.2.1.length /\ x.2.2.2.1.length <= 3 /\ a0f x.1 = true, fun x => 3 - x.2.2.2.2⟩
def c0A (n g : Nat) : Inv := if n = 10 then frA else frB
theorem c5r (g) : c0A 10 g = frA := rfl
theorem c5s (g) : c0A 17 g = frB := rfl
def b1a : Con := .fn 167 Str (fun s => [.sl true 1 (a1g s)]) (fun _ => True) (fun _ => .bool true) (fun _ => [])
theorem b3U : Has Tryz.prog 4 b1a := by
 refine a0d mixed a0B (HasL.cons b1M (HasL.cons b5s (HasL.cons b5t (HasL.cons b3s (HasL.cons a5A (HasL.cons a1T (HasL.cons a6u (HasL.cons b4s (HasL.cons c2e (HasL.cons b1q HasL.nil)))))))))) [0, 2, 3, 4, 5, 6, 7, 8, 9, 10, 11, 12, 13, 14, 15, 16] (fun _ => c0A) [12287] Tryz.func4 (by unfold Tryz.f4; rfl) (fun _ => ⟨(), trivial⟩) ?_
 intro (s : Str) _
 simp (maxSteps := 8000000) -implicitDefEqProofs [-kStep_move, -kStepC_move, -Bool.exists_bool, b1a, a6f, a8B, a8C, b0K, a5I, a2z, a6C, a7E, b6n, a8E, Con.fn, a0G, tTab, c5r, c5s, frA, frB, c7I]
 try dsimp only
 refine fun _ _ r n w l hd hl3 => ?_
 have hp := a4e hd
 have hz := a8O hd
 have hQ : a0j r = true -> a2o r n w l = qF n w l r := fun h => a9a h n w (by omega)
 refine ⟨r, n, w, l, ⟨⟨rfl, rfl⟩, rfl, rfl, rfl⟩, hp, r, n, w, l, ⟨⟨rfl, rfl⟩, rfl, rfl, rfl⟩, hz, _, _, ⟨rfl, rfl⟩, (a2o r n w l).1, (a2o r n w l).1, ⟨⟨rfl, rfl⟩, rfl, rfl⟩, ?_⟩
 simp only [true_and, and_true, not_true, false_or, or_false, true_implies, and_self]
 refine ⟨hp, fun _ _ => ⟨by cases a0j r <;> simp, fun _ => ⟨fun _ => trivial, fun hI _ => ?_⟩⟩⟩
 have hS : a0f r = true := by rw [<- a0A]; exact hI
 rw [hQ hI]
 refine ⟨⟨r, n, w, l, 0, ⟨⟨rfl, rfl, rfl, rfl, rfl⟩, ⟨⟨rfl, rfl⟩, ⟨rfl, rfl⟩, rfl, rfl⟩, rfl, rfl⟩, Nat.zero_le _, hl3, hS⟩, ?_⟩
 clear hQ hz hp hd hI hS hl3
 intro r n w l t ht hl3 hS _
 refine ⟨fun hlt => ⟨hlt, fun _ => ?_⟩, fun hge => ?_⟩
 ·have e1 : Option.map eStr l[t]? = some (eStr l[t]) := by simp -implicitDefEqProofs [hlt]
  have S := c1A (n := n) (w := w) (r := r) hlt
  have C := b4k (n := n) (w := w) (r := r) hlt l.length hlt (Nat.le_refl _)
  rw [List.take_length] at C
  have hQ := (a7t hS n w l t ht).1
  rw [<- a0A] at hQ
  obtain ⟨hk, _⟩ := List.getElem?_eq_some_iff.1 C
  rw [e1, C]
  have R := a2H hQ l[t]
  generalize qF n w (l.take t) r = Q at *
  generalize l[t] = m at *
  simp -implicitDefEqProofs [eStr, eInt, D.asInt, D.asStr]
  have hP := (a1y hQ).2
  exact ⟨Q.1, m, ⟨⟨rfl, rfl⟩, rfl⟩, hP, Q.1, n, w, _, ⟨⟨rfl, rfl⟩, rfl, rfl, rfl⟩, hP, hk, fun _ => ⟨by rw [R], fun _ => ⟨⟨by omega, by omega⟩, fun _ _ => ⟨r, n, w, l, t + 1, ⟨⟨rfl, rfl, rfl, rfl, by omega⟩, ⟨⟨rfl, rfl⟩, ⟨rfl, rfl⟩, by rw [S, R], by rw [S, R]⟩, rfl, rfl⟩, ⟨by omega, hl3, hS⟩, by omega⟩⟩⟩⟩
 ·rw [List.take_of_length_le hge]
  refine ⟨⟨r, n, w, l, 0, ⟨⟨rfl, rfl, rfl, rfl⟩, ⟨⟨rfl, rfl⟩, ⟨rfl, rfl⟩, rfl, rfl⟩, rfl, rfl⟩, Nat.zero_le _, hl3, hS⟩, ?_⟩
  clear ht hl3 hS hge
  intro r n w l t ht hl3 hS _
  refine ⟨fun hlt => ?_, fun hge => ?_⟩
  ·have e1 : Option.map eStr l[t]? = some (eStr l[t]) := by simp -implicitDefEqProofs [hlt]
   have C := b4k (n := n) (w := w) (r := r) hlt l.length hlt (Nat.le_refl _)
   rw [List.take_length] at C
   obtain ⟨hk, _⟩ := List.getElem?_eq_some_iff.1 C
   have hQ := (a7t hS n w l l.length (Nat.le_refl _)).1
   rw [List.take_length, <- a0A] at hQ
   have I := c8t hS (n := n) (w := w) hlt
   rw [e1, C]
   generalize (a0K (qF n w (l.take t) r).1 n w (atL (qF n w (l.take t) r).1.heads l[t])).2 = c at *
   generalize l[t] = m at *
   simp -implicitDefEqProofs [eStr, eInt, D.asInt, D.asStr]
   have hP := (a1y hQ).2
   refine ⟨hk, fun _ => ⟨fun a => ⟨a, hk⟩, fun _ => ⟨fun a b => ⟨⟨a, b⟩, hk⟩, fun _ => ⟨fun a b => ⟨a, b⟩, fun _ => ⟨by omega, fun _ => ⟨fun a => ⟨a, hlt⟩, fun _ => ⟨by omega, fun _ => ⟨fun a b => ⟨⟨a, b⟩, hlt⟩, fun _ => ⟨fun a b => ⟨a, b⟩, fun _ =>
    ⟨(qF n w l r).1, m, ⟨⟨rfl, rfl⟩, rfl⟩, fun a b => ⟨⟨a, b⟩, hP⟩, (qF n w l r).1, n, ⟨⟨rfl, rfl⟩, rfl⟩, fun a b => ⟨⟨a, b⟩, hP⟩, (qF n w l r).1, _, _, ⟨⟨rfl, rfl⟩, rfl, rfl⟩, fun a b => ⟨⟨a, b⟩, hP⟩, ?_, fun _ => ⟨fun a b => I b (by omega), fun _ => ⟨⟨by omega, by omega⟩, fun _ _ => ⟨r, n, w, l, t + 1, ⟨⟨rfl, rfl, rfl, by omega⟩, ⟨⟨rfl, rfl⟩, rfl, rfl⟩, rfl, rfl⟩, ⟨by omega, hl3, hS⟩, by omega⟩⟩⟩⟩⟩⟩⟩⟩⟩⟩⟩⟩⟩
   by_cases hm : m = n
   ·exact .inl (.inr hm)
   ·by_cases hc : (c = 0 \/ c = 3) \/ c = 2
    ·exact .inr ⟨hc, hm⟩
    ·exact .inl (.inl (by omega))
  ·obtain ⟨k1, k2⟩ := a7t hS n w l l.length (Nat.le_refl _)
   rw [List.take_length] at k1 k2
   rw [<- a0A] at k1
   have hK : a5s (qF n w l r).1 r = true := by
    unfold a5s
    exact decide_eq_true (List.prefix_iff_eq_take.1 k2).symm
   have hL := b3i n w r l
   exact ⟨(a1y k1).2, (qF n w l r).1, (qF n w l r).1, ⟨⟨rfl, rfl⟩, rfl, rfl⟩, (qF n w l r).1, r, ⟨⟨rfl, rfl⟩, rfl, rfl⟩, .inr ⟨k1, rfl⟩, fun _ _ _ => ⟨.inr ⟨⟨k1, rfl⟩, hK⟩, fun _ => ⟨⟨⟨k1, rfl⟩, hK⟩, by rw [hL]⟩⟩⟩
def a4O (t : List FileD) (f : FileD) : List FileD × Bool := if a0r t then (if a0r (putI t f).1 then ((putI t f).1, true) else (t, false)) else ([], false)
theorem a9j (t : List FileD) (f : FileD) : a4O t f = a2f t f := by
 unfold a4O a2f
 by_cases h : a0r t = true
 ·have hs := b2h h
  have e : (putI t f).1 = setS t f := by rw [a7a hs, b2d hs]
  rw [e, a2t, a2t]
 ·rw [if_neg h, if_neg (by rw [<- a2t]; exact h)]
def a1C (p : Str) (f : FileD) : Bool := !atB f.path p
theorem b1O (p : Str) : a1C p = a1l p := by
 funext f
 unfold a1C a1l
 rw [c7g]
 by_cases h : p = f.path
 ·subst h; simp
 ·have : ¬ f.path = p := fun e => h e.symm
  simp -implicitDefEqProofs [h, this]
def a3q (t : List FileD) (p : Str) : List FileD × Bool := if a0r t then (filB (a1C p) t, decide ((filB (a1C p) t).length < t.length)) else ([], false)
theorem b9b (t : List FileD) (p : Str) : a3q t p = a2i t p := by
 unfold a3q a2i
 rw [b1O, a2t]
def mvI (p to : Str) : List FileD -> List FileD -> Option (List FileD)
 | [], o => some o
 | f :: l, o => if atB f.path p then (if (putI o ⟨to ++ f.path.drop p.length, f.text⟩).2 then mvI p to l (putI o ⟨to ++ f.path.drop p.length, f.text⟩).1 else none) else mvI p to l o
theorem a5N (p : Str) (f : FileD) : a6r p f = atB f.path p := by
 unfold a6r
 rw [c7g]
 congr 1
 by_cases h : f.path = p
 ·simp -implicitDefEqProofs [h]
 ·have : ¬ p = f.path := fun e => h e.symm
  simp -implicitDefEqProofs [h, this]
theorem b4Y (o : List FileD) (f : FileD) : (putI o f).1.length = o.length + (if (putI o f).2 then 1 else 0) := by
 have hk := b4j o f.path
 unfold putI
 split
 ·simp
 ·simp -implicitDefEqProofs [a2F]; omega
def hits (p : Str) (l : List FileD) : Nat := (l.filter (a6r p)).length
theorem b4e (p to : Str) : ∀ (l o : List FileD), Srt o -> (mvFs p to o l).length <= o.length + hits p l
 | [], o, _ => by simp -implicitDefEqProofs [mvFs, hits]
 | f :: l, o, h => by
  have e : mvFs p to o (f :: l) = mvFs p to (a3P p to o f) l := rfl
  rw [e]
  unfold a3P
  by_cases hh : a6r p f = true
  ·rw [if_pos hh, b2d h]
   have ih := b4e p to l _ (b9J (f := ⟨to ++ f.path.drop p.length, f.text⟩) h)
   have hl := b4Y o ⟨to ++ f.path.drop p.length, f.text⟩
   rw [a7a h] at hl
   have : hits p (f :: l) = hits p l + 1 := by simp -implicitDefEqProofs [hits, hh]
   split at hl <;> omega
  ·rw [if_neg hh]
   have ih := b4e p to l o h
   have : hits p (f :: l) = hits p l := by simp -implicitDefEqProofs [hits, hh]
   omega
theorem b7n (p to : Str) : ∀ (l o : List FileD), Srt o -> match mvI p to l o with
  | some x => x = mvFs p to o l /\ x.length = o.length + hits p l
  | none => (mvFs p to o l).length < o.length + hits p l
 | [], o, _ => by simp -implicitDefEqProofs [mvI, mvFs, hits]
 | f :: l, o, h => by
  have e : mvFs p to o (f :: l) = mvFs p to (a3P p to o f) l := rfl
  rw [e]
  unfold a3P mvI
  rw [a5N]
  by_cases hh : atB f.path p = true
  ·rw [if_pos hh, if_pos hh]
   have hit : hits p (f :: l) = hits p l + 1 := by simp -implicitDefEqProofs [hits, a5N, hh]
   have hl := b4Y o ⟨to ++ f.path.drop p.length, f.text⟩
   have hs := b9J (f := ⟨to ++ f.path.drop p.length, f.text⟩) h
   have e2 : setS o ⟨to ++ f.path.drop p.length, f.text⟩ = (putI o ⟨to ++ f.path.drop p.length, f.text⟩).1 := by rw [a7a h, b2d h]
   rw [e2]
   rw [<- a7a h] at hs
   cases hp : (putI o ⟨to ++ f.path.drop p.length, f.text⟩).2 with
   | true =>
    rw [hp] at hl
    simp only [if_true] at hl ⊢
    have ih := b7n p to l _ hs
    cases hm : mvI p to l (putI o ⟨to ++ f.path.drop p.length, f.text⟩).1 with
    | some x =>
     rw [hm] at ih
     simp only at ih ⊢
     exact ⟨ih.1, by rw [ih.2, hl, hit]; omega⟩
    | none =>
     rw [hm] at ih
     simp only at ih ⊢
     rw [hit]; omega
   | false =>
    rw [hp] at hl
    simp only [Bool.false_eq_true, if_false] at hl ⊢
    have := b4e p to l _ hs
    rw [hit]; omega
  ·rw [if_neg hh, if_neg hh]
   have hit : hits p (f :: l) = hits p l := by simp -implicitDefEqProofs [hits, a5N, hh]
   rw [hit]
   exact b7n p to l o h
theorem c5w (p : Str) (t : List FileD) : (filB (a1C p) t).length + hits p t = t.length := by
 unfold hits filB
 induction t with
 | nil => rfl
 | cons f t ih =>
  have e : a6r p f = !a1C p f := by unfold a1C; rw [a5N]; simp
  cases hd : a1C p f with
  | true => simp -implicitDefEqProofs [hd, e]; omega
  | false => simp -implicitDefEqProofs [hd, e]; omega
def a2J (t : List FileD) (p to : Str) : List FileD × Bool :=
 if a0r t then match mvI p to t (filB (a1C p) t) with
  | some x => if t.any (fun f => atB f.path p) = false \/ a2X to = false then (t, false) else if a0r x then (x, true) else (t, false)
  | none => (t, false)
 else ([], false)
theorem b9c (t : List FileD) (p to : Str) : a2J t p to = a1A t p to := by
 unfold a2J a1A
 by_cases h : a0r t = true
 ·rw [if_pos h, if_pos (by rw [<- a2t]; exact h)]
  have hs : Srt (filB (a1C p) t) := (b2h h).filter _
  have hm := b7n p to t _ hs
  have ha := c5w p t
  have hany : (t.any (fun f => atB f.path p) = false) ↔ hits p t = 0 := by
   unfold hits
   rw [List.length_eq_zero_iff, List.filter_eq_nil_iff, List.any_eq_false]
   constructor
   ·intro q f hf; rw [a5N]; exact q f hf
   ·intro q f hf; have := q f hf; rwa [a5N] at this
  have hc : ((filB (a1l p) t).length = t.length \/ a2Y to = false) ↔ (t.any (fun f => atB f.path p) = false \/ a2X to = false) := by
   rw [hany, <- b1O, a6I]
   constructor
   ·rintro (q | q)
    ·exact .inl (by omega)
    ·exact .inr q
   ·rintro (q | q)
    ·exact .inl (by omega)
    ·exact .inr q
  rw [<- b1O] at hc ⊢
  by_cases hq : t.any (fun f => atB f.path p) = false \/ a2X to = false
  ·rw [if_pos (hc.2 hq)]
   split
   ·rw [if_pos hq]
   ·rfl
  ·rw [if_neg (fun x => hq (hc.1 x))]
   cases hr : mvI p to t (filB (a1C p) t) with
   | some x =>
    rw [hr] at hm
    simp only at hm ⊢
    obtain ⟨m1, m2⟩ := hm
    rw [if_neg hq, <- m1]
    have ml : x.length = t.length := by omega
    by_cases hx : a0r x = true
    ·rw [if_pos hx, if_neg]
     rintro (q | q)
     ·rw [<- a2t, hx] at q; cases q
     ·exact q ml
    ·rw [if_neg hx, if_pos]
     left; rw [<- a2t]; simpa using hx
   | none =>
    rw [hr] at hm
    simp only at hm ⊢
    rw [if_pos]
    right; omega
 ·rw [if_neg h, if_neg (by rw [<- a2t]; exact h)]
theorem c6a {p to : Str} {t o : List FileD} {i : Nat} (h : i < t.length) : mvI p to (t.drop i) o = if atB t[i].path p then (if (putI o ⟨to ++ t[i].path.drop p.length, t[i].text⟩).2 then mvI p to (t.drop (i + 1)) (putI o ⟨to ++ t[i].path.drop p.length, t[i].text⟩).1 else none) else mvI p to (t.drop (i + 1)) o := by
 rw [List.drop_eq_getElem_cons h]; rfl
theorem c8e {p to : Str} {t o : List FileD} {i : Nat} (h : t.length <= i) : mvI p to (t.drop i) o = some o := by
 rw [List.drop_eq_nil_of_le h]; rfl
def comI (r : RepoD) (n : Str) : List Int := if 0 <= atL r.heads n then [atL r.heads n] else []
theorem c9e {r : RepoD} (h : a0j r = true) {n w : Str} {t : List FileD} : cmL r n ⟨comI r n, w, t⟩ = addR r n (comC r n w t) := by
 rw [a0A] at h
 rw [b3R ((a0Q r).1 h).2.1]; rfl
theorem a3U {r : RepoD} {n w : Str} {t : List FileD} : a0U r n w t = if a0j r then (if a0j (cmL r n ⟨comI r n, w, t⟩) then (cmL r n ⟨comI r n, w, t⟩, true) else (r, false)) else (noR, false) := by
 unfold a0U
 by_cases h : a0j r = true
 ·rw [if_pos h, if_pos (by rw [<- a0A]; exact h), c9e h, a0A]
 ·rw [if_neg h, if_neg (by rw [<- a0A]; exact h)]; rfl
theorem a4G {r : RepoD} {n : Str} {a : Int} : a0u r n a = if a0j r then (if 0 <= atL r.heads n then (r, false) else if a0j ⟨r.commits, ptL r.heads n a⟩ then (⟨r.commits, ptL r.heads n a⟩, true) else (r, false)) else (noR, false) := by
 unfold a0u
 by_cases h : a0j r = true
 ·have h' : a0f r = true := by rw [<- a0A]; exact h
  rw [if_pos h, if_pos h', b7C ((a0Q r).1 h').2.1, a0A]
  by_cases h1 : 0 <= atL r.heads n
  ·rw [if_pos h1, if_pos (.inl h1)]
  ·rw [if_neg h1]
   by_cases h2 : a0f ⟨r.commits, hSet r.heads n a⟩ = true
   ·rw [if_pos h2, if_neg]
    rintro (q | q)
    ·exact h1 q
    ·rw [h2] at q; cases q
   ·rw [if_neg h2, if_pos (.inr (by simpa using h2))]
 ·rw [if_neg h, if_neg (by rw [<- a0A]; exact h)]; rfl
theorem c6y {r : RepoD} (h : a0j r = true) {n w : Str} (h1 : 0 <= atL r.heads n) {o b : List FileD} (ho : a0r o = true) (hb : a0r b = true) :
  a2y r n w o b = if (a1s o (a0o r (atL r.heads n)) b).2 then
   (if a0j (cmL r n ⟨[atL r.heads n], w, (a1s o (a0o r (atL r.heads n)) b).1⟩) then (cmL r n ⟨[atL r.heads n], w, (a1s o (a0o r (atL r.heads n)) b).1⟩, 0) else (r, 5))
   else (r, 4) := by
 have hlt := a7e h h1
 unfold a2y
 rw [a9Z ho (a3p h ⟨h1, hlt⟩) hb]
 have hS := h
 rw [a0A] at hS
 have hH := ((a0Q r).1 hS).2.1
 by_cases hj : (a1n o (a0o r (atL r.heads n)) b).2 = []
 ·rw [if_pos hj, if_pos hj]
  simp only [if_true]
  rw [b3R hH, a0A]
 ·rw [if_neg hj, if_neg hj]
  simp
theorem b9T {r : RepoD} (h : a0j r = true) {c : Int} (hc : 0 <= c /\ c < r.commits.length) : a0r (a2r r c) = true := by
 have hi : c.toNat < r.commits.length := by omega
 obtain ⟨_, h2, _⟩ := a2P h hi
 have hg : r.commits.getD c.toNat default = r.commits[c.toNat] := by simp [List.getD_eq_getElem?_getD, hi]
 unfold a2r
 rw [hg]
 cases hp : r.commits[c.toNat].parents with
 | nil => rfl
 | cons p ps =>
  have := h2 p (by rw [hp]; simp)
  exact a3p h ⟨this.1, by omega⟩
theorem pS_1 {r : RepoD} (h : a0j r = true) {back : Bool} {n w : Str} {c : Int} (hx : atL r.heads n < 0 \/ a1a w = false \/ ¬ (0 <= c /\ c < r.commits.length)) : a1t back r n w c = (r, 1) := by
 unfold a1t; rw [if_pos (by rw [<- a0A]; exact h), if_pos hx]
theorem c9K {r : RepoD} (h : a0j r = true) {back : Bool} {n w : Str} {c : Int} (h1 : 0 <= atL r.heads n) (h2 : a1a w = true) (h3 : 0 <= c /\ c < r.commits.length) :
  a1t back r n w c = if back then a2y r n w (a0o r c) (a2r r c) else a2y r n w (a2r r c) (a0o r c) := by
 unfold a1t
 rw [if_pos (by rw [<- a0A]; exact h), if_neg]
 rintro (q | q | q)
 ·omega
 ·rw [h2] at q; cases q
 ·exact q h3
--TAB a2C
def a4A (r : RepoD) (n : Int) : List FileD := if n < 0 then [] else a0o r n
def a9K : Con := .fn 13 (RepoD × Int) (fun a => [a0Y a.1, .int .i64 a.2]) (fun a => -1 <= a.2 /\ a.2 < a.1.commits.length) (fun a => .sl true 2 (a0b (a4A a.1 a.2))) (fun _ => [])
theorem b5e : Has Tryz.prog 84 a9K := by
 refine a0d mixed a2p HasL.nil [0, 1, 2, 4] ((fun a n (_ : Nat) => (fun _ => a0s) a n)) [] Tryz.func84 (by unfold Tryz.f84; rfl) (fun _ => ⟨(), trivial⟩) ?_
 intro a ha
 obtain ⟨r, n⟩ := a
 obtain ⟨h1, h2⟩ : -1 <= n /\ n < r.commits.length := ha
 by_cases h0 : n < 0
 ·have e : a4A r n = [] := by unfold a4A; rw [if_pos h0]
  simp -implicitDefEqProofs [a9K, Con.fn, a2C, tTab, e, h1, h2]
  try dsimp only
  exact fun h => absurd h (by omega)
 ·have hi : n.toNat < r.commits.length := by omega
  have e : Option.map a0E r.commits[n.toNat]? = some (a0E r.commits[n.toNat]) := by simp -implicitDefEqProofs [hi]
  have e2 : a4A r n = r.commits[n.toNat].tree := by unfold a4A a0o; rw [if_neg h0]; simp -implicitDefEqProofs [List.getD_eq_getElem?_getD, hi]
  simp -implicitDefEqProofs [a9K, Con.fn, a2C, tTab, e, e2, a0E, hi, h1, h2]
  try dsimp only
  exact fun h => absurd h h0
theorem c4K (r : RepoD) (a : Int) (h : ∀ p ∈ (r.commits.getD a.toNat default).parents, 0 <= p) : a2r r a = a4A r (a5r r a) := by
 unfold a2r a5r
 cases hp : (r.commits.getD a.toNat default).parents with
 | nil => rfl
 | cons p l =>
  have := h p (by rw [hp]; simp)
  show a0o r p = a4A r p
  unfold a4A
  rw [if_neg (by omega)]
theorem c7y {r : RepoD} (h : a0j r = true) {a : Int} (h0 : 0 <= a) (h1 : a < r.commits.length) : a2r r a = a4A r (a5r r a) := c4K r a fun p hp => by
 have hc : a.toNat < r.commits.length := by omega
 exact ((a2P h hc).2.1 p (by simpa [List.getD_eq_getElem?_getD, hc] using hp)).1
--TAB a0G
abbrev oR (x : RepoD × Int) : AV := .tup [.agg [.own 8 3 (a0e x.1.commits), .own 9 2 (a0c x.1.heads)], .int .i64 x.2]
abbrev oRf (x : RepoD × Int) : List (Nat × Blk) := a1S 8 x.1.commits ++ a2e 9 x.1.heads
def b6o : Con := .fn 49 (RepoD × Str × Str × List FileD × List FileD) (fun a => [a0Y a.1, .str a.2.1, .str a.2.2.1, .sl true 2 (a0b a.2.2.2.1), .sl true 2 (a0b a.2.2.2.2)]) (fun a => a0j a.1 = true /\ 0 <= atL a.1.heads a.2.1 /\ a0r a.2.2.2.1 = true /\ a0r a.2.2.2.2 = true) (fun a => oR (a2y a.1 a.2.1 a.2.2.1 a.2.2.2.1 a.2.2.2.2)) (fun a => oRf (a2y a.1 a.2.1 a.2.2.1 a.2.2.2.1 a.2.2.2.2))
theorem c2i : Has Tryz.prog 135 b6o := by
 refine a0d mixed a0B (HasL.cons a4p (HasL.cons a7w (HasL.cons b0a (HasL.cons a3t (HasL.cons a8M (HasL.cons a6d HasL.nil)))))) [0, 1, 2, 3, 4, 5, 10, 11, 12, 13, 14, 15] ((fun a n (_ : Nat) => (fun _ => a0s) a n)) [16417, 16425, 16426] Tryz.func135 (by unfold Tryz.f135; rfl) (fun _ => ⟨(), trivial⟩) ?_
 intro a ha
 obtain ⟨r, n, w, o, b⟩ := a
 obtain ⟨h1, h2, h3, h4⟩ : a0j r = true /\ 0 <= atL r.heads n /\ a0r o = true /\ a0r b = true := ha
 simp (maxSteps := 8000000) [-kStep_move, -kStepC_move, -Bool.exists_bool, b6o, cAtI, a7R, a7h, a4F, a7N, a9O, a6Q, a3T, Con.fn, a0G, tTab, a0t]
 try dsimp only
 try simp only [and_assoc, exists_eq_left, exists_and_left, RepoD.ex1, RepoD.eta]
 obtain ⟨hz, hp⟩ := a1y h1
 have hn := a3o h1
 have hlt := a7e h1 h2
 have ht := a3p h1 ⟨h2, hlt⟩
 have hP := c6y h1 h2 h3 h4 (n := n) (w := w)
 have ta : a0o r (atL r.heads n) = (r.commits[(atL r.heads n).toNat]?.getD default).tree := by unfold a0o; rw [List.getD_eq_getElem?_getD]
 have jt := @a8a o (a0o r (atL r.heads n)) b
 rw [ta] at hP ht jt
 rw [hP]
 generalize a1s o (r.commits[(atL r.heads n).toNat]?.getD default).tree b = J at *
 refine ⟨h2, hlt, a5P h3, a5P ht, a5P h4, fun hj => ?_, fun hj => ⟨hz, [atL r.heads n], rfl, trivial, trivial, rfl, hz.2.2, hz.1, (b0X jt).1, (b0X jt).2, trivial, trivial, hz, c2z h1 jt, ?_⟩⟩
 ·rw [if_neg (by simp -implicitDefEqProofs [hj])]; exact ⟨hz, rfl, rfl, rfl, rfl, rfl⟩
 ·rw [if_pos hj]
  exact ⟨fun h => by simp -implicitDefEqProofs [h], fun h => by simp -implicitDefEqProofs [h]⟩
def b6x : Con := .fn 50 (RepoD × Str × Str × Int × Bool) (fun a => [a0Y a.1, .str a.2.1, .str a.2.2.1, .int .i64 a.2.2.2.1, .bool a.2.2.2.2]) (fun a => a0j a.1 = true) (fun a => oR (a1t a.2.2.2.2 a.1 a.2.1 a.2.2.1 a.2.2.2.1)) (fun a => oRf (a1t a.2.2.2.2 a.1 a.2.1 a.2.2.1 a.2.2.2.1))
theorem c3P : Has Tryz.prog 89 b6x := by
 refine a0d mixed a0B (HasL.cons a4p (HasL.cons a4u (HasL.cons a5n (HasL.cons a3t (HasL.cons c2J (HasL.cons b5e (HasL.cons c2i HasL.nil))))))) [0, 1, 2, 3, 4, 5, 10, 11, 12, 13] ((fun a n (_ : Nat) => (fun _ => a0s) a n)) [] Tryz.func89 (by unfold Tryz.f89; rfl) (fun _ => ⟨(), trivial⟩) ?_
 intro a ha
 obtain ⟨r, n, w, c, k⟩ := a
 replace ha : a0j r = true := ha
 simp (maxSteps := 8000000) [-kStep_move, -kStepC_move, -Bool.exists_bool, b6x, cAtI, a4V, a5H, a4F, b6q, a9K, b6o, Con.fn, a0G, tTab, a0t]
 try dsimp only
 try simp only [and_assoc, exists_eq_left, exists_and_left, RepoD.ex1, RepoD.eta]
 obtain ⟨hz, hp⟩ := a1y ha
 have hn := a3o ha
 refine ⟨fun h h' => ⟨h, h', by omega⟩, ?_, fun _ => ⟨fun h => ?_, fun c1 c2 c3 c4 => ?_⟩⟩
 ·rcases Int.lt_or_le (atL r.heads n) 0 with h | h
  ·exact .inl (.inl h)
  ·cases hw : a1a w with
   | false => exact .inl (.inr rfl)
   | true => exact .inr ⟨h, rfl⟩
 ·rw [pS_1 ha (by rcases h with (h | h) | h | h; exact .inl h; exact .inr (.inl h); exact .inr (.inr (by omega)); exact .inr (.inr (by omega)))]
  exact ⟨hz, rfl, rfl, rfl, rfl, rfl⟩
 ·have hc : c < r.commits.length := by omega
  obtain ⟨f1, f2⟩ := c5o ha c3 hc
  have e1 : a4A r c = a0o r c := by unfold a4A; rw [if_neg (by omega)]
  have e2 := c7y ha c3 hc
  have g := c9K ha (back := k) c1 c2 ⟨c3, hc⟩
  have t1 := a3p ha ⟨c3, hc⟩
  have t2 := b9T ha ⟨c3, hc⟩
  rw [e1, <- e2, g]
  refine ⟨c3, hc, f1, by omega, by omega, hc, fun hk => ?_, fun hk => ?_⟩
  ·rw [hk]; exact ⟨ha, c1, t1, t2, rfl, rfl, rfl, rfl, rfl⟩
  ·rw [hk]; exact ⟨ha, c1, t2, t1, rfl, rfl, rfl, rfl, rfl⟩
--TAB a0G
def a7k : Con := .fn 22 (List FileD × FileD) (fun a => [.sl true 2 (a0b a.1), .agg [.str a.2.path, .sl true 1 (a0a a.2.text)]]) (fun a => okSz a.1 /\ a.2.text.length <= 1048576 /\ a.2.path.length <= 1048576) (fun a => .tup [.own 8 2 (a0b (a4O a.1 a.2).1), .bool (a4O a.1 a.2).2]) (fun a => a2m 8 (a4O a.1 a.2).1)
theorem b0y : Has Tryz.prog 40 a7k := by
 refine a0d mixed a0B (HasL.cons a3M (HasL.cons b9E (HasL.cons b1e HasL.nil))) [0, 1, 3, 4, 5, 6] ((fun a n (_ : Nat) => (fun _ => a0s) a n)) [] Tryz.func40 (by unfold Tryz.f40; rfl) (fun _ => ⟨(), trivial⟩) ?_
 intro a ha
 obtain ⟨t, f⟩ := a
 obtain ⟨h1, h4, h5⟩ : okSz t /\ f.text.length <= 1048576 /\ f.path.length <= 1048576 := ha
 simp (maxSteps := 8000000) -implicitDefEqProofs [-kStep_move, -kStepC_move, -Bool.exists_bool, a7k, a4q, cPut, a8x, Con.fn, a0G, tTab]
 try dsimp only
 obtain ⟨k1, k2, k3⟩ := h1
 refine ⟨k3, fun h => ?_, fun h => ⟨t, f, ⟨rfl, rfl, rfl⟩, ⟨⟨k1, k2⟩, h4⟩, t, (putI t f).1, ⟨rfl, rfl⟩, rfl, ⟨⟨k1, k2⟩, fun g hg => ?_⟩, ?_⟩⟩
 ·unfold a4O; rw [if_neg (by simp -implicitDefEqProofs [h])]; exact ⟨⟨rfl, rfl⟩, rfl⟩
 ·rcases b7F t f g hg with q | rfl
  ·exact k3 g q
  ·omega
 ·unfold a4O; rw [if_pos h]
  by_cases q : a0r (putI t f).1 = true
  ·rw [if_pos q, if_pos q]; exact ⟨⟨rfl, q.symm⟩, rfl⟩
  ·rw [if_neg q, if_neg q]; exact ⟨⟨rfl, by simpa using q⟩, rfl⟩
def a8F : Con := .fn 34 (List FileD × Str) (fun a => [.sl true 2 (a0b a.1), .str a.2]) (fun a => okSz a.1 /\ a.2.length <= 536870912) (fun a => .tup [.own 8 2 (a0b (a3q a.1 a.2).1), .bool (a3q a.1 a.2).2]) (fun a => a2m 8 (a3q a.1 a.2).1)
theorem b5x : Has Tryz.prog 86 a8F := by
 refine a0d mixed a0B (HasL.cons a3M (HasL.cons a2l (HasL.cons b6V HasL.nil))) [0, 1, 4, 5, 6, 8, 13, 14, 15] ((fun a n (_ : Nat) => (fun a _ => ⟨Nat, fun i => ⟨[(0, true, .sl true 2 (a0b a.1)), (1, true, .str a.2), (4, true, .nil), (5, true, .bool false), (6, true, .own 9 2 (a0b (filB (a1C a.2) (a.1.take i)))), (13, true, .own 10 2 (a3G (a1C a.2) a.1 i)), (14, true, .int .i64 a.1.length), (15, true, .int .i64 i)], [(9, .own 66 2 true (a0b (filB (a1C a.2) (a.1.take i)))), (10, .own 66 2 true (a3G (a1C a.2) a.1 i))]⟩, fun i => i <= a.1.length /\ a0r a.1 = true, fun i => a.1.length - i⟩) a n)) [25] Tryz.func86 (by unfold Tryz.f86; rfl) (fun _ => ⟨(), trivial⟩) ?_
 intro a ha
 obtain ⟨t, q⟩ := a
 obtain ⟨h1, h2⟩ : okSz t /\ q.length <= 536870912 := ha
 simp -implicitDefEqProofs [a8F, a4q, a2E, b5E, Con.fn, a0G, tTab]
 try dsimp only
 obtain ⟨k1, k2, k3⟩ := h1
 generalize hp : a1C q = p
 have hpv : ∀ f : FileD, atB f.path q = !p f := fun f => by rw [<- hp]; simp -implicitDefEqProofs [a1C]
 have hI : a0r t = true -> a3q t q = (filB p t, decide ((filB p t).length < t.length)) := fun h => by unfold a3q; rw [if_pos h, hp]
 have hF : a0r t = false -> a3q t q = ([], false) := fun h => by unfold a3q; rw [if_neg (by simp -implicitDefEqProofs [h])]
 refine ⟨k3, fun h => by rw [hF h]; exact ⟨⟨rfl, rfl⟩, rfl⟩, fun hT => ⟨⟨k1, k2⟩, fun _ => ⟨⟨0, by simp -implicitDefEqProofs [c0D, b9q, hT]⟩, fun i hi _ => ⟨fun hlt => ?_, fun hge _ _ => ?_⟩⟩⟩⟩
 ·have g1 := c2O (p := p) hlt
  have g2 := c2Q p t i
  have g3 := c2H p t i
  have g5 : (a3G p t i)[i]'(by rw [g2]; exact hlt) = a0p t[i] := by
   have := g1
   rw [List.getElem?_eq_getElem (by rw [g2]; exact hlt)] at this
   exact Option.some.inj this
  simp -implicitDefEqProofs [g1, g5, g2, a0p, D.asStr, D.asRows, hlt, and_assoc]
  refine ⟨h2, fun hh => ⟨by omega, by omega, by omega, by omega, fun _ _ => ?_⟩, fun hh => ⟨by omega, by omega, fun _ _ => ?_⟩⟩
  ·have hh : p t[i] = true := by have := hpv t[i]; rw [hh] at this; simpa using this.symm
   have e1 := b3T (p := p) hlt hh
   have e2 := c2P (p := p) hlt hh
   have e3 : a0b (filB p (t.take (i + 1))) = a0b (filB p (t.take i)) ++ [[D.str t[i].path, D.sl 9 1 (a0a t[i].text)]] := by rw [e1, a0q]; rfl
   exact ⟨i + 1, e3, e2.symm, by omega, e3.symm, e2, by omega, hT, by omega⟩
  ·have hh : p t[i] = false := by have := hpv t[i]; rw [hh] at this; simpa using this.symm
   have e1 := b1P (p := p) hlt hh
   have e2 := c0C (p := p) hlt hh
   exact ⟨i + 1, e1, e2, by omega, e1.symm, e2.symm, by omega, hT, by omega⟩
 ·rw [hI hT, List.take_of_length_le hge]; exact ⟨⟨rfl, rfl⟩, rfl⟩
def anyA (p : Str) (t : List FileD) (i : Nat) : Bool := (t.take i).any fun f => atB f.path p
theorem c2h (p : Str) (t : List FileD) : anyA p t 0 = false := rfl
theorem c2g {p : Str} {t : List FileD} {i : Nat} (h : i < t.length) : anyA p t (i + 1) = (anyA p t i || atB t[i].path p) := by unfold anyA; rw [a0x h, List.any_append]; simp
theorem c8s {o : List FileD} {f : FileD} (h : Srt (o ++ [f])) : (putI o f).1 = o ++ [f] := by
 have := c5y (o := o) (l := [f]) h
 simpa [inP] using this
theorem c9a {p q : Str} (h : atB p q = true) : q.length <= p.length := by
 unfold atB at h
 simp only [Bool.or_eq_true, decide_eq_true_eq] at h
 rcases h with rfl | h
 ·exact Nat.le_refl _
 ·unfold a5z at h
  simp only [Bool.and_eq_true, decide_eq_true_eq, List.length_append] at h
  omega
def mvA (a : List FileD × Str × Str) : Inv := ⟨Nat, fun i => ⟨[(0, true, .sl true 2 (a0b a.1)), (1, true, .str a.2.1), (2, true, .str a.2.2), (6, true, .nil), (7, true, .bool false), (8, true, .own 9 2 (a0b (filB (a1C a.2.1) (a.1.take i)))), (9, true, .bool false), (19, true, .sl true 2 (a0b a.1)), (20, true, .int .i64 a.1.length), (21, true, .int .i64 i)], [(9, .own 66 2 true (a0b (filB (a1C a.2.1) (a.1.take i))))]⟩, fun i => i <= a.1.length /\ a0r a.1 = true, fun i => a.1.length - i⟩
def mvB (a : List FileD × Str × Str) : Inv := ⟨Nat × List FileD, fun x => ⟨[(0, true, .sl true 2 (a0b a.1)), (1, true, .str a.2.1), (2, true, .str a.2.2), (6, true, .nil), (7, true, .bool false), (8, true, .own 9 2 (a0b x.2)), (9, true, .bool (anyA a.2.1 a.1 x.1)), (36, true, .sl true 2 (a0b a.1)), (37, true, .int .i64 a.1.length), (38, true, .int .i64 x.1)], [(9, .own 66 2 true (a0b x.2))]⟩,
 fun x => x.1 <= a.1.length /\ a0r a.1 = true /\ mvI a.2.1 a.2.2 (a.1.drop x.1) x.2 = mvI a.2.1 a.2.2 a.1 (filB (a1C a.2.1) a.1) /\ x.2.length <= 8 + x.1 /\ ∀ f ∈ x.2, f.text.length <= 1048576 /\ f.path.length <= 4194304, fun x => a.1.length - x.1⟩
def c1p (a : List FileD × Str × Str) (n _g : Nat) : Inv := if n = 5 then mvA a else mvB a
theorem c8f (a : List FileD × Str × Str) (g : Nat) : c1p a 5 g = mvA a := rfl
theorem c6b (a : List FileD × Str × Str) (g : Nat) : c1p a 11 g = mvB a := rfl
def a8H : Con := .fn 81 (List FileD × Str × Str) (fun a => [.sl true 2 (a0b a.1), .str a.2.1, .str a.2.2]) (fun a => okSz a.1 /\ a.2.1.length <= 1048576 /\ a.2.2.length <= 1048576) (fun a => .tup [.own 8 2 (a0b (a2J a.1 a.2.1 a.2.2).1), .bool (a2J a.1 a.2.1 a.2.2).2]) (fun a => a2m 8 (a2J a.1 a.2.1 a.2.2).1)
theorem b5z : Has Tryz.prog 87 a8H := by
 refine a0d mixed a0B (HasL.cons a3M (HasL.cons a2l (HasL.cons b6V (HasL.cons b9E (HasL.cons b1e (HasL.cons a6t HasL.nil)))))) [0, 1, 2, 6, 7, 8, 9, 11, 13, 14, 15, 19, 20, 21, 36, 37, 38] (fun a => c1p a) [] Tryz.func87 (by unfold Tryz.f87; rfl) (fun _ => ⟨(), trivial⟩) ?_
 intro a ha
 obtain ⟨t, q, to⟩ := a
 obtain ⟨h1, h2, h3⟩ : okSz t /\ q.length <= 1048576 /\ to.length <= 1048576 := ha
 simp (maxSteps := 8000000) -implicitDefEqProofs [-kStep_move, -kStepC_move, -Bool.exists_bool, a8H, a4q, a2E, b5E, cPut, a8x, a6B, Con.fn, a0G, tTab, c8f, c6b, mvA, mvB]
 try dsimp only
 obtain ⟨k1, k2, k3⟩ := h1
 have hF : a0r t = false -> a2J t q to = ([], false) := fun h => by unfold a2J; rw [if_neg (by simp -implicitDefEqProofs [h])]
 refine ⟨k3, fun h => by rw [hF h]; exact ⟨⟨rfl, rfl⟩, rfl⟩, fun hT _ => ⟨⟨0, by simp -implicitDefEqProofs [b9q, hT]⟩, fun i hi _ => ⟨fun hlt => ⟨hlt, fun _ => ?_⟩, fun hge _ => ?_⟩⟩⟩
 ·have e1 : Option.map a0p t[i]? = some (a0p t[i]) := by simp -implicitDefEqProofs [hlt]
  have hs := b2h hT
  have hst : a1C q t[i] = true -> (putI (filB (a1C q) (t.take i)) t[i]).1 = filB (a1C q) (t.take (i + 1)) := fun hd => by
   have e := b3T (p := a1C q) hlt hd
   rw [e]; exact c8s (by rw [<- e]; exact (hs.sublist (List.take_sublist _ _)).filter _)
  have hms := b1P (p := a1C q) hlt
  have hd : a1C q t[i] = !atB t[i].path q := rfl
  have m1 : (filB (a1C q) (t.take i)).length <= 1048576 := by have := c2H (a1C q) t i; omega
  have m2 : ∀ f ∈ filB (a1C q) (t.take i), f.text.length <= 1048576 := fun f hf => k2 f (List.mem_of_mem_take (List.mem_filter.1 hf).1)
  have m3 := k2 t[i] (List.getElem_mem hlt)
  rw [e1]
  generalize t[i] = f at *
  simp -implicitDefEqProofs [a0p, D.asStr, D.asRows]
  refine ⟨f, q, ⟨⟨rfl, rfl⟩, rfl⟩, by omega, fun hh => ⟨_, f, ⟨rfl, rfl, rfl⟩, ⟨⟨m1, m2⟩, m3⟩, ⟨by omega, by omega⟩, fun _ _ => ⟨i + 1, ⟨⟨?_, by omega⟩, ?_⟩, ⟨by omega, hT⟩, by omega⟩⟩, fun hh => ⟨⟨by omega, by omega⟩, fun _ _ => ⟨i + 1, ⟨⟨?_, by omega⟩, ?_⟩, ⟨by omega, hT⟩, by omega⟩⟩⟩
  ·exact (hst (by rw [hd, hh]; rfl)).symm
  ·exact hst (by rw [hd, hh]; rfl)
  ·exact hms (by rw [hd, hh]; rfl)
  ·exact (hms (by rw [hd, hh]; rfl)).symm
 ·have hlen := (a9i t hT).1
  refine ⟨⟨0, filB (a1C q) t, ⟨⟨by rw [List.take_of_length_le hge], c2h q t, rfl⟩, by rw [List.take_of_length_le hge]⟩, Nat.zero_le _, hT, rfl, ?_, ?_⟩, fun j o hj _ hm hol hob => ⟨fun hlt => ⟨hlt, fun _ => ?_⟩, fun hge2 => ?_⟩⟩
  ·have := List.length_filter_le (a1C q) t; unfold filB; omega
  ·intro f hf
   have hf := (List.mem_filter.1 hf).1
   have := k3 f hf
   exact ⟨k2 f hf, by have := (a4a hT f hf).1.2; omega⟩
  ·have e1 : Option.map a0p t[j]? = some (a0p t[j]) := by simp -implicitDefEqProofs [hlt]
   have hst := c6a (p := q) (to := to) (o := o) hlt
   rw [hm] at hst
   have ha := c2g (p := q) hlt
   have m3 := k2 t[j] (List.getElem_mem hlt)
   have m4 := (a4a hT t[j] (List.getElem_mem hlt)).1.2
   rw [e1]
   generalize t[j] = f at *
   simp -implicitDefEqProofs [a0p, D.asStr, D.asRows]
   have hd : f.path.length - q.length = (f.path.drop q.length).length := by simp
   refine ⟨f, q, ⟨⟨rfl, rfl⟩, rfl⟩, by omega, fun hh => ⟨⟨by omega, by omega⟩, fun _ _ => ⟨j + 1, o, ⟨⟨rfl, by rw [ha, hh]; simp, by omega⟩, rfl⟩, ⟨by omega, hT, by rw [hst, if_neg (by simp -implicitDefEqProofs [hh])], by omega, hob⟩, by omega⟩⟩, fun hh => ?_⟩
   have hle := c9a hh
   rw [if_pos hh] at hst
   have hM : maxLen = 9223372036854775807 := rfl
   refine ⟨hle, fun _ => ⟨by omega, fun _ => ⟨o, ⟨to ++ f.path.drop q.length, f.text⟩, ⟨rfl, by rw [hd, List.take_length], rfl⟩, ⟨⟨by omega, fun g hg => (hob g hg).1⟩, m3⟩, fun hp => ⟨⟨k1, k2⟩, ?_⟩, fun hp => ⟨⟨by omega, by omega⟩, fun _ _ => ⟨j + 1, _, ⟨⟨rfl, by rw [ha, hh]; simp, by omega⟩, rfl⟩, ⟨by omega, hT, ?_, ?_, fun g hg => ?_⟩, by omega⟩⟩⟩⟩⟩
   ·rw [if_neg (by simp -implicitDefEqProofs [hp])] at hst
    have : a2J t q to = (t, false) := by unfold a2J; rw [if_pos hT, hst]
    rw [this]; exact ⟨⟨rfl, rfl⟩, rfl⟩
   ·rw [if_pos hp] at hst; exact hst.symm
   ·have := c6z o ⟨to ++ f.path.drop q.length, f.text⟩; omega
   ·rcases b7F _ _ g hg with hg | rfl
    ·exact hob g hg
    ·refine ⟨m3, ?_⟩
     show (to ++ f.path.drop q.length).length <= 4194304
     simp; omega
  ·have hx := c8e (p := q) (to := to) (o := o) hge2
   rw [hm] at hx
   have hall : anyA q t j = t.any fun f => atB f.path q := by unfold anyA; rw [List.take_of_length_le hge2]
   have hT2 : a2J t q to = if (t.any fun f => atB f.path q) = false \/ a2X to = false then (t, false) else if a0r o then (o, true) else (t, false) := by unfold a2J; rw [if_pos hT, hx]
   rw [<- hall] at hT2
   refine ⟨fun h => ⟨h, by omega⟩, fun h => ?_, fun h h' => ⟨t, o, ⟨rfl, rfl⟩, rfl, ⟨⟨k1, k2⟩, fun f hf => by have := (hob f hf).2; omega⟩, ?_⟩⟩
   ·rw [hT2, if_pos h]; exact ⟨⟨k1, k2⟩, ⟨rfl, rfl⟩, rfl⟩
   ·rw [hT2, if_neg (by simp -implicitDefEqProofs [h, h'])]
    by_cases g : a0r o = true
    ·rw [if_pos g, if_pos g]; exact ⟨⟨rfl, g.symm⟩, rfl⟩
    ·rw [if_neg g, if_neg g]; exact ⟨⟨rfl, by simpa using g⟩, rfl⟩
end Vx
end Go.Proofs.YtokdjnbcdokpjabGreatDoor
/-
  DERIVED: THE SHELF's CONTRACTS AT THIS DUMP, IN PLAIN WORDS (tools/lay-plain.mjs out of 'YtokdjnbcdokpjabGreatDoorShelf.lean', which tools/lay-shelf.mjs wrote): THE SAME DECLARATIONS UNDER THE SAME NAMES: 'import', 'namespace', 'open', 'def', 'theorem' AND NOTHING ELSE: no command of the shelf's: FOR A HAND-IN. Each laying: the table of numbers ('.._ren') and one theorem, a field a fact of the dump's own or the kernel's comparison; each contract: ONE APPLICATION.
-/
namespace Go.Proofs
open Go.Shelf
def Tryz.laysJoin_ren : Go.Shelf.Ren := ⟨fun | 156 => 131 | 165 => 170 | 166 => 171 | 169 => 172 | 240 => 191 | 241 => 192 | 276 => 209 | 277 => 210 | n => n, fun | 31 => 26 | 9 => 9 | 3 => 3 | 4 => 4 | 0 => 0 | 20 => 20 | 72 => 177 | 76 => 181 | 70 => 175 | 37 => 44 | 75 => 180 | 127 => 202 | 164 => 216 | 5 => 5 | 80 => 183 | n => n, fun | n => n⟩
theorem Tryz.laysJoin : Go.Proofs.Lays.n156 Tryz.prog Tryz.laysJoin_ren := {
  mixed := by kernel_rfl
  f156 := Tryz.func131.trans (congrArg some (by kernel_rfl))
  f165 := Tryz.func170.trans (congrArg some (by kernel_rfl))
  f166 := Tryz.func171.trans (congrArg some (by kernel_rfl))
  f169 := Tryz.func172.trans (congrArg some (by kernel_rfl))
  f240 := Tryz.func191.trans (congrArg some (by kernel_rfl))
  f241 := Tryz.func192.trans (congrArg some (by kernel_rfl))
  f276 := Tryz.func209.trans (congrArg some (by kernel_rfl))
  f277 := Tryz.func210.trans (congrArg some (by kernel_rfl))
  t0 := Tryz.underlying0
  a0 := Tryz.isAgg0
  z0 := Tryz.sizeOf0
  v0 := Tryz.zeroValue0
  t3 := Tryz.underlying3
  a3 := Tryz.isAgg3
  z3 := Tryz.sizeOf3
  v3 := Tryz.zeroValue3
  t4 := Tryz.underlying4
  a4 := Tryz.isAgg4
  z4 := Tryz.sizeOf4
  v4 := Tryz.zeroValue4
  t9 := Tryz.underlying9
  a9 := Tryz.isAgg9
  z9 := Tryz.sizeOf9
  v9 := Tryz.zeroValue9
  t20 := Tryz.underlying20
  a20 := Tryz.isAgg20
  z20 := Tryz.sizeOf20
  v20 := Tryz.zeroValue20
  t31 := Tryz.underlying26
  a31 := Tryz.isAgg26
  z31 := Tryz.sizeOf26
  v31 := Tryz.zeroValue26
  t37 := Tryz.underlying44
  a37 := Tryz.isAgg44
  z37 := Tryz.sizeOf44
  v37 := Tryz.zeroValue44
  t70 := Tryz.underlying175
  a70 := Tryz.isAgg175
  z70 := Tryz.sizeOf175
  v70 := Tryz.zeroValue175
  t72 := Tryz.underlying177
  a72 := Tryz.isAgg177
  z72 := Tryz.sizeOf177
  v72 := Tryz.zeroValue177
  t75 := Tryz.underlying180
  a75 := Tryz.isAgg180
  z75 := Tryz.sizeOf180
  v75 := Tryz.zeroValue180
  t76 := Tryz.underlying181
  a76 := Tryz.isAgg181
  z76 := Tryz.sizeOf181
  v76 := Tryz.zeroValue181
  t127 := Tryz.underlying202
  a127 := Tryz.isAgg202
  z127 := Tryz.sizeOf202
  v127 := Tryz.zeroValue202
  t164 := Tryz.underlying216
  a164 := Tryz.isAgg216
  z164 := Tryz.sizeOf216
  v164 := Tryz.zeroValue216 }
theorem Tryz.laysJoinX : Builder.Extra Tryz.prog Tryz.laysJoin_ren := {
  sizeBuilder := by kernel_rfl
  liesBuilder := by kernel_rfl
  t5 := Tryz.underlying5
  a5 := Tryz.isAgg5
  z5 := Tryz.sizeOf5
  v5 := Tryz.zeroValue5
  infoByte := by kernel_rfl
  cellsByte := by kernel_rfl
  sizeByte := by kernel_rfl
  neB5 := by decide }
end Go.Proofs
namespace Go.Proofs.YtokdjnbcdokpjabGreatDoor
set_option maxHeartbeats 4000000
namespace Vx
open Go.RowKit Go.Shelf
set_option maxRecDepth 8000
theorem b0n {q : Bool} {w : World} : ∀ {l : List Str} {vs f}, RdL q w (a0a l).flatten vs f -> vs = l.map (fun s => Value.string ⟨s.toArray⟩)
 | [], vs, f, h => by cases h; rfl
 | s :: l, vs, f, h => by
  cases h with
  | str h1 h2 => rw [b0n (l := l) h2]; rfl
def c2v : Con := .fn 75 (List Str) (fun l => [.sl true 1 (a0a l), .str []]) (fun l => l.length <= 1048576 /\ l.flatten.length <= 1073741824) (fun l => .str l.flatten) (fun _ => [])
theorem b4I (l : List Str) : Lib.join l [] = l.flatten := by
 unfold Lib.join
 induction l with
 | nil => rfl
 | cons x l ih =>
  cases l with
  | nil => simp [List.intercalate]
  | cons y l => simp [List.intercalate] at ih ⊢; exact ih
set_option maxHeartbeats 1000000 in
theorem c0L {w : World} {l : List Str} {v0 : Value} {e : Nat} {fp : List (Nat × Nat)} (h5 : RdL false w [D.sl e 1 (a0a l)] [v0] fp) (hp : l.length <= 1048576 /\ l.flatten.length <= 1073741824) :
  Calls Tryz.prog 131 #[v0, .string ⟨#[]⟩] w fun e w' => e = .returned (.string ⟨l.flatten.toArray⟩) /\ Below w.heap.size w w' := by
 rcases h5.open1 with ⟨h1, _, oa, cap, rfl, _⟩ | ⟨b, off, cap, cs, ty, fr, cvs, f1, rfl, g2, g3, g4, _, g6, g8, g9, _⟩
 ·have hl : l = [] := by simpa using h1
  subst hl
  refine (Any.strings_Join_none Tryz.laysJoin Tryz.laysJoinX oa cap ⟨#[]⟩ w).mono ?_
  rintro e w' ⟨rfl, rfl⟩
  exact ⟨rfl, Below.refl _ _⟩
 ·have hv := b0n g9
  rw [eStrs_length] at g2 g3 ⊢
  have hm : (l.map fun s : Str => (⟨s.toArray⟩ : ByteArray)).map (·.data.toList) = l := by simp [List.map_map, Function.comp_def]
  have hl : (l.map fun s : Str => (⟨s.toArray⟩ : ByteArray)).length = l.length := List.length_map _
  have hj := Any.strings_Join Tryz.laysJoin Tryz.laysJoinX b off cap (l.map fun s : Str => (⟨s.toArray⟩ : ByteArray)) ⟨#[]⟩ w (fun j x hx => by
   have hx2 := g8 j (.string x) (by rw [hv]; simp at hx ⊢; obtain ⟨s, q1, rfl⟩ := hx; exact ⟨s, q1, rfl⟩)
   simp only [World.cell?, g6]
   simpa using hx2) (Array.getElem?_eq_some_iff.1 g6).1 (by rw [hl]; omega) (by rw [hl]; omega) (by rw [hm]; exact Nat.le_trans (Nat.le_of_eq (congrArg List.length (b4I l))) (by omega))
  rw [hm] at hj
  rw [hl] at hj
  have e1 : Lib.join l [] = l.flatten := b4I l
  refine hj.mono ?_
  rintro e w' ⟨rfl, hw⟩
  exact ⟨by rw [<- e1], hw⟩
theorem c3d : Has Tryz.prog 131 c2v := by
 refine ⟨fun args w => Go.MuLone.run_callFunc_enter Tryz.func131 (by kernel_rfl) rfl args w, fun _ => ⟨(), trivial⟩, fun _ _ => rfl, ?_, trivial, .inl rfl⟩
 intro (l : List Str) (hp : l.length <= 1048576 /\ l.flatten.length <= 1073741824) c hky vs β fp hcn hpins hl1 hl2 S
 have hr := a5b hl1 S
 obtain ⟨v0, vs1, rfl, r0, hr⟩ := hr.uncons
 obtain ⟨v1, vs2, rfl, r1, hr⟩ := hr.uncons
 cases hr
 cases r1 with | str h1 h2 => ?_
 cases h2
 cases r0 with | sl h3 h4 => ?_
 cases h4
 obtain ⟨e, fp0, h5, h6⟩ := h3
 refine (c0L h5 hp).mono ?_
 rintro e w' ⟨rfl, hb⟩
 have hpp : c.pins = [] := hpins
 refine ⟨(), trivial, _, rfl, β, fp, ⟨Array.replicate c.n undef, []⟩, ⟨?_, ?_, ?_, ?_, ?_, S.fg, fun b hb' => ⟨(S.old b hb').1, (hb.block b (S.old b hb').1)⟩, hb.os, hb.tape, hb.output, hb.size, rfl, by simp, ?_⟩, ?_⟩
 ·intro t g av ht; cases ht
 ·intro h blk hm; cases hm
 ·intro h blk hm; cases hm
 ·intro h h' blk blk' hm; cases hm
 ·intro h blk hm; cases hm
 ·rw [hpp]; intro p hp; cases hp
 ·exact .str (by show l.flatten.length <= maxLen; have : maxLen = 9223372036854775807 := rfl; have := hp.2; omega) .lnil
theorem c2X (s : Str) (c : UInt8) : (idxB s c < 0) = (∀ b ∈ s, ¬ b = c) := by
 induction s with
 | nil => simp [idxB]
 | cons b l ih =>
  unfold idxB
  by_cases hb : b = c
  ·simp [hb]
  ·rw [if_neg hb]
   by_cases h : idxB l c < 0
   ·rw [if_pos h]; rw [ih] at h; simp [hb]; exact h
   ·rw [if_neg h]; rw [ih] at h
    have : ¬ (idxB l c + 1 < 0) := by rw [<- ih] at h; omega
    simp only [this, false_iff, eq_iff_iff]
    intro q; exact h fun x hx => q x (by simp [hx])
def a8y : Con := .fn 9 (Str × UInt8) (fun a => [.str a.1, .str [a.2]]) (fun _ => True) (fun a => .bool (decide (0 <= idxB a.1 a.2))) (fun _ => [])
theorem b5j : Has Tryz.prog 130 a8y := by
 refine a0d mixed a0g (HasL.cons a7c HasL.nil) [0, 1, 4] ((fun a n (_ : Nat) => (fun _ => a0s) a n)) [] Tryz.func130 (by unfold Tryz.f130; rfl) (fun _ => ⟨(), trivial⟩) ?_
 intro a _
 obtain ⟨s, b⟩ := a
 simp -implicitDefEqProofs [a8y, a6i, Con.fn, tTab]
 exact ⟨s, b, ⟨rfl, rfl⟩, Iff.rfl⟩
theorem c4V (t : List Str) : (idxB t.flatten 124 < 0) = (t.all barB = true) := by
 rw [c2X]
 simp only [List.mem_flatten, forall_exists_index, and_imp, List.all_eq_true, barB, decide_eq_true_eq, ne_eq, eq_iff_iff]
 exact ⟨fun h s hs b hb => h b s hs hb, fun h b s hs hb => h s hs b hb⟩
end Vx
end Go.Proofs.YtokdjnbcdokpjabGreatDoor
namespace Go.Proofs.YtokdjnbcdokpjabGreatDoor
set_option maxHeartbeats 4000000
namespace Vx
open Go.RowKit
set_option maxRecDepth 8000
--TAB a0G
theorem b9n {r : RepoD} (h : a0j r = true) {n : Str} {c : CommitD} (hc : ∀ f ∈ c.tree, f.path.length <= 536870912) : a1V (cmL r n c) := by
 have h1 := a3o h
 refine ⟨by simp -implicitDefEqProofs [cmL]; omega, fun x hx f hf => ?_⟩
 have hx : x ∈ r.commits ++ [c] := hx
 rcases List.mem_append.1 hx with hx | hx
 ·exact (a1y h).2.2 x hx f hf
 ·rw [List.mem_singleton.1 hx] at hf
  exact hc f hf
abbrev oRb (x : RepoD × Bool) : AV := .tup [.agg [.own 8 3 (a0e x.1.commits), .own 9 2 (a0c x.1.heads)], .bool x.2]
abbrev oRbf (x : RepoD × Bool) : List (Nat × Blk) := a1S 8 x.1.commits ++ a2e 9 x.1.heads
def cRepoCommitI : Con := .fn 36 (RepoD × Str × Str × List FileD) (fun a => [a0Y a.1, .str a.2.1, .str a.2.2.1, .sl true 2 (a0b a.2.2.2)]) (fun a => a1V a.1 /\ okSz a.2.2.2) (fun a => oRb (a0U a.1 a.2.1 a.2.2.1 a.2.2.2)) (fun a => oRbf (a0U a.1 a.2.1 a.2.2.1 a.2.2.2))
theorem c9j {P : Program} {f : Nat} {k : Con} {c : k.A -> Prop} (h1 : Has P f { k with pre := fun a => k.pre a /\ c a }) (h2 : Has P f { k with pre := fun a => k.pre a /\ ¬ c a }) : Has P f k :=
 ⟨h1.enter, h1.tot, h1.nob, fun a ha => by
  by_cases q : c a
  ·exact h1.calls a ⟨ha, q⟩
  ·exact h2.calls a ⟨ha, q⟩, h1.bldr, h1.bt⟩
def b1x : Con := { A := RepoD × Str × Str × List FileD, X := Unit, n := 28, args := fun a => [.agg [.own 0 3 (a0e a.1.commits), .own 1 2 (a0c a.1.heads)], .str a.2.1, .str a.2.2.1, .sl true 2 (a0b a.2.2.2), .nil], boxes := fun _ => [], pre := fun a => a.1.heads.length <= 1048576 /\ a.1.commits.length <= 1048576 /\ a.2.2.2.length <= 1048576 /\ ∀ f ∈ a.2.2.2, f.text.length <= 1048576, post := fun _ _ => True, res := fun a _ => .agg [.own 8 3 (a0e (cmL a.1 a.2.1 ⟨[], a.2.2.1, a.2.2.2⟩).commits), .own 9 2 (a0c (cmL a.1 a.2.1 ⟨[], a.2.2.1, a.2.2.2⟩).heads)], fin := fun a _ => a1S 8 (cmL a.1 a.2.1 ⟨[], a.2.2.1, a.2.2.2⟩).commits ++ a2e 9 (cmL a.1 a.2.1 ⟨[], a.2.2.1, a.2.2.2⟩).heads, owns := fun a => a3T a.1, mv := true }
theorem b8k : Has Tryz.prog 108 b1x := by
 refine a0d mixed a0B (HasL.cons a2l (HasL.cons a7s HasL.nil)) [0, 1, 2, 3, 4, 5, 10] ((fun a n (_ : Nat) => (fun _ => a0s) a n)) [18] Tryz.func108 (by unfold Tryz.f108; rfl) (fun _ => ⟨(), trivial⟩) ?_
 intro a ha
 obtain ⟨r, n, w, t⟩ := a
 obtain ⟨h1, h2, h3, h4⟩ : r.heads.length <= 1048576 /\ r.commits.length <= 1048576 /\ t.length <= 1048576 /\ ∀ f ∈ t, f.text.length <= 1048576 := ha
 simp (maxSteps := 8000000) -implicitDefEqProofs [b1x, a3T, a7Q, a2E, Con.fn, a0G, tTab, a0t]
 try dsimp only
 have sn : a0e r.commits ++ [[D.sl 3 1 [], D.str w, D.sl 66 2 (a0b t)]] = a0e (r.commits ++ [⟨[], w, t⟩]) := a3d _ [] _ _
 rw [sn]
 exact ⟨⟨h3, h4⟩, ⟨by omega, by omega⟩, fun _ => ⟨by omega, fun _ => ⟨⟨r.commits ++ [⟨[], w, t⟩], r.heads⟩, n, _, ⟨⟨rfl, rfl⟩, rfl, rfl⟩, ⟨rfl, rfl⟩, h1, ⟨rfl, rfl⟩, rfl, rfl⟩⟩⟩
def a9H : Con := { cRepoCommitI with pre := fun a => cRepoCommitI.pre a /\ 0 <= atL a.1.heads a.2.1 }
theorem b3m : Has Tryz.prog 132 a9H := by
 refine a0d mixed a0B (HasL.cons a1T (HasL.cons a4p (HasL.cons a3t (HasL.cons a8M (HasL.cons a6d HasL.nil))))) [0, 1, 2, 3, 4, 8, 9, 10, 11] ((fun a n (_ : Nat) => (fun _ => a0s) a n)) [16409, 16416, 16417] Tryz.func132 (by unfold Tryz.f132; rfl) (fun _ => ⟨(), trivial⟩) ?_
 intro a ha
 obtain ⟨r, n, w, t⟩ := a
 obtain ⟨⟨h1, h2⟩, h0⟩ : (a1V r /\ okSz t) /\ 0 <= atL r.heads n := ha
 simp (maxSteps := 8000000) [-kStep_move, -kStepC_move, -Bool.exists_bool, a9H, cRepoCommitI, a2z, cAtI, a4F, a7N, a9O, a6Q, a3T, Con.fn, a0G, tTab, a0t]
 try dsimp only
 try simp only [and_assoc, exists_eq_left, exists_and_left, RepoD.ex1, RepoD.eta]
 refine ⟨h1, fun h => ?_, fun h => ⟨fun _ => ?_, h0⟩⟩
 ·rw [a3U, if_neg (by simp -implicitDefEqProofs [h])]; exact ⟨rfl, rfl, rfl, rfl, rfl⟩
 ·obtain ⟨hz, hp⟩ := a1y h
  obtain ⟨k1, k2, k3⟩ := h2
  have hc : a0r t = true \/ True := .inr trivial
  refine ⟨hz, [atL r.heads n], rfl, trivial, trivial, rfl, hz.2.2, hz.1, k1, k2, trivial, trivial, hz, b9n h k3, ?_⟩
  have e : a0U r n w t = if a0j (cmL r n ⟨[atL r.heads n], w, t⟩) then (cmL r n ⟨[atL r.heads n], w, t⟩, true) else (r, false) := by rw [a3U, if_pos h]; unfold comI; rw [if_pos h0]
  rw [e]
  by_cases q : a0j (cmL r n ⟨[atL r.heads n], w, t⟩) = true
  ·rw [if_pos q, if_pos q, q]; exact ⟨rfl, rfl, rfl, rfl, rfl⟩
  ·rw [if_neg q, if_neg q]; exact ⟨rfl, rfl, by simpa using q, rfl, rfl⟩
def a9I : Con := { cRepoCommitI with pre := fun a => cRepoCommitI.pre a /\ ¬ 0 <= atL a.1.heads a.2.1 }
theorem b3n : Has Tryz.prog 132 a9I := by
 refine a0d mixed a0B (HasL.cons a1T (HasL.cons a4p (HasL.cons a3t (HasL.cons b8k (HasL.cons a6d HasL.nil))))) [0, 1, 2, 3, 4, 8, 9, 10, 11] ((fun a n (_ : Nat) => (fun _ => a0s) a n)) [16409, 16416, 16417] Tryz.func132 (by unfold Tryz.f132; rfl) (fun _ => ⟨(), trivial⟩) ?_
 intro a ha
 obtain ⟨r, n, w, t⟩ := a
 obtain ⟨⟨h1, h2⟩, h0⟩ : (a1V r /\ okSz t) /\ ¬ 0 <= atL r.heads n := ha
 simp (maxSteps := 8000000) [-kStep_move, -kStepC_move, -Bool.exists_bool, a9I, cRepoCommitI, a2z, cAtI, a4F, b1x, a6Q, a3T, Con.fn, a0G, tTab, a0t]
 try dsimp only
 try simp only [and_assoc, exists_eq_left, exists_and_left, RepoD.ex1, RepoD.eta]
 refine ⟨h1, fun h => ?_, fun h => ⟨by omega, fun _ => ?_⟩⟩
 ·rw [a3U, if_neg (by simp -implicitDefEqProofs [h])]; exact ⟨rfl, rfl, rfl, rfl, rfl⟩
 ·obtain ⟨hz, hp⟩ := a1y h
  obtain ⟨k1, k2, k3⟩ := h2
  refine ⟨hz, trivial, trivial, hz.2.2, hz.1, k1, k2, trivial, trivial, hz, b9n h k3, ?_⟩
  have e : a0U r n w t = if a0j (cmL r n ⟨[], w, t⟩) then (cmL r n ⟨[], w, t⟩, true) else (r, false) := by rw [a3U, if_pos h]; unfold comI; rw [if_neg h0]
  rw [e]
  by_cases q : a0j (cmL r n ⟨[], w, t⟩) = true
  ·rw [if_pos q, if_pos q, q]; exact ⟨rfl, rfl, rfl, rfl, rfl⟩
  ·rw [if_neg q, if_neg q]; exact ⟨rfl, rfl, by simpa using q, rfl, rfl⟩
theorem b3o : Has Tryz.prog 132 cRepoCommitI := c9j (c := fun a => 0 <= atL a.1.heads a.2.1) b3m b3n
def a6N : Con := .fn 27 (RepoD × Str × Int) (fun a => [a0Y a.1, .str a.2.1, .int .i64 a.2.2]) (fun a => a1V a.1) (fun a => oRb (a0u a.1 a.2.1 a.2.2)) (fun a => oRbf (a0u a.1 a.2.1 a.2.2))
theorem b3l : Has Tryz.prog 88 a6N := by
 refine a0d mixed a0B (HasL.cons a1T (HasL.cons a4p (HasL.cons a3t (HasL.cons a7s (HasL.cons a6d HasL.nil))))) [0, 1, 2, 3, 6, 7] ((fun a n (_ : Nat) => (fun _ => a0s) a n)) [16402, 16407, 16408] Tryz.func88 (by unfold Tryz.f88; rfl) (fun _ => ⟨(), trivial⟩) ?_
 intro a ha
 obtain ⟨r, n, b⟩ := a
 replace ha : a1V r := ha
 simp (maxSteps := 8000000) [-kStep_move, -kStepC_move, -Bool.exists_bool, a6N, a2z, cAtI, a4F, a7Q, a6Q, a3T, Con.fn, a0G, tTab, a0t]
 try dsimp only
 try simp only [and_assoc, exists_eq_left, exists_and_left, RepoD.ex1, RepoD.eta]
 refine ⟨ha, fun h => ?_, fun h => ⟨fun h0 => ?_, fun h0 => ?_⟩⟩
 ·rw [a4G, if_neg (by simp -implicitDefEqProofs [h])]; exact ⟨rfl, rfl, rfl, rfl, rfl⟩
 ·rw [a4G, if_pos h, if_pos h0]; exact ⟨(a1y h).1, rfl, rfl, rfl, rfl, rfl⟩
 ·obtain ⟨hz, hp⟩ := a1y h
  refine ⟨hz, trivial, trivial, hz.2.2, trivial, trivial, hz, hp, ?_⟩
  rw [a4G, if_pos h, if_neg (by omega)]
  by_cases q : a0j ⟨r.commits, ptL r.heads n b⟩ = true
  ·rw [if_pos q, if_pos q, q]; exact ⟨rfl, rfl, rfl, rfl, rfl⟩
  ·rw [if_neg q, if_neg q]; exact ⟨rfl, rfl, by simpa using q, rfl, rfl⟩
def b1J : Con := .fn 29 (RepoD × OpD × List FileD × Bool) (fun a => [a0Y a.1, vOp a.2.1, .sl true 2 (a0b a.2.2.1), .bool a.2.2.2]) (fun a => a0j a.1 = true /\ okSz a.2.2.1) (fun a => oR (a1w a.1 a.2.1 a.2.2)) (fun a => oRf (a1w a.1 a.2.1 a.2.2))
theorem b8X : Has Tryz.prog 85 b1J := by
 refine a0d mixed a0B (HasL.cons a3t (HasL.cons b3o HasL.nil)) [0, 1, 2, 3, 4, 5, 8, 9, 10] ((fun a n (_ : Nat) => (fun _ => a0s) a n)) [] Tryz.func85 (by unfold Tryz.f85; rfl) (fun _ => ⟨(), trivial⟩) ?_
 intro a ha
 obtain ⟨r, o, t, k⟩ := a
 obtain ⟨h1, h2⟩ : a0j r = true /\ okSz t := ha
 simp (maxSteps := 8000000) [-kStep_move, -kStepC_move, -Bool.exists_bool, b1J, a4F, cRepoCommitI, Con.fn, a0G, tTab, a0t, bOp]
 try dsimp only
 try simp only [and_assoc, exists_eq_left, exists_and_left, RepoD.ex1, RepoD.eta]
 obtain ⟨hz, hp⟩ := a1y h1
 refine ⟨fun h => ?_, fun h => ⟨hp, h2, fun h' => ?_, fun h' => ?_⟩⟩
 ·unfold a1w; rw [if_neg (by simp -implicitDefEqProofs [h])]; exact ⟨hz, rfl, rfl, rfl, rfl, rfl⟩
 ·have e : (a0U r o.branch o.who t).1 = r := by
   rw [a3U, if_pos h1] at h' ⊢
   split at h'
   ·cases h'
   ·rename_i q; rw [if_neg q]
  unfold a1w; rw [if_pos h, if_neg (by simp -implicitDefEqProofs [h']), e]; exact ⟨rfl, rfl, rfl, rfl, rfl⟩
 ·unfold a1w; rw [if_pos h, if_pos h']; exact ⟨rfl, rfl, rfl, rfl, rfl⟩
theorem c6W {t : List Str} (h : a1j t = true) : (t.map List.length).sum <= 1073741824 := by
 unfold a1j at h
 simp only [Bool.and_eq_true, decide_eq_true_eq, List.all_eq_true] at h
 have g : ∀ l : List Str, (∀ x ∈ l, a5U x = true) -> (l.map List.length).sum <= 1000 * l.length := by
  intro l
  induction l with
  | nil => intro _; simp
  | cons x l ih =>
   intro q
   have h1 := q x (by simp)
   have h2 := ih fun y hy => q y (by simp -implicitDefEqProofs [hy])
   unfold a5U at h1
   simp only [Bool.and_eq_true, decide_eq_true_eq] at h1
   simp only [List.map_cons, List.sum_cons, List.length_cons]
   omega
 have := g t h.2
 omega
def c0m : Con := .fn 115 OpD (fun o => [vOp o]) opSz (fun o => .bool (opB o)) (fun _ => [])
theorem c6l : Has Tryz.prog 83 c0m := by
 refine a0d mixed a0B (HasL.cons a4u (HasL.cons a6t (HasL.cons a6x (HasL.cons c3d (HasL.cons b5j (HasL.cons a6z HasL.nil)))))) [0, 1, 2, 3, 4, 5, 6, 31, 85, 100] ((fun a n (_ : Nat) => (fun _ => a0s) a n)) [] Tryz.func83 (by unfold Tryz.f83; rfl) (fun _ => ⟨(), trivial⟩) ?_
 intro (o : OpD) (ho : opSz o)
 simp (maxSteps := 8000000) [-kStep_move, -kStepC_move, -Bool.exists_bool, c0m, a4V, a6B, a6D, c2v, a8y, a6E, Con.fn, a0G, tTab, bOp]
 try dsimp only
 obtain ⟨p1, p2, p3⟩ := ho
 have hsum : a1j o.text = true -> (List.map List.length o.text).sum <= 1073741824 := c6W
 have e0 : a1a o.branch = false \/ a1a o.who = false -> opB o = false := fun h => by unfold opB; rcases h with h | h <;> rw [h] <;> simp
 refine ⟨e0, fun n1 n2 => ?_⟩
 have e1 : o.kind = 1 -> opB o = (a2X o.path && a1j o.text && decide (idxB o.text.flatten 124 < 0) && decide (o.to_ = []) && decide (o.at_ = 0)) := fun h => by
  unfold opB a3S a5M; rw [n1, n2, if_pos h, Bool.eq_iff_iff, a6I]; simp only [c4V]; simp; grind
 have e2 : o.kind = 2 -> opB o = (a2X o.path && decide (o.to_ = []) && decide (o.at_ = 0) && decide (o.text = [])) := fun h => by
  unfold opB a3S; rw [n1, n2, if_neg (by omega), if_pos h, Bool.eq_iff_iff, a6I]; simp; grind
 have e3 : o.kind = 3 -> opB o = (a2X o.path && a2X o.to_ && decide (o.at_ = 0) && decide (o.text = [])) := fun h => by
  unfold opB a3S; rw [n1, n2, if_neg (by omega), if_neg (by omega), if_pos h, Bool.eq_iff_iff, a6I, a6I]; simp; grind
 have e4 : o.kind = 4 \/ o.kind = 5 -> opB o = (a1a o.to_ && decide (o.path = []) && decide (o.at_ = 0) && decide (o.text = [])) := fun h => by
  unfold opB a3S; rw [n1, n2, if_neg (by omega), if_neg (by omega), if_neg (by omega), if_pos h, Bool.eq_iff_iff]; simp; grind
 have e6 : o.kind = 6 \/ o.kind = 7 -> opB o = (decide (0 <= o.at_) && decide (o.at_ <= 15) && decide (o.path = []) && decide (o.to_ = []) && decide (o.text = [])) := fun h => by
  unfold opB a3S; rw [n1, n2, if_neg (by omega), if_neg (by omega), if_neg (by omega), if_neg (by omega), if_pos h, Bool.eq_iff_iff]; simp; grind
 have e8 : ¬ o.kind = 1 -> ¬ o.kind = 2 -> ¬ o.kind = 3 -> ¬ o.kind = 4 -> ¬ o.kind = 5 -> ¬ o.kind = 6 -> ¬ o.kind = 7 -> opB o = false := fun a b c d e f g => by
  unfold opB; rw [if_neg a, if_neg b, if_neg c, if_neg (by omega), if_neg (by omega)]; simp
 repeat' (first
  | intro _
  | refine ⟨_, _, _, ⟨rfl, rfl, rfl⟩, ?_⟩
  | refine ⟨_, _, ⟨rfl, rfl⟩, ?_⟩
  | apply And.intro)
 all_goals first
  | omega
  | contradiction
  | assumption
  | exact hsum (by assumption)
  | exact e1 (by assumption)
  | exact e2 (by assumption)
  | exact e3 (by assumption)
  | exact e4 (by omega)
  | exact e6 (by omega)
  | exact e8 (by omega) (by omega) (by omega) (by omega) (by omega) (by omega) (by omega)
  | grind
theorem a7q {t : List FileD} (h : a0W t = true) : okSz t :=
 ⟨(a4I (a2v h)).1, (a4I (a2v h)).2, fun f hf => by have := a6y h f hf; omega⟩
theorem c3I {t : List FileD} (h : a0W t = true) (p : Str) : okSz (a2i t p).1 :=
 ⟨(a4I (a7d h p)).1, (a4I (a7d h p)).2, fun f hf => by
  unfold a2i filB at hf
  rw [if_pos h] at hf
  have := a6y h f (List.mem_filter.1 hf).1
  omega⟩
theorem c8j {o : OpD} (a : ¬ o.kind = 1) (b : ¬ o.kind = 2) (c : ¬ o.kind = 3) (d : ¬ o.kind = 4) (e : ¬ o.kind = 5) (f : ¬ o.kind = 6) (g : ¬ o.kind = 7) : opB o = false := by
 unfold opB; rw [if_neg a, if_neg b, if_neg c, if_neg (by omega), if_neg (by omega)]; simp
def a4J : Con := .fn 130 (RepoD × OpD) (fun a => [a0Y a.1, vOp a.2]) (fun a => a1V a.1 /\ opSz a.2) (fun a => oR (a0i a.1 a.2)) (fun a => oRf (a0i a.1 a.2))
theorem a4D : Has Tryz.prog 36 a4J := by
 refine a0d mixed a0B (HasL.cons a1T (HasL.cons c6l (HasL.cons a3t (HasL.cons a4p (HasL.cons b5e (HasL.cons b0y (HasL.cons b5x (HasL.cons b5z (HasL.cons b8X (HasL.cons b3l (HasL.cons a9k (HasL.cons c3P HasL.nil)))))))))))) [0, 1, 2, 3, 4, 5, 6, 7, 8, 9, 10, 11, 12, 13, 14, 15, 35] ((fun a n (_ : Nat) => (fun _ => a0s) a n)) [] Tryz.func36 (by unfold Tryz.f36; rfl) (fun _ => ⟨(), trivial⟩) ?_
 intro a ha
 obtain ⟨r, o⟩ := a
 obtain ⟨h1, h2⟩ : a1V r /\ opSz o := ha
 simp (maxSteps := 8000000) -implicitDefEqProofs [-kStep_move, -kStepC_move, -Bool.exists_bool, a4J, a2z, c0m, a4F, cAtI, a9K, a7k, a8F, a8H, b1J, a6N, a7S, b6x, Con.fn, a0G, tTab, a0t, bOp]
 try dsimp only
 simp -implicitDefEqProofs only [and_assoc, exists_eq_left, exists_and_left, RepoD.ex1, RepoD.eta, OpD.ex1, OpD.eta]
 refine ⟨h1, fun h => ?_, fun h => ⟨h2, fun hb => ?_, fun hb => ?_⟩⟩
 ·have e : a0i r o = (noR, 1) := by unfold a0i; rw [if_neg (by rw [<- a0A, h]; simp)]
  rw [e]; exact ⟨rfl, rfl, rfl, rfl, rfl⟩
 ·have e : a0i r o = (r, 1) := by unfold a0i; rw [if_pos (by rw [<- a0A]; exact h), if_neg (by simp -implicitDefEqProofs [hb])]
  rw [e]; exact ⟨(a1y h).1, rfl, rfl, rfl, rfl, rfl⟩
 ·have hS : a0f r = true := by rw [<- a0A]; exact h
  have d : a0i r o = do19 r o := by unfold a0i; rw [if_pos hS, if_pos hb]
  have eT : a4A r (atL r.heads o.branch) = a1z r o.branch := by
   unfold a4A a1z
   by_cases q : 0 <= atL r.heads o.branch
   ·rw [if_neg (by omega), if_pos q]
   ·rw [if_pos (by omega), if_neg q]
  have hT := a7J hS o.branch
  obtain ⟨p1, p2, p3⟩ := h2
  have hat := a9z (n := o.branch) ((a0Q r).1 hS).2.1
  have s0 := a7q hT
  have s1 := a7q (a9q hT ⟨o.path, o.text⟩)
  have s2 := c3I hT o.path
  have s3 := a7q (a8n hT o.path o.to_)
  rw [d, eT]
  simp only [a9j, b9b, b9c]
  have e1 : o.kind = 1 -> do19 r o = a1w r o (a2f (a1z r o.branch) ⟨o.path, o.text⟩) := fun h => by unfold do19; rw [if_pos h]
  have e2 : o.kind = 2 -> do19 r o = a1w r o (a2i (a1z r o.branch) o.path) := fun h => by unfold do19; rw [if_neg (by omega), if_pos h]
  have e3 : o.kind = 3 -> do19 r o = a1w r o (a1A (a1z r o.branch) o.path o.to_) := fun h => by unfold do19; rw [if_neg (by omega), if_neg (by omega), if_pos h]
  have e4 : o.kind = 4 -> (a0u r o.to_ (atL r.heads o.branch)).2 = true -> do19 r o = ((a0u r o.to_ (atL r.heads o.branch)).1, 0) := fun h h' => by unfold do19; rw [if_neg (by omega), if_neg (by omega), if_neg (by omega), if_pos h, if_pos h']
  have e4' : o.kind = 4 -> (a0u r o.to_ (atL r.heads o.branch)).2 = false -> do19 r o = (r, 1) := fun h h' => by unfold do19; rw [if_neg (by omega), if_neg (by omega), if_neg (by omega), if_pos h, if_neg (by simp -implicitDefEqProofs [h'])]
  have e5 : o.kind = 5 -> do19 r o = a0K r o.branch o.who (atL r.heads o.to_) := fun h => by unfold do19; rw [if_neg (by omega), if_neg (by omega), if_neg (by omega), if_neg (by omega), if_pos h]
  have e7 : ¬ o.kind = 1 -> ¬ o.kind = 2 -> ¬ o.kind = 3 -> ¬ o.kind = 4 -> ¬ o.kind = 5 -> do19 r o = a1t (decide (o.kind = 7)) r o.branch o.who o.at_ := fun k1 k2 k3 k4 k5 => by
   unfold do19; rw [if_neg k1, if_neg k2, if_neg k3, if_neg k4, if_neg k5]
   by_cases k6 : o.kind = 6
   ·rw [if_pos k6, k6]; rfl
   ·have k7 : o.kind = 7 := by
     rcases Classical.em (o.kind = 7) with q | q
     ·exact q
     ·rw [c8j k1 k2 k3 k4 k5 k6 q] at hb; cases hb
    rw [if_neg k6, k7]; rfl
  refine ⟨by omega, by omega, fun k => ⟨⟨o.path, o.text⟩, rfl, rfl, s0, p3, p1, h, s1, by rw [e1 k]; exact ⟨rfl, rfl, rfl, rfl, rfl⟩⟩, fun k1 => ⟨fun k => ⟨s0, by omega, h, s2, by rw [e2 k]; exact ⟨rfl, rfl, rfl, rfl, rfl⟩⟩, fun k2 => ⟨fun k => ⟨s0, p1, p2, h, s3, by rw [e3 k]; exact ⟨rfl, rfl, rfl, rfl, rfl⟩⟩, fun k3 => ⟨fun k => ⟨h1, fun q => ?_, fun q => ?_⟩, fun k4 => ⟨fun k => ⟨h, by rw [e5 k]; exact ⟨rfl, rfl, rfl, rfl, rfl⟩⟩, fun k5 => ⟨h, by rw [e7 k1 k2 k3 k4 k5]; exact ⟨rfl, rfl, rfl, rfl, rfl⟩⟩⟩⟩⟩⟩⟩
  ·have eb : (a0u r o.to_ (atL r.heads o.branch)).1 = r := by
    rw [a4G, if_pos h] at q ⊢
    split at q
    ·rename_i g; rw [if_pos g]
    ·rename_i g
     rw [if_neg g]
     split at q
     ·cases q
     ·rename_i g2; rw [if_neg g2]
   rw [e4' k q, eb]; exact ⟨rfl, rfl, rfl, rfl, rfl⟩
  ·rw [e4 k q]; exact ⟨rfl, rfl, rfl, rfl, rfl⟩
def anyO (o : OpD) : Prop := o.branch.length <= 4 /\ o.who.length <= 3 /\ o.path.length <= 5 /\ o.to_.length <= 5 /\ o.text.length <= 9 /\ ∀ s ∈ o.text, s.length <= 7
theorem a8N {o : OpD} (h : a6T o) : anyO o := by
 obtain ⟨_, h1, h2, h3, h4, _, h5, h6⟩ := h
 exact ⟨h1, h2, h3, h4, by omega, h6⟩
theorem a4B {o : OpD} (h : anyO o) : opSz o := by
 obtain ⟨_, _, h1, h2, h3, _⟩ := h
 exact ⟨by omega, by omega, by omega⟩
def a7M : Con := { A := Str × Int, X := OpD × Int, n := 34, args := fun _ => [.ptr 0 0], boxes := fun a => [(0, 140, [.sl true 1 (a1g a.1), .int .i64 a.2])], pre := fun a => a.1.length <= 2000 /\ 0 <= a.2 /\ a.2 <= 1073741400, post := fun a x => anyO x.1 /\ a.2 <= x.2 /\ x.2 <= a.2 + 30, res := fun _ x => .agg [.int .i64 x.1.kind, .str x.1.branch, .str x.1.who, .str x.1.path, .str x.1.to_, .int .i64 x.1.at_, .own 8 1 (a0a x.1.text)], fin := fun a x => (0, a3m a.1 x.2) :: a1Y 8 x.1.text, nob := false }
theorem anyOpD_has : Has Tryz.prog 80 a7M := by
 refine a0d mixed a0g (HasL.cons b9B (HasL.cons a4L (HasL.cons one_has (HasL.cons of_has HasL.nil)))) [0, 2, 3, 7] ((fun a n (_ : Nat) => (fun _ => a0s) a n)) [] Tryz.func80 (by unfold Tryz.f80; rfl) (fun a => ⟨((⟨1, [], [], [], [], 0, []⟩ : OpD), a.2), (by simp -implicitDefEqProofs [anyO]), Int.le_refl _, by omega⟩) ?_
 intro a ha
 obtain ⟨s, p⟩ := a
 obtain ⟨h1, h2, h3⟩ : s.length <= 2000 /\ 0 <= p /\ p <= 1073741400 := ha
 simp (maxSteps := 8000000) -implicitDefEqProofs [-kStep_move, -Bool.exists_bool, a7M, cOpD, a6n, cOne, cOf, tTab, a1L, clash, kd, a2x, a2M]
 refine ⟨s, p, ⟨rfl, rfl⟩, ⟨h1, by omega, by omega⟩, fun o q ho g1 g2 => ?_⟩
 have hA := a8N ho
 obtain ⟨a1, a2, a3, a4, a5, a6⟩ := hA
 have a5' : o.text.length <= 8 := by obtain ⟨_, _, _, _, _, _, h, _⟩ := ho; exact h
 have bt : ∀ x ∈ o.text ++ [([97, 124, 98] : Str)], x.length <= 7 := fun x hx => by
  rcases List.mem_append.1 hx with hx | hx
  ·exact a6 x hx
  ·rw [List.mem_singleton.1 hx]; decide
 exact ⟨s, q, ⟨rfl, rfl⟩, ⟨h1, by omega, by omega⟩, fun y _ _ => ⟨fun _ => ⟨s, q + 1, [0, 8, 1], rfl, ⟨rfl, rfl⟩, ⟨h1, by omega, by omega, by simp, by simp⟩, fun y _ => ⟨⟨y, o.branch, o.who, o.path, o.to_, o.at_, o.text⟩, q + 1 + 1, ⟨⟨a1, a2, a3, a4, a5, a6⟩, by omega, by omega⟩, ⟨rfl, rfl, rfl, rfl, rfl, rfl, rfl⟩, ⟨rfl, rfl⟩, rfl⟩⟩,
  fun _ => ⟨fun _ => ⟨s, q + 1, ⟨rfl, rfl⟩, ⟨h1, by omega, by omega⟩, ⟨⟨o.kind, [], o.who, o.path, o.to_, o.at_, o.text⟩, q + 1 + 1, ⟨⟨Nat.zero_le _, a2, a3, a4, a5, a6⟩, by omega, by omega⟩, ⟨rfl, rfl, rfl, rfl, rfl, rfl, rfl⟩, ⟨rfl, rfl⟩, rfl⟩, ⟨⟨o.kind, [77, 97, 105, 110], o.who, o.path, o.to_, o.at_, o.text⟩, q + 1 + 1, ⟨⟨Nat.le_refl _, a2, a3, a4, a5, a6⟩, by omega, by omega⟩, ⟨rfl, rfl, rfl, rfl, rfl, rfl, rfl⟩, ⟨rfl, rfl⟩, rfl⟩⟩,
  fun _ => ⟨fun _ => ⟨⟨by omega, by omega⟩, ⟨o.kind, o.branch, o.who, o.path, o.to_, o.at_, o.text ++ [[97, 124, 98]]⟩, q + 1, ⟨⟨a1, a2, a3, a4, by simp; omega, bt⟩, by omega, by omega⟩, ⟨rfl, rfl, rfl, rfl, rfl, rfl, by simp -implicitDefEqProofs [a0a, eStr]⟩, ⟨rfl, rfl⟩, by simp -implicitDefEqProofs [a0a, eStr]⟩,
  fun _ => ⟨fun _ => ⟨s, q + 1, [-1, 16], rfl, ⟨rfl, rfl⟩, ⟨h1, by omega, by omega, by simp, by simp⟩, fun y _ => ⟨⟨o.kind, o.branch, o.who, o.path, o.to_, y, o.text⟩, q + 1 + 1, ⟨⟨a1, a2, a3, a4, a5, a6⟩, by omega, by omega⟩, ⟨rfl, rfl, rfl, rfl, rfl, rfl, rfl⟩, ⟨rfl, rfl⟩, rfl⟩⟩,
  fun _ => ⟨o, q + 1, ⟨⟨a1, a2, a3, a4, a5, a6⟩, by omega, by omega⟩, ⟨rfl, rfl, rfl, rfl, rfl, rfl, rfl⟩, ⟨rfl, rfl⟩, rfl⟩⟩⟩⟩⟩⟩
def b9l : Con := { a7M with bty := [140] }
theorem b9V : Has Tryz.prog 80 b9l :=
 ⟨anyOpD_has.enter, anyOpD_has.tot, anyOpD_has.nob, anyOpD_has.calls, anyOpD_has.bldr, .inr fun a => ⟨fun b hb => by
  have hb : b ∈ [(0, 140, [AV.sl true 1 (a1g a.1), .int .i64 a.2])] := hb
  rw [List.mem_singleton.1 hb]; exact List.mem_singleton.2 rfl, fun x p hp ty vs e => by
  have hp : p ∈ (0, a3m a.1 x.2) :: [(8, Blk.own 9 1 true (a0a x.1.text))] := hp
  rcases List.mem_cons.1 hp with rfl | hp
  ·cases e; exact List.mem_singleton.2 rfl
  ·rw [List.mem_singleton.1 hp] at e; cases e⟩⟩
def a4C : Con := { A := Str, X := RepoD × OpD, n := 13, args := fun s => [.sl true 1 (a1g s)], boxes := fun _ => [], pre := fun _ => True, post := fun _ x => a5m x.1 /\ anyO x.2, res := fun _ x => .tup [.agg [.sl false 3 (a0e x.1.commits), .sl false 2 (a0c x.1.heads)], .agg [.int .i64 x.2.kind, .str x.2.branch, .str x.2.who, .str x.2.path, .str x.2.to_, .int .i64 x.2.at_, .own 8 1 (a0a x.2.text)]], fin := fun _ x => a1Y 8 x.2.text }
theorem a5J : Has Tryz.prog 37 a4C := by
 refine a0d mixed a0g (HasL.cons a7G (HasL.cons a9x (HasL.cons b9V HasL.nil))) [0, 2, 3, 4, 5] ((fun a n (_ : Nat) => (fun _ => a0s) a n)) [8191, 12287] Tryz.func37 (by unfold Tryz.f37; rfl) (fun _ => ⟨(noR, ⟨1, [], [], [], [], 0, []⟩), a4Y b0l, (by simp -implicitDefEqProofs [anyO])⟩) ?_
 intro (s : Str) _
 simp (maxSteps := 8000000) -implicitDefEqProofs [-kStep_move, -Bool.exists_bool, a4C, a6M, a7f, b9l, a7M, tTab, Con.fn, a1L, clash, kd, a2x, a2M]
 have hl : (s.take 2000).length <= 2000 := by simp; omega
 exact ⟨_, _, ⟨rfl, rfl⟩, ⟨hl, by omega, by omega⟩, fun r p g1 g2 g3 => ⟨_, _, ⟨rfl, rfl⟩, ⟨hl, by omega, by omega⟩, fun o q h1 _ _ => ⟨r, o, ⟨g1, h1⟩, ⟨⟨rfl, rfl⟩, rfl, rfl, rfl, rfl, rfl, rfl, rfl⟩, rfl⟩⟩⟩
def a6g : Con := { A := Str, X := List OpD, n := 18, args := fun s => [.sl true 1 (a1g s)], boxes := fun _ => [], pre := fun _ => True, post := fun _ x => x.length <= 21 /\ ∀ o ∈ x, anyO o, res := fun _ x => .own 8 7 (eOps x), fin := fun _ x => [(8, .own 58 7 true (eOps x))] }
theorem b1N : Has Tryz.prog 33 a6g := by
 refine a0d mixed a0g (HasL.cons a7G (HasL.cons b7r (HasL.cons a4L (HasL.cons anyOpD_has HasL.nil)))) [0, 2, 3, 4] ((fun a n (_ : Nat) => (fun _ => a0s) a n)) [8191, 12287] Tryz.func33 (by unfold Tryz.f33; rfl) (fun _ => ⟨([] : List OpD), Nat.zero_le _, (by simp)⟩) ?_
 intro (s : Str) _
 simp (maxSteps := 8000000) -implicitDefEqProofs [-kStep_move, -Bool.exists_bool, a6g, a6M, b5F, a6n, a7M, tTab, Con.fn, a1L, clash, kd, a2x, a2M]
 have hl : (s.take 2000).length <= 2000 := by simp; omega
 refine ⟨_, _, ⟨rfl, rfl⟩, ⟨hl, by omega, by omega⟩, fun l p g1 g2 g3 g4 => ⟨_, _, ⟨rfl, rfl⟩, ⟨hl, by omega, by omega⟩, fun y _ _ => ⟨fun _ => ⟨_, _, ⟨rfl, rfl⟩, ⟨hl, by omega, by omega⟩, fun o q ho _ _ => ⟨⟨by omega, by omega⟩, l ++ [o], ⟨by simp; omega, fun x hx => ?_⟩, (a7m _ _ _ _ _ _ _ _).symm, a7m _ _ _ _ _ _ _ _⟩⟩, fun _ => ⟨by omega, fun x hx => a8N (g2 x hx)⟩⟩⟩⟩
 rcases List.mem_append.1 hx with hx | hx
 ·exact a8N (g2 x hx)
 ·rw [List.mem_singleton.1 hx]; exact ho
structure Onto (r : RepoD) (n : Str) (a : Int) (x : RepoD) : Prop where
 ok : a0f x = true
 keeps : r.commits <+: x.commits
 came : Came x n a.toNat

structure Did (r : RepoD) (X : RepoD × Int) : Prop where
 ok : a0f X.1 = true
 keeps : r.commits <+: X.1.commits
 few : X.1.commits.length <= r.commits.length + 1
 all : ∀ m, 0 <= atL r.heads m -> 0 <= atL X.1.heads m
 not : ¬ X.2 = 0 -> ¬ X.2 = 3 -> X.1 = r
theorem Did.same {r : RepoD} (h : a0f r = true) (c : Int) : Did r (r, c) := ⟨h, List.prefix_refl _, Nat.le_succ _, fun _ q => q, fun _ _ => rfl⟩
theorem Did.add {r : RepoD} (h : a0f r = true) {n : Str} {c : CommitD} (hr : a0f (addR r n c) = true) : Did r (addR r n c, 0) := by
 refine ⟨hr, List.prefix_append _ _, by simp [addR], fun m q => ?_, fun q => absurd rfl q⟩
 show 0 <= atL (addR r n c).heads m
 rw [a6A h]
 split
 ·omega
 ·exact q
theorem Did.head {r : RepoD} (h : a0f r = true) {n : Str} {a k : Int} (ha : 0 <= a) (hr : a0f ⟨r.commits, hSet r.heads n a⟩ = true) (hk : k = 0 \/ k = 3) : Did r (⟨r.commits, hSet r.heads n a⟩, k) := by
 refine ⟨hr, List.prefix_refl _, by simp, fun m q => ?_, fun q1 q2 => by rcases hk with e | e <;> contradiction⟩
 show 0 <= atL (hSet r.heads n a) m
 rw [a4R ((a0Q r).1 h).2.1]
 split
 ·exact ha
 ·exact q
theorem c4x {r : RepoD} (h : a0f r = true) (n w : Str) (b : Int) : Did r (a0K r n w b) := by
 have hU := b0z h n w b
 generalize a0K r n w b = X at *
 cases hU with
 | on a1 a2 b1 b2 g1 g2 hr => exact Did.head h b1 hr (.inr rfl)
 | made t a1 a2 b1 b2 g1 g2 hj hr => exact Did.add h hr
 | _ => exact Did.same h _
theorem b4X {r : RepoD} (h : a0f r = true) (n w : Str) (o b : List FileD) : Did r (a2y r n w o b) := by
 unfold a2y
 split
 ·split
  ·rename_i hr; exact Did.add h hr
  ·exact Did.same h _
 ·exact Did.same h _
theorem b7B {r : RepoD} (h : a0f r = true) (k : Bool) (n w : Str) (c : Int) : Did r (a1t k r n w c) := by
 unfold a1t
 rw [if_pos h]
 split
 ·exact Did.same h _
 ·split
  ·exact b4X h _ _ _ _
  ·exact b4X h _ _ _ _
theorem Did.fork {r : RepoD} (h : a0f r = true) {n : Str} {a : Int} (hn : ¬ 0 <= atL r.heads n) (hr : a0f ⟨r.commits, hSet r.heads n a⟩ = true) : Did r (⟨r.commits, hSet r.heads n a⟩, 0) := by
 refine ⟨hr, List.prefix_refl _, by simp, fun m q => ?_, fun q1 => absurd rfl q1⟩
 show 0 <= atL (hSet r.heads n a) m
 rw [a4R ((a0Q r).1 h).2.1, if_neg]
 ·exact q
 ·rintro rfl; exact hn q
theorem a9h {r : RepoD} (h : a0f r = true) (o : OpD) (x : List FileD × Bool) : Did r (a1w r o x) := by
 unfold a1w a0U
 rw [if_pos h]
 by_cases hx : x.2 = true
 ·rw [if_pos hx]
  by_cases hr : a0f (addR r o.branch (comC r o.branch o.who x.1)) = true
  ·rw [if_pos hr, if_pos rfl]; exact Did.add h hr
  ·rw [if_neg hr, if_neg (by simp)]; exact Did.same h _
 ·rw [if_neg hx]; exact Did.same h _
theorem c0d {r : RepoD} (h : a0f r = true) (n : Str) (a : Int) : Did r (if (a0u r n a).2 then ((a0u r n a).1, 0) else (r, 1)) := by
 unfold a0u
 rw [if_pos h]
 by_cases q2 : 0 <= atL r.heads n \/ a0f ⟨r.commits, hSet r.heads n a⟩ = false
 ·rw [if_pos q2, if_neg (by simp)]; exact Did.same h _
 ·rw [if_neg q2, if_pos rfl]
  refine Did.fork h (fun q => q2 (.inl q)) ?_
  cases q : a0f ⟨r.commits, hSet r.heads n a⟩ with
  | true => rfl
  | false => exact absurd (.inr q) q2
theorem c9f {r : RepoD} (h : a0f r = true) (o : OpD) : Did r (do19 r o) := by
 unfold do19
 split
 ·exact a9h h _ _
 ·split
  ·exact a9h h _ _
  ·split
   ·exact a9h h _ _
   ·split
    ·exact c0d h _ _
    ·split
     ·exact c4x h _ _ _
     ·split
      ·exact b7B h _ _ _ _
      ·exact b7B h _ _ _ _
theorem a9b {r : RepoD} (h : a0f r = true) (o : OpD) : Did r (a0i r o) := by
 unfold a0i
 rw [if_pos h]
 split
 ·exact c9f h o
 ·exact Did.same h _
theorem a9X {k : Nat} {l : List HeadD} (h : a1M k l = true) : ∀ x ∈ l, 0 <= x.at_ /\ x.at_ < k := by
 intro x hx
 obtain ⟨i, hi, rfl⟩ := List.getElem_of_mem hx
 have h1 := ((a1R _ _).1 h).2 i hi
 have hg : l.getD i default = l[i] := by simp [List.getD_eq_getElem?_getD, hi]
 simp only [okHd, hg, Bool.and_eq_true, inN, decide_eq_true_eq] at h1
 exact ⟨h1.1.2.1, by omega⟩
theorem b6e {l : List HeadD} {n : Str} (h : ∀ x ∈ l, 0 <= x.at_) (hn : ¬ 0 <= atL l n) : (∀ x ∈ l, ¬ x.name = n) /\ atL l n = -1 := by
 induction l with
 | nil => exact ⟨by simp, rfl⟩
 | cons x l ih =>
  unfold atL at hn ⊢
  by_cases e : x.name = n
  ·rw [if_pos e] at hn
   exact absurd (h x (by simp)) hn
  ·rw [if_neg e] at hn ⊢
   obtain ⟨h1, h2⟩ := ih (fun y hy => h y (by simp [hy])) hn
   exact ⟨fun y hy => by rcases List.mem_cons.1 hy with rfl | hy; exact e; exact h1 y hy, h2⟩
theorem c5q {r : RepoD} (h : a0f r = true) {n m : Str} (hc : (a0u r m (atL r.heads n)).2 = true) :
  atL (a0u r m (atL r.heads n)).1.heads m = atL r.heads n /\ atL r.heads m = -1 /\ ¬ m = n /\ a0f (a0u r m (atL r.heads n)).1 = true /\ atL (a0u r m (atL r.heads n)).1.heads n = atL r.heads n := by
 have hH := ((a0Q r).1 h).2.1
 have hge := a9X hH
 unfold a0u at hc ⊢
 rw [if_pos h] at hc ⊢
 by_cases q : 0 <= atL r.heads m \/ a0f ⟨r.commits, hSet r.heads m (atL r.heads n)⟩ = false
 ·rw [if_pos q] at hc; simp at hc
 ·rw [if_neg q]
  have hm : ¬ 0 <= atL r.heads m := fun e => q (.inl e)
  have hr : a0f ⟨r.commits, hSet r.heads m (atL r.heads n)⟩ = true := by
   cases e : a0f ⟨r.commits, hSet r.heads m (atL r.heads n)⟩ with
   | true => rfl
   | false => exact absurd (.inr e) q
  obtain ⟨k1, k2⟩ := b6e (fun x hx => (hge x hx).1) hm
  have hX : a1M r.commits.length (hSet r.heads m (atL r.heads n)) = true := ((a0Q _).1 hr).2.1
  have hin : (⟨m, atL r.heads n⟩ : HeadD) ∈ hSet r.heads m (atL r.heads n) := by
   rw [b1T (a9Y hH) k1]
   unfold a5S a1N
   simp
  have h0 := (a9X hX _ hin).1
  have hne : ¬ m = n := fun e => by subst e; exact hm h0
  refine ⟨?_, k2, hne, hr, ?_⟩
  ·show atL (hSet r.heads m (atL r.heads n)) m = _
   rw [a4R hH, if_pos rfl]
  ·show atL (hSet r.heads m (atL r.heads n)) n = _
   rw [a4R hH, if_neg hne]
theorem b7V {r : RepoD} (h : a0f r = true) {o : OpD} {x : List FileD × Bool} {n : Str} (hn : ¬ o.branch = n) : atL (a1w r o x).1.heads n = atL r.heads n := by
 unfold a1w a0U
 rw [if_pos h]
 by_cases hx : x.2 = true
 ·rw [if_pos hx]
  by_cases hr : a0f (addR r o.branch (comC r o.branch o.who x.1)) = true
  ·rw [if_pos hr, if_pos rfl]
   show atL (addR r o.branch _).heads n = _
   rw [a6A h, if_neg hn]
  ·rw [if_neg hr, if_neg (by simp)]
 ·rw [if_neg hx]
theorem c8F {r : RepoD} (h : a0f r = true) {o : OpD} (hk : o.kind = 1) (hc : (a0i r o).2 = 0) :
  (a2f (a1z r o.branch) ⟨o.path, o.text⟩).2 = true /\ a0f (a0i r o).1 = true /\ (0 <= atL (a0i r o).1.heads o.branch /\ atL (a0i r o).1.heads o.branch < (a0i r o).1.commits.length) /\ a0o (a0i r o).1 (atL (a0i r o).1.heads o.branch) = (a2f (a1z r o.branch) ⟨o.path, o.text⟩).1 := by
 unfold a0i at hc ⊢
 rw [if_pos h] at hc ⊢
 by_cases hb : opB o = true
 ·rw [if_pos hb] at hc ⊢
  have e : do19 r o = a1w r o (a2f (a1z r o.branch) ⟨o.path, o.text⟩) := by unfold do19; rw [if_pos hk]
  rw [e] at hc ⊢
  generalize a2f (a1z r o.branch) ⟨o.path, o.text⟩ = x at *
  unfold a1w a0U at hc ⊢
  rw [if_pos h] at hc ⊢
  by_cases hx : x.2 = true
  ·rw [if_pos hx] at hc ⊢
   by_cases hr : a0f (addR r o.branch (comC r o.branch o.who x.1)) = true
   ·rw [if_pos hr, if_pos rfl]
    dsimp only
    refine ⟨hx, hr, ?_⟩
    rw [a6A h, if_pos rfl, c1N]
    exact ⟨⟨by omega, by simp [addR]; omega⟩, rfl⟩
   ·rw [if_neg hr, if_neg (by simp)] at hc; simp at hc
  ·rw [if_neg hx] at hc; simp at hc
 ·rw [if_neg hb] at hc; simp at hc
theorem b4V {l : List OpD} {i : Nat} (h : i < l.length) : a2k (l.take (i + 1)) = (a0i (a2k (l.take i)) l[i]).1 := by
 rw [b3h h]
 unfold a0i
 rw [if_pos (a4M _).1]
 by_cases hb : opB l[i] = true
 ·rw [if_pos hb, if_pos hb]
 ·rw [if_neg hb, if_neg hb]
theorem c4h {r : RepoD} (h : a0f r = true) {o : OpD} (hk : o.kind = 1) {n : Str} (hn : ¬ o.branch = n) : atL (a0i r o).1.heads n = atL r.heads n := by
 unfold a0i
 rw [if_pos h]
 by_cases hb : opB o = true
 ·rw [if_pos hb]
  unfold do19
  rw [if_pos hk]
  exact b7V h hn
 ·rw [if_neg hb]
theorem b8R {r : RepoD} (h : a0f r = true) {o : OpD} (hk : o.kind = 4) (hc : (a0i r o).2 = 0) :
  (a0u r o.to_ (atL r.heads o.branch)).2 = true /\ (a0i r o).1 = (a0u r o.to_ (atL r.heads o.branch)).1 := by
 unfold a0i at hc ⊢
 rw [if_pos h] at hc ⊢
 by_cases hb : opB o = true
 ·rw [if_pos hb] at hc ⊢
  unfold do19 at hc ⊢
  rw [if_neg (by omega), if_neg (by omega), if_neg (by omega), if_pos hk] at hc ⊢
  by_cases hx : (a0u r o.to_ (atL r.heads o.branch)).2 = true
  ·rw [if_pos hx]; exact ⟨hx, rfl⟩
  ·rw [if_neg hx] at hc; simp at hc
 ·rw [if_neg hb] at hc; simp at hc
theorem c5p {r : RepoD} (h : a0f r = true) {o p : OpD} (hk : o.kind = 4) (hc : (a0i r o).2 = 0) (hp : p.kind = 1) (hpb : p.branch = o.to_) :
  a0f (a0i r o).1 = true /\ atL (a0i r o).1.heads o.to_ = atL r.heads o.branch /\ atL r.heads o.to_ = -1 /\ a0f (a0i (a0i r o).1 p).1 = true /\ atL (a0i (a0i r o).1 p).1.heads o.branch = atL r.heads o.branch := by
 obtain ⟨h1, h2⟩ := b8R h hk hc
 obtain ⟨k1, k2, k3, k4, k5⟩ := c5q h h1
 rw [h2]
 refine ⟨k4, k1, k2, (a9b k4 p).ok, ?_⟩
 rw [c4h k4 hp (by rw [hpb]; exact k3), k5]
--TAB a0G
theorem c7H {r : RepoD} (h : a0f r = true) {x : HeadD} (hx : x ∈ r.heads) : 0 <= atL r.heads x.name := by
 rcases Classical.em (0 <= atL r.heads x.name) with q | q
 ·exact q
 ·exact absurd rfl ((b6e (fun y hy => (a9X ((a0Q r).1 h).2.1 y hy).1) q).1 x hx)
def frdI : Inv := ⟨RepoD × OpD × Nat, fun y => ⟨[(2, true, .bool false), (3, true, .ptr 10 0), (5, true, .ptr 11 0), (9, true, .int .i64 y.2.2)],
 [(10, .box 32 [.sl false 3 (a0e y.1.commits), .sl false 2 (a0c y.1.heads)]), (11, .box 32 [.sl false 3 (a0e (a0i y.1 y.2.1).1.commits), .sl false 2 (a0c (a0i y.1 y.2.1).1.heads)])]⟩, fun y => y.2.2 <= y.1.heads.length /\ a0j y.1 = true, fun y => 5 - y.2.2⟩
def b4y : Con := .fn 94 Str (fun s => [.sl true 1 (a1g s)]) (fun _ => True) (fun _ => .bool true) (fun _ => [])
theorem b6M : Has Tryz.prog 8 b4y := by
 refine a0d mixed a0B (HasL.cons a5J (HasL.cons a4D (HasL.cons a7I (HasL.cons a5A (HasL.cons a1T (HasL.cons a6u (HasL.cons b1q HasL.nil))))))) [0, 2, 3, 4, 5, 6, 7, 8, 9] ((fun a n (_ : Nat) => (fun _ _ => frdI) a n)) [12287] Tryz.func8 (by unfold Tryz.f8; rfl) (fun _ => ⟨(), trivial⟩) ?_
 intro (s : Str) _
 simp (maxSteps := 8000000) -implicitDefEqProofs [-kStep_move, -kStepC_move, -Bool.exists_bool, b4y, a4C, a4J, a6O, a5I, a2z, a6C, a8E, Con.fn, a0G, tTab, bOp, frdI]
 try dsimp only
 refine fun _ _ r o hd ho => ⟨r, o, ⟨⟨rfl, rfl⟩, rfl, rfl, rfl, rfl, rfl, rfl, rfl⟩, ⟨a4e hd, a4B ho⟩, r, o, ⟨⟨rfl, rfl⟩, rfl, rfl, rfl, rfl, rfl, rfl, rfl⟩, ⟨a8O hd, a4B ho⟩, (a0i r o).1, (a0i r o).1, ⟨⟨rfl, rfl⟩, rfl, rfl⟩, ?_⟩
 have hp := a4e hd
 simp only [true_and, and_true, not_true, false_or, or_false, true_implies, and_self]
 refine ⟨hp, fun _ => trivial, fun hI => ?_⟩
 have hS : a0f r = true := by rw [<- a0A]; exact hI
 have hD := a9b hS o
 refine ⟨fun h0 h3 => by rw [hD.not h0 h3]; exact ⟨rfl, rfl⟩, fun _ => ⟨⟨r, o, 0, ⟨rfl, ⟨rfl, rfl⟩, rfl, rfl⟩, Nat.zero_le _, hI⟩, ?_⟩⟩
 clear hD hS hI hp hd ho
 intro r o t ht hI _
 have hS : a0f r = true := by rw [<- a0A]; exact hI
 have hD := a9b hS o
 have hXI : a0j (a0i r o).1 = true := by rw [a0A]; exact hD.ok
 have hX := (a1y hXI).2
 have hh : r.heads.length <= 5 := ((a1R _ _).1 ((a0Q r).1 hS).2.1).1
 refine ⟨fun hlt => ⟨hlt, fun _ => ?_⟩, fun hge => ?_⟩
 ·have e1 : Option.map a1d r.heads[t]? = some (a1d r.heads[t]) := by simp -implicitDefEqProofs [hlt]
  have ha := hD.all _ (c7H hS (List.getElem_mem hlt))
  have R := a2H hXI r.heads[t].name
  rw [e1]
  generalize r.heads[t] = m at *
  simp -implicitDefEqProofs [a1d, D.asStr]
  exact ⟨_, m.name, ⟨⟨rfl, rfl⟩, rfl⟩, hX, by rw [R]; exact ha, fun _ => ⟨⟨by omega, by omega⟩, fun _ _ => ⟨r, o, t + 1, ⟨by omega, ⟨rfl, rfl⟩, rfl, rfl⟩, ⟨by omega, hI⟩, by omega⟩⟩⟩
 ·have hK : a5s (a0i r o).1 r = true := by
   unfold a5s
   exact decide_eq_true (List.prefix_iff_eq_take.1 hD.keeps).symm
  have hf := hD.few
  have hn := a3o hI
  have hx := a3o hXI
  exact ⟨hX, (a0i r o).1, r, ⟨⟨rfl, rfl⟩, rfl, rfl⟩, fun _ _ => ⟨fun _ _ => ⟨⟨hXI, hK⟩, by omega, by omega⟩, fun _ => ⟨.inr ⟨hXI, hK⟩, fun _ => ⟨⟨hXI, hK⟩, by omega⟩⟩⟩⟩
--TAB a0G
def b2t : Con := .fn 100 Str (fun s => [.sl true 1 (a1g s)]) (fun _ => True) (fun _ => .bool true) (fun _ => [])
theorem b5m : Has Tryz.prog 7 b2t := by
 refine a0d mixed a0B (HasL.cons a5J (HasL.cons a4D (HasL.cons a7I (HasL.cons a5A (HasL.cons a6u (HasL.cons b7J (HasL.cons b0y (HasL.cons b3t HasL.nil)))))))) [0, 2, 3, 4, 5, 6, 7, 8, 9, 10, 11, 12] ((fun a n (_ : Nat) => (fun _ => a0s) a n)) [12287] Tryz.func7 (by unfold Tryz.f7; rfl) (fun _ => ⟨(), trivial⟩) ?_
 intro (s : Str) _
 simp (maxSteps := 8000000) -implicitDefEqProofs [-kStep_move, -kStepC_move, -Bool.exists_bool, b2t, a4C, a4J, a6O, a5I, a6C, a9J, a7k, b0L, Con.fn, a0G, tTab, bOp]
 try dsimp only
 refine fun _ _ r o hd ho => ⟨r, o, ⟨⟨rfl, rfl⟩, rfl, rfl, rfl, rfl, rfl, rfl, rfl⟩, ⟨a4e hd, a4B ho⟩, r, o, ⟨⟨rfl, rfl⟩, rfl, rfl, rfl, rfl, rfl, rfl, rfl⟩, ⟨a8O hd, a4B ho⟩, (a0i r o).1, (a0i r o).1, ⟨⟨rfl, rfl⟩, rfl, rfl⟩, ?_⟩
 have hp := a4e hd
 have hz := a4B ho
 simp only [true_and, and_true, not_true, false_or, or_false, true_implies, and_self]
 refine ⟨(Classical.em _).symm, fun _ => ⟨fun _ => trivial, fun h0 hk => ?_⟩⟩
 have hI : a0j r = true := by
  cases h : a0j r with
  | true => rfl
  | false =>
   have : a0i r o = (noR, 1) := by unfold a0i; rw [if_neg (by rw [<- a0A, h]; simp)]
   rw [this] at h0; cases h0
 have hS : a0f r = true := by rw [<- a0A]; exact hI
 obtain ⟨g1, g2, ⟨g3, g4⟩, g5⟩ := c8F hS hk h0
 have hXI : a0j (a0i r o).1 = true := by rw [a0A]; exact g2
 have hX := (a1y hXI).2
 have A := a2H hI o.branch
 have B := a2H hXI o.branch
 have C := b1o hXI g3 g4
 have hT := a7J hS o.branch
 obtain ⟨p1, p2, p3⟩ := hz
 refine ⟨r, o.branch, ⟨⟨rfl, rfl⟩, rfl⟩, hp, fun q => ?_, fun q => ?_⟩
 ·rw [A] at q
  have hlt := a7e hI q
  have eT : a1z r o.branch = a0o r (atL r.heads o.branch) := by unfold a1z; rw [if_pos q]
  have D := b1o hI q hlt
  refine ⟨r, o.branch, ⟨⟨rfl, rfl⟩, rfl⟩, hp, r, _, ⟨⟨rfl, rfl⟩, rfl⟩, hp, _, ⟨o.path, o.text⟩, ⟨rfl, rfl, rfl⟩, ⟨?_, p3, p1⟩, (a0i r o).1, o.branch, ⟨⟨rfl, rfl⟩, rfl⟩, hX, (a0i r o).1, _, ⟨⟨rfl, rfl⟩, rfl⟩, hX, ?_⟩
  ·rw [A, D, <- eT]; exact a7q hT
  ·rw [B, C, A, D, <- eT, a9j]; exact ⟨g5, g1⟩
 ·rw [A] at q
  have eT : a1z r o.branch = [] := by unfold a1z; rw [if_neg (by omega)]
  rw [eT] at g1 g5
  refine ⟨[], ⟨o.path, o.text⟩, ⟨rfl, rfl, rfl⟩, ⟨⟨Nat.zero_le _, by simp, by simp⟩, p3, p1⟩, (a0i r o).1, o.branch, ⟨⟨rfl, rfl⟩, rfl⟩, hX, (a0i r o).1, _, ⟨⟨rfl, rfl⟩, rfl⟩, hX, ?_⟩
  rw [B, C, a9j]; exact ⟨g5, g1⟩
--TAB a0G
def b1b : Con := .fn 99 Str (fun s => [.sl true 1 (a1g s)]) (fun _ => True) (fun _ => .bool true) (fun _ => [])
theorem b3V : Has Tryz.prog 6 b1b := by
 refine a0d mixed a0B (HasL.cons a5J (HasL.cons a4D (HasL.cons a7I (HasL.cons a5A (HasL.cons a6u HasL.nil))))) [0, 2, 3, 4, 5, 6, 7, 8, 9, 10] ((fun a n (_ : Nat) => (fun _ => a0s) a n)) [12287] Tryz.func6 (by unfold Tryz.f6; rfl) (fun _ => ⟨(), trivial⟩) ?_
 intro (s : Str) _
 simp (maxSteps := 8000000) -implicitDefEqProofs [-kStep_move, -kStepC_move, -Bool.exists_bool, b1b, a4C, a4J, a6O, a5I, a6C, Con.fn, a0G, tTab, bOp]
 try dsimp only
 refine fun _ _ r o hd ho => ⟨r, o, ⟨⟨rfl, rfl⟩, rfl, rfl, rfl, rfl, rfl, rfl, rfl⟩, ⟨a4e hd, a4B ho⟩, r, o, ⟨⟨rfl, rfl⟩, rfl, rfl, rfl, rfl, rfl, rfl, rfl⟩, ⟨a8O hd, a4B ho⟩, (a0i r o).1, (a0i r o).1, ⟨⟨rfl, rfl⟩, rfl, rfl⟩, ?_⟩
 have hp := a4e hd
 have hz := a4B ho
 simp only [true_and, and_true, not_true, false_or, or_false, true_implies, and_self]
 refine ⟨(Classical.em _).symm, fun _ => ⟨fun _ => trivial, fun h0 hk => ?_⟩⟩
 have hI : a0j r = true := by
  cases h : a0j r with
  | true => rfl
  | false =>
   have : a0i r o = (noR, 1) := by unfold a0i; rw [if_neg (by rw [<- a0A, h]; simp)]
   rw [this] at h0; cases h0
 have hS : a0f r = true := by rw [<- a0A]; exact hI
 obtain ⟨f1, f2, f3, f4, f5⟩ := c5p hS (p := ⟨1, o.to_, o.who, [122], [], 0, [[110, 101, 119]]⟩) hk h0 rfl rfl
 have hXI : a0j (a0i r o).1 = true := by rw [a0A]; exact f1
 have hX := (a1y hXI).2
 have hYI : a0j (a0i (a0i r o).1 ⟨1, o.to_, o.who, [122], [], 0, [[110, 101, 119]]⟩).1 = true := by rw [a0A]; exact f4
 have hY := (a1y hYI).2
 have q1 : a3e (a0i r o).1 o.to_ = a3e r o.branch := by rw [a2H hXI, a2H hI]; exact f2
 have q2 : a3e r o.to_ = -1 := by rw [a2H hI]; exact f3
 have q3 : a3e (a0i (a0i r o).1 ⟨1, o.to_, o.who, [122], [], 0, [[110, 101, 119]]⟩).1 o.branch = a3e r o.branch := by rw [a2H hYI, a2H hI]; exact f5
 refine ⟨(a0i r o).1, ⟨1, o.to_, o.who, [122], [], 0, [[110, 101, 119]]⟩, ⟨⟨rfl, rfl⟩, rfl, rfl, rfl, rfl, rfl, rfl, rfl⟩, ⟨hX, by simp, Nat.zero_le _, by simp⟩, (a0i r o).1, o.to_, ⟨⟨rfl, rfl⟩, rfl⟩, hX, r, o.branch, ⟨⟨rfl, rfl⟩, rfl⟩, hp, r, o.to_, ⟨⟨rfl, rfl⟩, rfl⟩, fun _ => ⟨q1, hp⟩, _, o.branch, ⟨⟨rfl, rfl⟩, rfl⟩, fun _ _ q => ⟨⟨⟨q1, q2⟩, q⟩, hY⟩, r, o.branch, ⟨⟨rfl, rfl⟩, rfl⟩, fun _ _ q => ⟨⟨⟨q1, q2⟩, q⟩, hp⟩, fun _ _ => ⟨⟨q1, q2⟩, ?_⟩, fun _ => ⟨.inr ⟨q1, q2⟩, fun _ => ⟨⟨q1, q2⟩, .inr q3⟩⟩⟩
 by_cases q : (a0i (a0i r o).1 ⟨1, o.to_, o.who, [122], [], 0, [[110, 101, 119]]⟩).2 = 0
 ·exact .inr ⟨⟨q1, q2⟩, q⟩
 ·exact .inl q
--TAB a0G
def rplI (l : List OpD) : Inv := ⟨Nat, fun i => ⟨[(2, true, .ptr 11 0), (3, true, .ptr 12 0), (6, true, .sl true 7 (eOps l)), (7, true, .int .i64 l.length), (8, true, .int .i64 i)],
 [(11, a6k), (12, .box 32 [.own 13 3 (a0e (a2k (l.take i)).commits), .own 14 2 (a0c (a2k (l.take i)).heads)]), (13, .own 102 3 true (a0e (a2k (l.take i)).commits)), (14, .own 69 2 true (a0c (a2k (l.take i)).heads))]⟩, fun i => i <= l.length /\ i <= 30, fun i => l.length - i⟩
def a8D : Con := .fn 23 (List OpD) (fun l => [.sl true 7 (eOps l)]) (fun l => ∀ o ∈ l, opSz o) (fun l => .agg [.own 8 3 (a0e (a2Z l).commits), .own 9 2 (a0c (a2Z l).heads)]) (fun l => a1S 8 (a2Z l).commits ++ a2e 9 (a2Z l).heads)
theorem b5u : Has Tryz.prog 34 a8D := by
 refine a0d mixed a0B (HasL.cons a4D HasL.nil) [0, 2, 3, 4, 5, 6, 7, 8] ((fun a n (_ : Nat) => (fun l _ => rplI l) a n)) [12287] Tryz.func34 (by unfold Tryz.f34; rfl) (fun _ => ⟨(), trivial⟩) ?_
 intro (l : List OpD) (ha : ∀ o ∈ l, opSz o)
 simp (maxSteps := 8000000) -implicitDefEqProofs [-kStep_move, -Bool.exists_bool, a8D, a4J, Con.fn, a0G, tTab, rplI]
 try dsimp only
 simp -implicitDefEqProofs only [and_assoc, exists_eq_left, exists_and_left, RepoD.ex1, RepoD.eta, OpD.ex1, OpD.eta]
 have eP : ∀ t, (l.length <= t /\ t <= 30 \/ t = 30) -> a2Z l = a2k (l.take t) := fun t h => by
  unfold a2Z
  rcases h with h | h
  ·rw [List.take_of_length_le h.1, List.take_of_length_le (by omega)]
  ·rw [h]
 refine fun _ => ⟨rfl, rfl, Nat.zero_le _, Nat.zero_le _, fun t ht h30 => ⟨fun hlt => ⟨hlt, fun _ => ?_⟩, fun hge => ?_⟩⟩
 ·have qq : Option.map eOp l[t]? = some (eOp l[t]) := by simp -implicitDefEqProofs [hlt]
  have hs := b4V hlt
  have hok := (a4M (l.take t)).1
  have hR : a0j (a2k (l.take t)) = true := by rw [a0A]; exact hok
  have ho := ha l[t] (List.getElem_mem hlt)
  have e30 := eP t
  rw [qq]
  generalize a2k (l.take t) = R at *
  generalize l[t] = o at *
  simp -implicitDefEqProofs [eOp, D.asInt, D.asStr, D.asRows]
  refine ⟨fun q => by rw [e30 (.inr (by omega))]; exact ⟨rfl, rfl, rfl, rfl⟩, fun q => ⟨(a1y hR).2, ho, by omega, by omega, fun _ _ => ⟨t + 1, by omega, by rw [hs], by rw [hs], by rw [hs], by rw [hs], by omega, by omega, by omega⟩⟩⟩
 ·rw [eP t (.inl ⟨hge, h30⟩)]; exact ⟨rfl, rfl, rfl, rfl⟩
--TAB a0G
def frpI : Inv := ⟨List OpD × Nat, fun y => ⟨[(2, true, .bool false), (3, true, .own 9 7 (eOps y.1)), (4, true, .ptr 10 0), (5, true, .ptr 11 0), (6, true, .int .i64 y.2)],
 [(9, .own 58 7 true (eOps y.1)), (10, .box 32 [.sl false 3 (a0e (a2Z y.1).commits), .sl false 2 (a0c (a2Z y.1).heads)]), (11, .box 32 [.sl false 3 (a0e (a2k (y.1.take y.2)).commits), .sl false 2 (a0c (a2k (y.1.take y.2)).heads)])]⟩, fun y => y.2 <= y.1.length /\ y.2 <= 30 /\ ∀ o ∈ y.1, anyO o, fun y => 30 - y.2⟩
def b1c : Con := .fn 49 Str (fun s => [.sl true 1 (a1g s)]) (fun _ => True) (fun _ => .bool true) (fun _ => [])
theorem b3W : Has Tryz.prog 5 b1c := by
 refine a0d mixed a0B (HasL.cons b1N (HasL.cons b5u (HasL.cons a9p (HasL.cons a5A (HasL.cons a4D (HasL.cons a1T HasL.nil)))))) [0, 2, 3, 4, 5, 6, 7] ((fun a n (_ : Nat) => (fun _ _ => frpI) a n)) [12287] Tryz.func5 (by unfold Tryz.f5; rfl) (fun _ => ⟨(), trivial⟩) ?_
 intro (s : Str) _
 simp (maxSteps := 8000000) -implicitDefEqProofs [-kStep_move, -kStepC_move, -Bool.exists_bool, b1c, a6g, a8D, a6o, a5I, a4J, a2z, Con.fn, a0G, tTab, frpI]
 try dsimp only
 refine fun _ _ l hl ho => ⟨fun o h => a4B (ho o h), a2Z l, a2Z l, ⟨⟨rfl, rfl⟩, rfl, rfl⟩, rfl, fun _ => ⟨⟨l, 0, ⟨⟨rfl, rfl⟩, ⟨⟨rfl, rfl⟩, rfl, rfl⟩, rfl⟩, Nat.zero_le _, Nat.zero_le _, ho⟩, ?_⟩⟩
 clear hl ho
 intro l t ht h30 ho _
 refine ⟨fun hlt h30' => ⟨hlt, fun _ => ?_⟩, fun hge => ?_⟩
 ·have qq : Option.map eOp l[t]? = some (eOp l[t]) := by simp -implicitDefEqProofs [hlt]
  have hs := b4V hlt
  have hok := (a4M (l.take t)).1
  have hR : a0j (a2k (l.take t)) = true := by rw [a0A]; exact hok
  have hz := a4B (ho l[t] (List.getElem_mem hlt))
  rw [qq]
  generalize a2k (l.take t) = R at *
  generalize l[t] = o at *
  simp -implicitDefEqProofs [eOp, D.asInt, D.asStr, D.asRows]
  exact ⟨R, o, ⟨⟨rfl, rfl⟩, rfl, rfl, rfl, rfl, rfl, rfl, rfl⟩, ⟨(a1y hR).2, hz⟩, ⟨by omega, by omega⟩, fun _ _ => ⟨l, t + 1, ⟨⟨rfl, by omega⟩, ⟨⟨rfl, rfl⟩, by rw [hs], by rw [hs]⟩, rfl⟩, ⟨by omega, by omega, ho⟩, by omega⟩⟩
 ·have hok : a0j (a2Z l) = true := by rw [a0A]; exact (a4M _).1
  have e : a2k (l.take t) = a2Z l := by
   unfold a2Z
   rcases Nat.lt_or_ge t l.length with q | q
   ·have := hge q
    have : t = 30 := by omega
    rw [this]
   ·rw [List.take_of_length_le q, List.take_of_length_le (by omega)]
  rw [e]
  exact ⟨(a1y hok).2, ⟨rfl, rfl⟩, hok⟩
end Vx
end Go.Proofs.YtokdjnbcdokpjabGreatDoor
