/-
  Joined by program (merge.py): Ml, Mh, Tc, Hc, Hd, Kj, Hq, Hp, Hi, He, Hf, Tp, Nh, Ni, Qd, Ua, Uc, Shj, Uw, Mi, Ud, Nj, Nk, Nl, Nm, Nn, Ue, Uo, Ut, Uy, Uz. It shows what the single texts show; conditions: none but those of each lemma.
-/
import Derived.Test.YtonkagjdfpacmaaGreatDoorWb
import Derived.Shelf.Strings.Builder1
import Derived.Shelf.Strings.Builder2
import Derived.Shelf.Strings.OnBuilder
import Derived.Test.YtonkagjdfpacmaaGreatDoorProg
set_option linter.unusedVariables false
set_option linter.unusedSimpArgs false
set_option linter.unusedSectionVars false
namespace Go.Proofs.YtonkagjdfpacmaaGreatDoor
set_option maxHeartbeats 4000000
namespace Vx
open Go.RowKit
set_option maxRecDepth 8000
--TAB a0N
def b3I : Con := .fn 66 (RepoD × Int) (fun a => [a1g a.1, .int .i64 a.2]) (fun a => a0E a.1 = true /\ 0 <= a.2 /\ a.2 < a.1.commits.length) (fun a => .sl false 1 (a0g (a0u (anc a.1 a.2)))) (fun _ => [])
theorem c1y : Has Tryz.prog 177 b3I := by
 refine a0d mixed a0H HasL.nil [0, 1, 2, 4, 5, 6, 7, 8, 9] (fun a => b2f a.1 a.2) [] Tryz.func177 (by unfold Tryz.f177; rfl) (fun _ => ⟨(), trivial⟩) ?_
 intro a ha
 obtain ⟨r, n⟩ := a
 obtain ⟨h1, h2, h3⟩ : a0E r = true /\ 0 <= n /\ n < r.commits.length := ha
 have h4 := a3C h1
 simp -implicitDefEqProofs [b3I, Con.fn, a0N, tTab, b9i, b9j, b5S, alO, alI, alT, a0J]
 try dsimp only
 simp only [and_assoc, exists_eq_left, exists_and_left, RepoD.ex1, RepoD.eta]
 have hal := a2r r n
 refine fun _ => ⟨by omega, fun _ => ⟨h2, h3, fun _ _ => ⟨by omega, ⟨(List.replicate r.commits.length false).set n.toNat true, by rw [a3k]; exact (a1B _ _ _).symm, by rw [a3k]; exact a1B _ _ _, by simp, by omega, h3, rfl⟩, fun l b g1 g2 g3 g4 => ⟨fun hb => ⟨b.toNat, ?_⟩, fun hb => ?_⟩⟩⟩⟩
 ·have hb1 : b.toNat < l.length := by omega
  have hb2 : b.toNat < r.commits.length := by omega
  obtain ⟨p1, p2, _⟩ := a2t h1 hb2
  have hgd : r.commits.getD b.toNat default = r.commits[b.toNat] := by simp -implicitDefEqProofs [List.getD_eq_getElem?_getD, hb2]
  have hgo : r.commits[b.toNat]?.getD default = r.commits[b.toNat] := by simp -implicitDefEqProofs [hb2]
  rw [show (b + 1).toNat = b.toNat + 1 by omega] at g4
  have g5 : ancF r b.toNat (a6B r l b.toNat) = anc r n := g4
  unfold a6B at g5
  rw [hgd] at g5
  have e3 : Option.map a0K r.commits[b.toNat]? = some (a0K r.commits[b.toNat]) := by simp -implicitDefEqProofs [hb2]
  rw [hgo, e3]
  generalize r.commits[b.toNat] = c at *
  refine ⟨by omega, trivial, g1, hb2, Nat.zero_le _, fun h => ?_, fun h => ?_, fun m k m1 m2 m3 m4 m5 => ⟨hb2, fun _ => ?_⟩⟩
  ·rw [if_pos h] at g5; exact g5
  ·rw [if_neg (by rw [h]; simp)] at g5; exact g5
  ·have hbm : b.toNat < m.length := by omega
   have hT : isT m b.toNat = m[b.toNat] := by simp -implicitDefEqProofs [isT, List.getD_eq_getElem?_getD, hbm]
   have e4 : Option.map a1F m[b.toNat]? = some (a1F m[b.toNat]) := by simp -implicitDefEqProofs [hbm]
   have hmx : max b 0 = b := Int.max_eq_left hb
   simp -implicitDefEqProofs [a0K, D.asRows, e4, a1F, hbm, hb2, hmx]
   refine fun _ => ⟨fun hl2 => ⟨fun hm => ⟨hl2, fun _ => ?_⟩, fun hm => ⟨by omega, by omega, fun _ _ => ⟨m1, by omega, by omega, m5 (hT.trans hm), by omega⟩⟩⟩, fun hge => ⟨by omega, by omega, fun _ _ => ⟨m1, by omega, by omega, ?_, by omega⟩⟩⟩
   ·have hp := p2 c.parents[k] (List.getElem_mem hl2)
    have qt : Option.map eInt c.parents[k]? = some (eInt c.parents[k]) := by simp -implicitDefEqProofs [List.getElem?_eq_getElem hl2]
    simp -implicitDefEqProofs [qt, eInt, D.asInt]
    have hst : isT (m.set c.parents[k].toNat true) b.toNat = true := by rw [b2F _ (by omega)]; exact hT.trans hm
    refine ⟨hp.1, by omega, fun _ _ => ⟨by omega, by omega, by omega, fun _ _ => ⟨m.set c.parents[k].toNat true, (a1B _ _ _).symm, k + 1, by omega, a1B _ _ _, by simp -implicitDefEqProofs [m1], by omega, fun _ => ?_, fun h => ?_, by omega⟩⟩⟩
    ·have := m4 (hT.trans hm)
     rw [List.drop_eq_getElem_cons hl2] at this
     exact this
    ·rw [hst] at h; cases h
   ·cases hm : m[b.toNat] with
    | true =>
     have := m4 (hT.trans hm)
     rw [List.drop_eq_nil_of_le hge] at this
     exact this
    | false => exact m5 (hT.trans hm)
 ·rw [show (b + 1).toNat = 0 by omega] at g4
  have g5 : l = anc r n := g4
  refine ⟨g5.symm, ⟨0, rfl, rfl, g5, rfl, Nat.zero_le _⟩, fun i hi _ => ⟨fun hlt => ?_, fun hge => ?_⟩⟩
  ·have hl := a6a (anc r n) i
   have hi : isT (anc r n) i = (anc r n)[i] := by simp -implicitDefEqProofs [isT, List.getD_eq_getElem?_getD, hlt]
   rw [hal] at hlt
   simp -implicitDefEqProofs [hal, hlt, a1F, D.asBool, and_assoc]
   refine ⟨fun h => ?_, fun h => ?_⟩
   ·have e := b0e (hi.trans h)
    exact ⟨by omega, by omega, by omega, by omega, fun _ _ => ⟨i + 1, by rw [e]; simp -implicitDefEqProofs [a0g, eInt], by omega, by rw [e]; simp -implicitDefEqProofs [a0g, eInt], by omega, by omega⟩⟩
   ·have e := a9b (hi.trans h)
    exact ⟨by omega, by omega, fun _ _ => ⟨i + 1, e, by omega, e.symm, by omega, by omega⟩⟩
  ·rw [hal] at hge
   have : i = r.commits.length := by omega
   subst this
   unfold a0u
   rw [hal]
def l8bA (r : RepoD) (a b : Int) : Inv := ⟨Nat, fun i => ⟨[(3, true, .ptr 10 0), (6, true, .nil), (7, true, .sl false 1 (a0g (a0u (anc r a)))), (8, true, .sl false 1 (a0g (a0u (anc r b)))), (9, true, .own 9 1 (a0g (a1I r a b i))), (10, true, .int .i64 i)], [(10, a2H r), (9, .own 3 1 true (a0g (a1I r a b i)))]⟩, fun i => i <= (a0u (anc r a)).length, fun i => (a0u (anc r a)).length - i⟩
def l8bB (r : RepoD) (L : List Int) : Inv := ⟨Nat, fun i => ⟨[(3, true, .ptr 10 0), (6, true, .nil), (9, true, .own 9 1 (a0g L)), (11, true, .own 11 1 (a0g (a3j r L i))), (12, true, .int .i64 i)], [(10, a2H r), (9, .own 3 1 true (a0g L)), (11, .own 3 1 true (a0g (a3j r L i)))]⟩, fun i => i <= L.length, fun i => L.length - i⟩
def l8bC (r : RepoD) (L : List Int) (g : Nat) : Inv := ⟨Nat, fun k => ⟨[(3, true, .ptr 10 0), (6, true, .nil), (9, true, .own 9 1 (a0g L)), (11, true, .own 11 1 (a0g (a3j r L g))), (12, true, .int .i64 g), (13, true, .bool (a8q r L g k)), (14, true, .int .i64 k)], [(10, a2H r), (9, .own 3 1 true (a0g L)), (11, .own 3 1 true (a0g (a3j r L g)))]⟩, fun k => k <= L.length /\ g < L.length, fun k => L.length - k⟩
def b2V (r : RepoD) (a b : Int) (n g : Nat) : Inv := if n = 5 then l8bA r a b else if n = 11 then l8bB r (a1I r a b (a0u (anc r a)).length) else l8bC r (a1I r a b (a0u (anc r a)).length) g
theorem c6V (r a b g) : b2V r a b 5 g = l8bA r a b := rfl
theorem c4m (r a b g) : b2V r a b 11 g = l8bB r (a1I r a b (a0u (anc r a)).length) := rfl
theorem c4n (r a b g) : b2V r a b 15 g = l8bC r (a1I r a b (a0u (anc r a)).length) g := rfl
def b1A : Con := .fn 83 (RepoD × Int × Int) (fun a => [a1g a.1, .int .i64 a.2.1, .int .i64 a.2.2]) (fun a => a0E a.1 = true /\ (0 <= a.2.1 /\ a.2.1 < a.1.commits.length) /\ 0 <= a.2.2 /\ a.2.2 < a.1.commits.length) (fun a => .own 8 1 (a0g (a3N a.1 a.2.1 a.2.2))) (fun a => a5K 8 (a3N a.1 a.2.1 a.2.2))
theorem b8J : Has Tryz.prog 205 b1A := by
 refine a0d mixed a0H (HasL.cons c1y (HasL.cons b4I HasL.nil)) [0, 1, 2, 3, 6, 7, 8, 9, 10, 11, 12, 13, 14] (fun a => b2V a.1 a.2.1 a.2.2) [] Tryz.func205 (by unfold Tryz.f205; rfl) (fun _ => ⟨(), trivial⟩) ?_
 intro a ha
 obtain ⟨r, a, b⟩ := a
 obtain ⟨h1, ⟨h2, h3⟩, h4, h5⟩ : a0E r = true /\ (0 <= a /\ a < r.commits.length) /\ 0 <= b /\ b < r.commits.length := ha
 simp (maxSteps := 8000000) -implicitDefEqProofs [-kStep_move, -kStepC_move, -Bool.exists_bool, b1A, b3I, b2s, Con.fn, a0N, tTab, c6V, c4m, c4n, l8bA, l8bB, l8bC, a0J]
 try dsimp only
 have hal := a2r r
 have h6 := a3C h1
 have hmem : ∀ c, ∀ x ∈ a0u (anc r c), 0 <= x /\ x < r.commits.length := fun c x hx => by
  obtain ⟨i, q1, _, rfl⟩ := listT_mem.1 hx
  rw [hal] at q1
  omega
 have h16 : ∀ c, (a0u (anc r c)).length <= 16 := fun c => by
  have := a6a (anc r c) (anc r c).length
  rw [hal] at this
  unfold a0u; rw [hal]; omega
 refine ⟨r, a, ⟨⟨rfl, rfl⟩, rfl⟩, ⟨h1, h2, h3⟩, r, b, ⟨⟨rfl, rfl⟩, rfl⟩, ⟨h1, h4, h5⟩, ?_⟩
 have hLm := hmem a
 have hL16 := h16 a
 have stepB : ∀ t (h : t < (a0u (anc r a)).length), a1I r a b (t + 1) = if (a0u (anc r a))[t] ∈ a0u (anc r b) then a1I r a b t ++ [(a0u (anc r a))[t]] else a1I r a b t := fun t h => by
  unfold a1I
  rw [a0p h, List.filter_append]
  split
  ·rename_i hq; rw [List.filter_cons_of_pos (by simpa using hq)]; simp
  ·rename_i hq; rw [List.filter_cons_of_neg (by simpa using hq)]; simp
 have bothL : ∀ t, (a1I r a b t).length <= (a0u (anc r a)).length := fun t => by
  unfold a1I
  exact Nat.le_trans (List.length_filter_le _ _) (by simp; omega)
 have hBm : ∀ x ∈ a1I r a b (a0u (anc r a)).length, 0 <= x /\ x < r.commits.length := fun x hx => by
  unfold a1I at hx
  exact hLm x (List.mem_of_mem_take (List.mem_filter.1 hx).1)
 have hout : a3N r a b = a3j r (a1I r a b (a0u (anc r a)).length) (a1I r a b (a0u (anc r a)).length).length := rfl
 have hb0 : a1I r a b 0 = [] := by unfold a1I; simp
 generalize a0u (anc r a) = L at *
 generalize hM : a0u (anc r b) = M at *
 have hB16 := bothL L.length
 generalize hB : a1I r a b L.length = B at *
 have baseS : ∀ u (h : u < B.length), a3j r B (u + 1) = if a8q r B u B.length then a3j r B u ++ [B[u]] else a3j r B u := fun u h => by
  unfold a3j
  rw [List.range_succ, List.filter_append, List.map_append]
  split
  ·rename_i hq; simp -implicitDefEqProofs [hq, List.getD_eq_getElem?_getD, h]
  ·rename_i hq; simp -implicitDefEqProofs [hq]
 have baseL : ∀ u, (a3j r B u).length <= u := fun u => by
  unfold a3j
  rw [List.length_map]
  exact Nat.le_trans (List.length_filter_le _ _) (by simp)
 refine ⟨⟨0, ⟨⟨rfl, rfl, hb0, rfl⟩, hb0⟩, Nat.zero_le _⟩, fun t ht _ => ⟨fun hlt => ⟨hlt, fun _ => ?_⟩, fun hge => ?_⟩⟩
 ·have qq : Option.map eInt L[t]? = some (eInt L[t]) := by simp -implicitDefEqProofs [hlt]
  have sB := stepB t hlt
  have bL := bothL t
  have sn : a0g (a1I r a b t) ++ [[D.int .i64 L[t]]] = a0g (a1I r a b t ++ [L[t]]) := a5l _ _
  rw [qq]
  generalize L[t] = y at *
  simp -implicitDefEqProofs [eInt, D.asInt]
  rw [sn]
  refine ⟨M, y, ⟨rfl, rfl⟩, fun h => ⟨hlt, fun _ => ⟨⟨by omega, by omega⟩, ⟨by omega, by omega⟩, fun _ _ => ⟨t + 1, by rw [sB, if_pos h]; exact ⟨⟨⟨rfl, by omega⟩, rfl⟩, by omega, by omega⟩⟩⟩⟩, fun h => ⟨⟨by omega, by omega⟩, fun _ _ => ⟨t + 1, by rw [sB, if_neg h]; exact ⟨⟨⟨rfl, by omega⟩, rfl⟩, by omega, by omega⟩⟩⟩⟩
 ·have ht' : t = L.length := by omega
  subst ht'
  rw [hB]
  refine ⟨⟨0, ⟨⟨rfl, rfl, rfl⟩, rfl, rfl⟩, Nat.zero_le _⟩, fun u hu _ => ⟨fun hlu => ⟨u, ⟨0, ⟨⟨rfl, rfl, rfl, rfl⟩, rfl⟩, Nat.zero_le _, hlu⟩, fun k hk _ _ => ?_⟩, fun hgu => ?_⟩⟩
  ·have q2 : Option.map eInt B[u]? = some (eInt B[u]) := by simp -implicitDefEqProofs [hlu]
   have sS := baseS u hlu
   have bL := baseL u
   have gu : B.getD u 0 = B[u] := by simp -implicitDefEqProofs [List.getD_eq_getElem?_getD, hlu]
   have sn : a0g (a3j r B u) ++ [[D.int .i64 B[u]]] = a0g (a3j r B u ++ [B[u]]) := a5l _ _
   refine ⟨fun hkl => ?_, fun hge => ?_⟩
   ·have q1 : Option.map eInt B[k]? = some (eInt B[k]) := by simp -implicitDefEqProofs [hkl]
    have gk : B.getD k 0 = B[k] := by simp -implicitDefEqProofs [List.getD_eq_getElem?_getD, hkl]
    have sb : a8q r B u (k + 1) = (a8q r B u k && (decide ((k : Int) = (u : Int)) || !decide (B[u] ∈ a0u (anc r B[k])))) := by
     have e : decide ((k : Int) = (u : Int)) = decide (k = u) := by rw [Bool.eq_iff_iff, decide_eq_true_eq, decide_eq_true_eq]; omega
     rw [e]
     unfold a8q
     rw [List.range_succ, List.all_append, gu]
     simp -implicitDefEqProofs [List.getD_eq_getElem?_getD, hkl]
    have hm := hBm B[k] (List.getElem_mem hkl)
    rw [q1, q2]
    generalize B[u] = y at *
    generalize B[k] = x at *
    simp -implicitDefEqProofs [eInt, D.asInt, hkl, hlu]
    refine ⟨fun a b => ⟨a, b⟩, fun _ => ⟨fun a b => ⟨a, b⟩, fun _ => ⟨r, x, ⟨⟨rfl, rfl⟩, rfl⟩, fun a b => ⟨⟨a, b⟩, h1, hm.1, hm.2⟩, fun a b => ⟨a, b⟩, fun _ => ⟨fun a b => ⟨a, b⟩, fun _ => ⟨_, y, ⟨rfl, rfl⟩, fun a => ⟨a, ?_⟩, fun _ => ⟨⟨by omega, by omega⟩, fun _ _ => ⟨k + 1, ⟨sb, by omega⟩, by omega, by omega⟩⟩⟩⟩⟩⟩⟩
    by_cases e : (k : Int) = u
    ·exact .inl e
    ·exact .inr ⟨a, e⟩
   ·have : k = B.length := by omega
    subst this
    rw [q2]
    generalize B[u] = y at *
    simp -implicitDefEqProofs [eInt, D.asInt, hlu]
    rw [sn]
    exact ⟨fun h => ⟨⟨by omega, by omega⟩, ⟨by omega, by omega⟩, fun _ _ => ⟨u + 1, by rw [sS, if_pos h]; exact ⟨⟨⟨rfl, by omega⟩, rfl⟩, by omega, by omega⟩⟩⟩, fun h => ⟨⟨by omega, by omega⟩, fun _ _ => ⟨u + 1, by rw [sS, if_neg (by simp -implicitDefEqProofs [h])]; exact ⟨⟨⟨rfl, by omega⟩, rfl⟩, by omega, by omega⟩⟩⟩⟩
  ·have : u = B.length := by omega
   subst this
   rw [<- hout]
   exact ⟨rfl, rfl⟩
--TAB a0N
theorem c1X {r : RepoD} (h : a0v r = true) (i : Nat) : a0S (r.commits.getD i default).tree = true := by
 rcases Nat.lt_or_ge i r.commits.length with hi | hi
 ·have := ((a0V r).1 h).1 i hi
  unfold okCS okS1 at this
  simp only [Bool.and_eq_true] at this
  exact this.2.2
 ·have : r.commits.getD i default = default := by simp -implicitDefEqProofs [List.getD_eq_getElem?_getD, hi]
  rw [this]; rfl
theorem a2F {r : RepoD} (h : a0v r = true) (c : Int) : a0S (a0C r c) = true := c1X h _
theorem b1W {r : RepoD} (h : a0v r = true) : rpSz r := by
 obtain ⟨h1, h2, h3⟩ := (a0V r).1 h
 refine ⟨by omega, fun c hc => ?_, by have := ((a2v _ _).1 h2).1; omega⟩
 obtain ⟨i, hi, rfl⟩ := List.getElem_of_mem hc
 have h4 := h1 i hi
 have e : r.commits.getD i default = r.commits[i] := by simp -implicitDefEqProofs [List.getD_eq_getElem?_getD, hi]
 unfold okCS okS1 at h4
 rw [e] at h4
 simp only [Bool.and_eq_true, decide_eq_true_eq] at h4
 obtain ⟨t1, t2⟩ := a5M _ h4.2.2
 exact ⟨by omega, by omega, fun g hg => by have := t2 g hg; omega⟩
theorem cget {r : RepoD} {c : Int} (h0 : 0 <= c) (h1 : c < r.commits.length) : Option.map a0K r.commits[c.toNat]? = some [D.sl 3 1 (a0g (r.commits.getD c.toNat default).parents), D.str (r.commits.getD c.toNat default).who, D.sl 99 2 (a0a (a0C r c))] := by
 have h : c.toNat < r.commits.length := by omega
 have e : r.commits.getD c.toNat default = r.commits[c.toNat] := by simp -implicitDefEqProofs [List.getD_eq_getElem?_getD, h]
 unfold a0C
 rw [e]; simp -implicitDefEqProofs [h, a0K]
theorem c2Q {r : RepoD} {a b : Int} {i : Nat} : ∀ x ∈ a1I r a b i, 0 <= x /\ x < r.commits.length := fun x hx => by
 unfold a1I at hx
 obtain ⟨j, q1, _, rfl⟩ := listT_mem.1 (List.mem_of_mem_take (List.mem_filter.1 hx).1)
 rw [a2r] at q1
 omega
theorem c0f {r : RepoD} {a b : Int} : ∀ x ∈ a3N r a b, 0 <= x /\ x < r.commits.length := fun x hx => by
 unfold a3N a3j at hx
 obtain ⟨j, hj, rfl⟩ := List.mem_map.1 hx
 have hj := List.mem_range.1 (List.mem_filter.1 hj).1
 rw [List.getD_eq_getElem?_getD, List.getElem?_eq_getElem hj, Option.getD_some]
 exact c2Q _ (List.getElem_mem hj)
theorem c0e {r : RepoD} (h : a0E r = true) {a b : Int} : (a3N r a b).length <= 16 := by
 have h6 := a3C h
 have h1 := a6a (anc r a) (anc r a).length
 unfold a3N a3j
 rw [List.length_map]
 refine Nat.le_trans (List.length_filter_le _ _) ?_
 rw [List.length_range]
 unfold a1I
 refine Nat.le_trans (List.length_filter_le _ _) ?_
 rw [a2r] at h1
 simp only [List.length_take, a0u, a2r]; omega
theorem c0c {r : RepoD} (h : a0v r = true) (a b : Int) : a0S (a2n r a b) = true := by
 unfold a2n
 split
 ·rfl
 ·exact a2F h _
theorem a9z {r : RepoD} (h : a0v r = true) (c : Int) : a0S (a2i r c) = true := by
 unfold a2i
 split
 ·rfl
 ·exact a2F h _
theorem a2m {t : List FileD} (h : a0S t = true) : szT t := by
 obtain ⟨h1, h2⟩ := a5M t h
 exact ⟨by omega, h2⟩
def b3J : Con := .fn 26 (RepoD × Int × Int) (fun a => [a1g a.1, .int .i64 a.2.1, .int .i64 a.2.2]) (fun a => a0v a.1 = true /\ (0 <= a.2.1 /\ a.2.1 < a.1.commits.length) /\ 0 <= a.2.2 /\ a.2.2 < a.1.commits.length) (fun a => .sl true 2 (a0a (a2n a.1 a.2.1 a.2.2))) (fun _ => [])
theorem c1z : Has Tryz.prog 179 b3J := by
 refine a0d mixed a0H (HasL.cons b8J HasL.nil) [0, 1, 2, 3, 6, 7] ((fun a n (_ : Nat) => (fun _ => a0F) a n)) [] Tryz.func179 (by unfold Tryz.f179; rfl) (fun _ => ⟨(), trivial⟩) ?_
 intro a ha
 obtain ⟨r, a, b⟩ := a
 obtain ⟨h1, ⟨h2, h3⟩, h4, h5⟩ : a0v r = true /\ (0 <= a /\ a < r.commits.length) /\ 0 <= b /\ b < r.commits.length := ha
 simp -implicitDefEqProofs [b3J, b1A, Con.fn, a0N, tTab, a0J]
 try dsimp only
 simp -implicitDefEqProofs only [and_assoc, exists_eq_left, exists_and_left, RepoD.ex1, RepoD.eta]
 have hI : a0E r = true := by rw [a1h]; exact h1
 have hl := c0e hI (a := a) (b := b)
 have hmm := c0f (r := r) (a := a) (b := b)
 have hb : a2n r a b = match (a3N r a b).getLast? with | none => [] | some c => a0C r c := rfl
 refine ⟨hI, h2, h3, h4, h5, fun _ => ⟨fun h => by rw [hb, h]; rfl, fun h => ?_⟩⟩
 rcases List.eq_nil_or_concat (a3N r a b) with e | ⟨m, q, e⟩
 ·exact absurd e h
 ·rw [e] at hl hmm hb ⊢
  have hq := hmm q (by simp)
  have cg := cget hq.1 hq.2
  have hb : a2n r a b = a0C r q := by rw [hb]; simp
  rw [hb]
  simp -implicitDefEqProofs [eInt, D.asInt, cg, D.asRows]
  simp at hl
  omega
def b1B : Con := .fn 70 (RepoD × Str × Str × Int) (fun a => [a1g a.1, .str a.2.1, .str a.2.2.1, .int .i64 a.2.2.2]) (fun a => a0v a.1 = true /\ 0 <= atL a.1.heads a.2.1 /\ 0 <= a.2.2.2 /\ a.2.2.2 < a.1.commits.length) (fun a => .tup [.agg [.sl false 3 (a0e (a2q a.1 a.2.1 a.2.2.1 a.2.2.2).1.commits), .sl false 2 (a0c (a2q a.1 a.2.1 a.2.2.1 a.2.2.2).1.heads)], .int .i64 (a2q a.1 a.2.1 a.2.2.1 a.2.2.2).2]) (fun _ => [])
theorem b8K : Has Tryz.prog 146 b1B := by
 refine a0d mixed a0H (HasL.cons a4i (HasL.cons c4l (HasL.cons b4I (HasL.cons a8X (HasL.cons c1z (HasL.cons b2T (HasL.cons b0d (HasL.cons a4N HasL.nil)))))))) [0, 1, 2, 3, 4, 8, 9, 10, 11, 12, 13] ((fun a n (_ : Nat) => (fun _ => a0F) a n)) [] Tryz.func146 (by unfold Tryz.f146; rfl) (fun _ => ⟨(), trivial⟩) ?_
 intro a ha
 obtain ⟨r, n, w, b⟩ := a
 obtain ⟨h1, h2, h3, h4⟩ : a0v r = true /\ 0 <= atL r.heads n /\ 0 <= b /\ b < r.commits.length := ha
 simp -implicitDefEqProofs [b1B, a5Q, b6p, b2s, a7P, b3J, b0J, a9J, a6q, Con.fn, a0N, tTab, a0J]
 try dsimp only
 simp -implicitDefEqProofs only [and_assoc, exists_eq_left, exists_and_left, RepoD.ex1, RepoD.eta]
 have hI : a0E r = true := by rw [a1h]; exact h1
 obtain ⟨k1, k2, k3⟩ := b1W h1
 have hat := a9B (n := n) ((a0V r).1 h1).2.1
 have ga := cget (r := r) (c := atL r.heads n) h2 (by omega)
 have gb := cget (r := r) h3 h4
 rw [ga, gb]
 simp -implicitDefEqProofs [D.asRows]
 have hlen : ∀ c, (addR r n c).commits.length <= 1073741824 := fun c => by simp -implicitDefEqProofs [addR]; omega
 refine ⟨hI, h2, by omega, fun h => ?_, fun h => ⟨hI, h3, h4, fun h' => ⟨by omega, ?_⟩, fun h' => ⟨h1, h2, by omega, h3, h4, h2, by omega, fun _ _ => ⟨h3, h4, fun _ _ => ⟨a2m (c0c h1 _ _), a2m (a2F h1 _), a2m (a2F h1 _), fun _ => ⟨fun hj => ?_, fun hj => ⟨⟨[atL r.heads n, b], w, (a1o (a2n r (atL r.heads n) b) (a0C r (atL r.heads n)) (a0C r b)).1⟩, rfl, rfl, rfl, k1, k3, hlen _, fun hs => ?_, fun hs => ?_⟩⟩⟩⟩⟩⟩⟩
 ·unfold a2q; rw [if_pos h]; exact ⟨rfl, rfl, rfl⟩
 ·unfold a2q; rw [if_neg h, if_pos h']; exact ⟨rfl, rfl, rfl⟩
 ·unfold a2q; rw [if_neg h, if_neg h', if_neg (by intro e; rw [e] at hj; simp at hj)]; exact ⟨rfl, rfl, rfl⟩
 ·unfold a2q; rw [if_neg h, if_neg h', if_pos hj, if_neg (by simp -implicitDefEqProofs [hs])]; exact ⟨rfl, rfl, rfl⟩
 ·unfold a2q; rw [if_neg h, if_neg h', if_pos hj, if_pos hs]; exact ⟨rfl, rfl, rfl⟩
def a8K : Con := .fn 42 (RepoD × Str × Str × Int) (fun a => [a1g a.1, .str a.2.1, .str a.2.2.1, .int .i64 a.2.2.2]) (fun a => rpSz a.1) (fun a => .tup [.agg [.sl false 3 (a0e (a1t a.1 a.2.1 a.2.2.1 a.2.2.2).1.commits), .sl false 2 (a0c (a1t a.1 a.2.1 a.2.2.1 a.2.2.2).1.heads)], .int .i64 (a1t a.1 a.2.1 a.2.2.1 a.2.2.2).2]) (fun _ => [])
theorem b5z : Has Tryz.prog 90 a8K := by
 refine a0d mixed a0H (HasL.cons a4N (HasL.cons a4i (HasL.cons a4u (HasL.cons a4M (HasL.cons a5q (HasL.cons b8K HasL.nil)))))) [0, 1, 2, 3, 4, 8, 9] ((fun a n (_ : Nat) => (fun _ => a0F) a n)) [] Tryz.func90 (by unfold Tryz.f90; rfl) (fun _ => ⟨(), trivial⟩) ?_
 intro a ha
 obtain ⟨r, n, w, b⟩ := a
 replace ha : rpSz r := ha
 simp -implicitDefEqProofs [a8K, a6q, a5Q, a4S, a6p, a5E, b1B, Con.fn, a0N, tTab, a0J]
 try dsimp only
 simp -implicitDefEqProofs only [and_assoc, exists_eq_left, exists_and_left, RepoD.ex1, RepoD.eta]
 have e0 : a0v r = false -> a1t r n w b = (noR, 1) := fun h => by unfold a1t; rw [if_neg (by simp -implicitDefEqProofs [h])]
 have e1 : a0v r = true -> (atL r.heads n < 0 \/ a0Z w = false \/ ¬ (0 <= b /\ b < r.commits.length)) -> a1t r n w b = (r, 1) := fun h h' => by unfold a1t; rw [if_pos h, if_pos h']
 have e2 : a0v r = true -> ¬ (atL r.heads n < 0 \/ a0Z w = false \/ ¬ (0 <= b /\ b < r.commits.length)) -> a1t r n w b = a2q r n w b := fun h h' => by unfold a1t; rw [if_pos h, if_neg h']
 have hr1 : r.commits.length <= 1048576 := ha.1
 refine ⟨by omega, fun h => by rw [e0 h]; exact ⟨rfl, rfl, rfl⟩, fun h => ⟨fun hn => ⟨ha, by rw [e1 h (.inl hn)]; exact ⟨rfl, rfl, rfl⟩⟩, fun hn => ⟨fun hw => ⟨ha, by rw [e1 h (.inr (.inl hw))]; exact ⟨rfl, rfl, rfl⟩⟩, fun hw _ => ⟨by omega, by omega, fun _ _ => ⟨fun hb => ⟨ha, by rw [e1 h (.inr (.inr (by omega)))]; exact ⟨rfl, rfl, rfl⟩⟩, fun hb hb' => ⟨ha, h, hn, hb, by omega, ?_⟩⟩⟩⟩⟩⟩
 rw [e2 h (by rintro (q | q | q); omega; rw [hw] at q; cases q; omega)]; exact ⟨rfl, rfl, rfl⟩
def a7m : Con := .fn 26 (RepoD × Int) (fun a => [a1g a.1, .int .i64 a.2]) (fun a => a0v a.1 = true /\ 0 <= a.2 /\ a.2 < a.1.commits.length) (fun a => .sl true 2 (a0a (a2i a.1 a.2))) (fun _ => [])
theorem b0c : Has Tryz.prog 148 a7m := by
 refine a0d mixed a0H HasL.nil [0, 1, 2, 4] ((fun a n (_ : Nat) => (fun _ => a0F) a n)) [] Tryz.func148 (by unfold Tryz.f148; rfl) (fun _ => ⟨(), trivial⟩) ?_
 intro a ha
 obtain ⟨r, c⟩ := a
 obtain ⟨h1, h2, h3⟩ : a0v r = true /\ 0 <= c /\ c < r.commits.length := ha
 simp -implicitDefEqProofs [a7m, Con.fn, a0N, tTab, a0J]
 try dsimp only
 simp -implicitDefEqProofs only [and_assoc, exists_eq_left, exists_and_left, RepoD.ex1, RepoD.eta]
 have cg := cget (r := r) h2 h3
 have hp : a2i r c = match (r.commits.getD c.toNat default).parents with | [] => [] | p :: _ => a0C r p := rfl
 have hmem : ∀ p ∈ (r.commits.getD c.toNat default).parents, 0 <= p /\ p < r.commits.length := fun p hp => by
  have hc : c.toNat < r.commits.length := by omega
  have := (a2t (r := r) (by rw [a1h]; exact h1) hc).2.1 p (by simpa [List.getD_eq_getElem?_getD, hc] using hp)
  omega
 have hl : (r.commits.getD c.toNat default).parents.length <= 1000 := by
  have hc : c.toNat < r.commits.length := by omega
  have := (a2t (r := r) (by rw [a1h]; exact h1) hc).1
  simpa [List.getD_eq_getElem?_getD, hc] using by omega
 rw [cg]
 generalize (r.commits.getD c.toNat default).parents = P at *
 cases P with
 | nil => simp -implicitDefEqProofs [D.asRows, hp]; omega
 | cons p P =>
  have hq := hmem p (by simp)
  have cp := cget hq.1 hq.2
  have hp : a2i r c = a0C r p := hp
  simp -implicitDefEqProofs [D.asRows, hp, a0g, eInt, D.asInt, cp]
  exact ⟨h2, h3, fun _ _ _ => ⟨h2, h3, fun _ _ => hq⟩⟩
def b0G : Con := .fn 48 (RepoD × Str × Str × List FileD × List FileD) (fun a => [a1g a.1, .str a.2.1, .str a.2.2.1, .sl true 2 (a0a a.2.2.2.1), .sl true 2 (a0a a.2.2.2.2)]) (fun a => a0v a.1 = true /\ 0 <= atL a.1.heads a.2.1 /\ a0S a.2.2.2.1 = true /\ a0S a.2.2.2.2 = true) (fun a => .tup [.agg [.sl false 3 (a0e (a2L a.1 a.2.1 a.2.2.1 a.2.2.2.1 a.2.2.2.2).1.commits), .sl false 2 (a0c (a2L a.1 a.2.1 a.2.2.1 a.2.2.2.1 a.2.2.2.2).1.heads)], .int .i64 (a2L a.1 a.2.1 a.2.2.1 a.2.2.2.1 a.2.2.2.2).2]) (fun _ => [])
theorem b2N : Has Tryz.prog 147 b0G := by
 refine a0d mixed a0H (HasL.cons a4i (HasL.cons b2T (HasL.cons b0d (HasL.cons a4N HasL.nil)))) [0, 1, 2, 3, 4, 5, 10, 11, 12, 13, 14, 15] ((fun a n (_ : Nat) => (fun _ => a0F) a n)) [] Tryz.func147 (by unfold Tryz.f147; rfl) (fun _ => ⟨(), trivial⟩) ?_
 intro a ha
 obtain ⟨r, n, w, o, b⟩ := a
 obtain ⟨h1, h2, h3, h4⟩ : a0v r = true /\ 0 <= atL r.heads n /\ a0S o = true /\ a0S b = true := ha
 simp -implicitDefEqProofs [b0G, a5Q, b0J, a9J, a6q, Con.fn, a0N, tTab, a0J]
 try dsimp only
 simp -implicitDefEqProofs only [and_assoc, exists_eq_left, exists_and_left, RepoD.ex1, RepoD.eta]
 obtain ⟨k1, k2, k3⟩ := b1W h1
 have hat := a9B (n := n) ((a0V r).1 h1).2.1
 have ga := cget (r := r) (c := atL r.heads n) h2 (by omega)
 rw [ga]
 simp -implicitDefEqProofs [D.asRows]
 have hlen : ∀ c, (addR r n c).commits.length <= 1073741824 := fun c => by simp -implicitDefEqProofs [addR]; omega
 refine ⟨h2, by omega, fun _ _ => ⟨a2m h3, a2m (a2F h1 _), a2m h4, fun _ => ⟨fun hj => ?_, fun hj => ⟨⟨[atL r.heads n], w, (a1o o (a0C r (atL r.heads n)) b).1⟩, rfl, rfl, rfl, k1, k3, hlen _, fun hs => ?_, fun hs => ?_⟩⟩⟩⟩
 ·unfold a2L; rw [if_neg (by intro e; rw [e] at hj; simp at hj)]; exact ⟨rfl, rfl, rfl⟩
 ·unfold a2L; rw [if_pos hj, if_neg (by simp -implicitDefEqProofs [hs])]; exact ⟨rfl, rfl, rfl⟩
 ·unfold a2L; rw [if_pos hj, if_pos hs]; exact ⟨rfl, rfl, rfl⟩
def b3P : Con := .fn 52 (RepoD × Str × Str × Int) (fun a => [a1g a.1, .str a.2.1, .str a.2.2.1, .int .i64 a.2.2.2]) (fun a => rpSz a.1) (fun a => .tup [.agg [.sl false 3 (a0e (a1w false a.1 a.2.1 a.2.2.1 a.2.2.2).1.commits), .sl false 2 (a0c (a1w false a.1 a.2.1 a.2.2.1 a.2.2.2).1.heads)], .int .i64 (a1w false a.1 a.2.1 a.2.2.1 a.2.2.2).2]) (fun _ => [])
theorem c1Q : Has Tryz.prog 91 b3P := by
 refine a0d mixed a0H (HasL.cons a4N (HasL.cons a4i (HasL.cons a4u (HasL.cons a4M (HasL.cons a5q (HasL.cons b0c (HasL.cons b2N HasL.nil))))))) [0, 1, 2, 3, 4, 8, 9, 10] ((fun a n (_ : Nat) => (fun _ => a0F) a n)) [] Tryz.func91 (by unfold Tryz.f91; rfl) (fun _ => ⟨(), trivial⟩) ?_
 intro a ha
 obtain ⟨r, n, w, b⟩ := a
 replace ha : rpSz r := ha
 simp -implicitDefEqProofs [b3P, a6q, a5Q, a4S, a6p, a5E, a7m, b0G, Con.fn, a0N, tTab, a0J]
 try dsimp only
 simp -implicitDefEqProofs only [and_assoc, exists_eq_left, exists_and_left, RepoD.ex1, RepoD.eta]
 have e0 : a0v r = false -> a1w false r n w b = (noR, 1) := fun h => by unfold a1w; rw [if_neg (by simp -implicitDefEqProofs [h])]
 have e1 : a0v r = true -> (atL r.heads n < 0 \/ a0Z w = false \/ ¬ (0 <= b /\ b < r.commits.length)) -> a1w false r n w b = (r, 1) := fun h h' => by unfold a1w; rw [if_pos h, if_pos h']
 have e2 : a0v r = true -> ¬ (atL r.heads n < 0 \/ a0Z w = false \/ ¬ (0 <= b /\ b < r.commits.length)) -> a1w false r n w b = a2L r n w (a2i r b) (a0C r b) := fun h h' => by unfold a1w; rw [if_pos h, if_neg h']; rfl
 have hr1 : r.commits.length <= 1048576 := ha.1
 refine ⟨by omega, fun h => by rw [e0 h]; exact ⟨rfl, rfl, rfl⟩, fun h => ⟨fun hn => ⟨ha, by rw [e1 h (.inl hn)]; exact ⟨rfl, rfl, rfl⟩⟩, fun hn => ⟨fun hw => ⟨ha, by rw [e1 h (.inr (.inl hw))]; exact ⟨rfl, rfl, rfl⟩⟩, fun hw _ => ⟨by omega, by omega, fun _ _ => ⟨fun hb => ⟨ha, by rw [e1 h (.inr (.inr (by omega)))]; exact ⟨rfl, rfl, rfl⟩⟩, fun hb hb' => ?_⟩⟩⟩⟩⟩
 rw [e2 h (by rintro (q | q | q); omega; rw [hw] at q; cases q; omega)]
 have cb := cget hb (show b < r.commits.length by omega)
 have s1 := a2F h b
 have s2 := a9z h b
 rw [cb]
 simp -implicitDefEqProofs [D.asRows, h, hn, hb, s1, s2, show b < r.commits.length by omega, show rpSz r from ha]
def a9L : Con := .fn 52 (RepoD × Str × Str × Int) (fun a => [a1g a.1, .str a.2.1, .str a.2.2.1, .int .i64 a.2.2.2]) (fun a => rpSz a.1) (fun a => .tup [.agg [.sl false 3 (a0e (a1w true a.1 a.2.1 a.2.2.1 a.2.2.2).1.commits), .sl false 2 (a0c (a1w true a.1 a.2.1 a.2.2.1 a.2.2.2).1.heads)], .int .i64 (a1w true a.1 a.2.1 a.2.2.1 a.2.2.2).2]) (fun _ => [])
theorem b7y : Has Tryz.prog 92 a9L := by
 refine a0d mixed a0H (HasL.cons a4N (HasL.cons a4i (HasL.cons a4u (HasL.cons a4M (HasL.cons a5q (HasL.cons b0c (HasL.cons b2N HasL.nil))))))) [0, 1, 2, 3, 4, 8, 9, 10] ((fun a n (_ : Nat) => (fun _ => a0F) a n)) [] Tryz.func92 (by unfold Tryz.f92; rfl) (fun _ => ⟨(), trivial⟩) ?_
 intro a ha
 obtain ⟨r, n, w, b⟩ := a
 replace ha : rpSz r := ha
 simp -implicitDefEqProofs [a9L, a6q, a5Q, a4S, a6p, a5E, a7m, b0G, Con.fn, a0N, tTab, a0J]
 try dsimp only
 simp -implicitDefEqProofs only [and_assoc, exists_eq_left, exists_and_left, RepoD.ex1, RepoD.eta]
 have e0 : a0v r = false -> a1w true r n w b = (noR, 1) := fun h => by unfold a1w; rw [if_neg (by simp -implicitDefEqProofs [h])]
 have e1 : a0v r = true -> (atL r.heads n < 0 \/ a0Z w = false \/ ¬ (0 <= b /\ b < r.commits.length)) -> a1w true r n w b = (r, 1) := fun h h' => by unfold a1w; rw [if_pos h, if_pos h']
 have e2 : a0v r = true -> ¬ (atL r.heads n < 0 \/ a0Z w = false \/ ¬ (0 <= b /\ b < r.commits.length)) -> a1w true r n w b = a2L r n w (a0C r b) (a2i r b) := fun h h' => by unfold a1w; rw [if_pos h, if_neg h']; rfl
 have hr1 : r.commits.length <= 1048576 := ha.1
 refine ⟨by omega, fun h => by rw [e0 h]; exact ⟨rfl, rfl, rfl⟩, fun h => ⟨fun hn => ⟨ha, by rw [e1 h (.inl hn)]; exact ⟨rfl, rfl, rfl⟩⟩, fun hn => ⟨fun hw => ⟨ha, by rw [e1 h (.inr (.inl hw))]; exact ⟨rfl, rfl, rfl⟩⟩, fun hw _ => ⟨by omega, by omega, fun _ _ => ⟨fun hb => ⟨ha, by rw [e1 h (.inr (.inr (by omega)))]; exact ⟨rfl, rfl, rfl⟩⟩, fun hb hb' => ?_⟩⟩⟩⟩⟩
 rw [e2 h (by rintro (q | q | q); omega; rw [hw] at q; cases q; omega)]
 have cb := cget hb (show b < r.commits.length by omega)
 have s1 := a2F h b
 have s2 := a9z h b
 rw [cb]
 simp -implicitDefEqProofs [D.asRows, h, hn, hb, s1, s2, show b < r.commits.length by omega, show rpSz r from ha]
--TAB a0N
def a2K (n : Nat) (k : Int) : List Int := (List.range n).map fun i : Nat => k + (i : Int)
theorem a2V (n : Nat) (k : Int) : (a2K n k).length = n := by simp -implicitDefEqProofs [a2K]
def a4v (a : List Int) (k : Int) (i : Nat) : List Int := (a2K a.length k).take i ++ a.drop i
theorem c4y {a : List Int} {k : Int} {i : Nat} (h : i <= a.length) : (a4v a k i).length = a.length := by simp -implicitDefEqProofs [a4v, a2V]; omega
theorem c1F (a : List Int) (k : Int) : a4v a k 0 = a := by simp -implicitDefEqProofs [a4v]
theorem c4x {a : List Int} {k : Int} {i : Nat} (h : a.length <= i) : a4v a k i = a2K a.length k := by
 unfold a4v
 rw [List.take_of_length_le (by rw [a2V]; exact h), List.drop_eq_nil_of_le h, List.append_nil]
theorem c4z {a : List Int} {k : Int} {i : Nat} (h : i < a.length) : (a4v a k i).set i (k + i) = a4v a k (i + 1) := by
 unfold a4v
 have h1 : ((a2K a.length k).take i).length = i := by rw [List.length_take, a2V]; omega
 rw [List.set_append_right _ _ (by omega), h1, Nat.sub_self, List.drop_eq_getElem_cons h, List.set_cons_zero]
 rw [a0p (l := a2K a.length k) (i := i) (by rw [a2V]; exact h)]
 simp -implicitDefEqProofs [a2K]
def a9K : Con := { A := List Int × Int, X := Unit, n := 19, args := fun a => [.own 0 1 (a0g a.1), .int .i64 a.2], boxes := fun _ => [], pre := fun a => 0 <= a.2 /\ a.2 + a.1.length <= 4611686018427387904, post := fun _ _ => True, res := fun a _ => .int .i64 (a.2 + a.1.length), fin := fun a _ => [(0, .own 3 1 true (a0g (a2K a.1.length a.2)))], owns := fun a => [(0, 3, 1, a0g a.1)], lends := [0], mv := true, sube := 3 }
theorem b7g : Has Tryz.prog 95 a9K := by
 refine a0d mixed a0f HasL.nil [0, 1, 4, 5] ((fun a n (_ : Nat) => (fun a _ => ⟨Nat, fun i => ⟨[(0, true, .own 0 1 (a0g (a4v a.1 a.2 i))), (1, true, .int .i64 (a.2 + i)), (4, true, .int .i64 0), (5, true, .int .i64 i)], [(0, .own 3 1 true (a0g (a4v a.1 a.2 i)))]⟩, fun i => i <= a.1.length, fun i => a.1.length - i⟩) a n)) [] Tryz.func95 (by unfold Tryz.f95; rfl) (fun _ => ⟨(), trivial⟩) ?_
 intro a ha
 obtain ⟨l, k⟩ := a
 obtain ⟨q1, q2⟩ : 0 <= k /\ k + l.length <= 4611686018427387904 := ha
 have e1 := fun i => @c4y l k i
 have e2 := fun i => @c4z l k i
 have e3 := c1F l k
 have e4 := fun i => @c4x l k i
 simp -implicitDefEqProofs [a9K, Con.fn, tTab]
 try dsimp only
 refine ⟨⟨0, ⟨⟨e3, by omega, rfl⟩, e3.symm⟩, Nat.zero_le _⟩, fun i hi _ => ⟨fun hlt => ⟨hlt, fun _ => ⟨hlt, ⟨by omega, by omega⟩, fun _ _ => ⟨⟨by omega, by omega⟩, fun _ _ => ?_⟩⟩⟩, fun hge => ?_⟩⟩
 ·rw [e1 i hi] at hlt
  have h := e2 i hlt
  have hs : (a0g (a4v l k i)).set i [D.int .i64 (k + i)] = a0g (a4v l k (i + 1)) := by rw [a7p, h]
  exact ⟨i + 1, ⟨⟨hs.symm, by omega, by omega⟩, hs⟩, by omega, by omega⟩
 ·rw [e1 i hi] at hge
  exact ⟨by omega, e4 i hge⟩
def b0P (a : List Int) (k : Int) : Int := if a = a2K a.length k then k + a.length else -1
def a9H : Con := .fn 21 (List Int × Int) (fun a => [.sl true 1 (a0g a.1), .int .i64 a.2]) (fun a => 0 <= a.2 /\ a.2 + a.1.length <= 4611686018427387904) (fun a => .int .i64 (b0P a.1 a.2)) (fun _ => [])
theorem b6I : Has Tryz.prog 97 a9H := by
 refine a0d mixed a0f HasL.nil [0, 1, 4, 5] ((fun a n (_ : Nat) => (fun a _ => ⟨Nat, fun i => ⟨[(0, true, .sl true 1 (a0g a.1)), (1, true, .int .i64 (a.2 + i)), (4, true, .int .i64 0), (5, true, .int .i64 i)], []⟩, fun i => i <= a.1.length /\ a.1.take i = (a2K a.1.length a.2).take i, fun i => a.1.length - i⟩) a n)) [] Tryz.func97 (by unfold Tryz.f97; rfl) (fun _ => ⟨(), trivial⟩) ?_
 intro a ha
 obtain ⟨l, k⟩ := a
 obtain ⟨q1, q2⟩ : 0 <= k /\ k + l.length <= 4611686018427387904 := ha
 simp -implicitDefEqProofs [a9H, Con.fn, tTab]
 try dsimp only
 have hg : ∀ i (h : i < l.length), (a2K l.length k)[i]'(by rw [a2V]; exact h) = k + i := fun i h => by simp -implicitDefEqProofs [a2K]
 refine ⟨⟨0, ⟨by omega, rfl⟩, Nat.zero_le _, by simp⟩, fun i hi hp _ => ⟨fun hlt => ⟨hlt, fun _ => ⟨by simp -implicitDefEqProofs [hlt, eInt], fun _ _ => ⟨fun hne => ?_, fun he => ⟨⟨by omega, by omega⟩, fun _ _ => ⟨⟨by omega, by omega⟩, fun _ _ => ⟨i + 1, ⟨by omega, by omega⟩, ⟨by omega, ?_⟩, by omega⟩⟩⟩⟩⟩⟩, fun hge => ?_⟩⟩
 ·have hne' : ¬ l[i] = k + i := by simpa [hlt, eInt] using hne
  unfold b0P
  rw [if_neg]
  intro e
  have h2 := hg i hlt
  apply hne'
  have : l[i]? = (a2K l.length k)[i]? := by rw [<- e]
  rw [List.getElem?_eq_getElem hlt, List.getElem?_eq_getElem (by rw [a2V]; exact hlt), h2] at this
  exact Option.some.inj this
 ·have he' : l[i] = k + i := by simpa [hlt, eInt] using he
  rw [a0p hlt, a0p (l := a2K l.length k) (by rw [a2V]; exact hlt), hp, hg i hlt, he']
 ·rw [List.take_of_length_le hge, List.take_of_length_le (by rw [a2V]; exact hge)] at hp
  unfold b0P
  rw [if_pos hp]; omega
def mkC (c : CommitD) (k : Int) : CommitD := ⟨a2K c.parents.length k, a1p (k + c.parents.length), a1c c.tree (k + c.parents.length + 1)⟩
def kC (c : CommitD) (k : Int) : Int := kE c.tree (k + c.parents.length + 1)
def kCs : List CommitD -> Int -> Int
 | [], k => k
 | c :: l, k => kCs l (kC c k)
def a1x : List CommitD -> Int -> List CommitD
 | [], _ => []
 | c :: l, k => mkC c k :: a1x l (kC c k)
theorem a2x : ∀ (l : List CommitD) (k : Int), (a1x l k).length = l.length
 | [], _ => rfl
 | c :: l, k => by simp -implicitDefEqProofs [a1x, a2x l]
theorem b1O : ∀ (l : List CommitD) (c : CommitD) (k : Int), kCs (l ++ [c]) k = kC c (kCs l k)
 | [], _, _ => rfl
 | d :: l, c, k => by simp only [List.cons_append, kCs]; exact b1O l c _
theorem a6v : ∀ (l : List CommitD) (k : Int) (i : Nat) (h : i < l.length), (a1x l k)[i]'(by rw [a2x]; exact h) = mkC l[i] (kCs (l.take i) k)
 | [], _, i, h => by simp at h
 | c :: l, k, 0, _ => rfl
 | c :: l, k, i + 1, h => by
  simp only [a1x, List.getElem_cons_succ, List.take_succ_cons, kCs]
  exact a6v l _ i (by simpa using h)
theorem c1c {c : CommitD} {k : Int} : k + c.parents.length + 1 <= kC c k := by
 have := (c1g (t := c.tree) (k := k + c.parents.length + 1) c.tree.length).1
 rw [List.take_length] at this
 exact this
theorem a7b : ∀ (l : List CommitD) (k : Int), k <= kCs l k
 | [], _ => Int.le_refl _
 | c :: l, k => by
  have h1 := c1c (c := c) (k := k)
  have h2 := a7b l (kC c k)
  simp only [kCs]; omega
theorem b4G (l : List CommitD) (k : Int) (i : Nat) : kCs (l.take i) k <= kCs l k := by
 have : ∀ (a b : List CommitD) (k : Int), kCs (a ++ b) k = kCs b (kCs a k) := by
  intro a
  induction a with
  | nil => intro b k; rfl
  | cons c a ih => intro b k; simp only [List.cons_append, kCs]; exact ih b _
 conv => rhs; rw [<- List.take_append_drop i l]
 rw [this]
 exact a7b _ _
def a3v (a : List CommitD) (k : Int) (i : Nat) : List CommitD := (a1x a k).take i ++ a.drop i
theorem c4v {a : List CommitD} {k : Int} {i : Nat} (h : i <= a.length) : (a3v a k i).length = a.length := by simp -implicitDefEqProofs [a3v, a2x]; omega
theorem c1E (a : List CommitD) (k : Int) : a3v a k 0 = a := by simp -implicitDefEqProofs [a3v]
theorem c4t {a : List CommitD} {k : Int} {i : Nat} (h : a.length <= i) : a3v a k i = a1x a k := by
 unfold a3v
 rw [List.take_of_length_le (by rw [a2x]; exact h), List.drop_eq_nil_of_le h, List.append_nil]
theorem c4u {a : List CommitD} {k : Int} {i : Nat} (h : i < a.length) : (a3v a k i)[i]? = some a[i] := by
 unfold a3v
 rw [List.getElem?_append_right (by simp; omega), List.length_take, a2x, Nat.min_eq_left (by omega), Nat.sub_self, List.getElem?_drop]
 simp -implicitDefEqProofs [h]
theorem c4w {a : List CommitD} {k : Int} {i : Nat} (h : i < a.length) : (a3v a k i).set i (mkC a[i] (kCs (a.take i) k)) = a3v a k (i + 1) := by
 unfold a3v
 have h1 : ((a1x a k).take i).length = i := by rw [List.length_take, a2x]; omega
 rw [List.set_append_right _ _ (by omega), h1, Nat.sub_self, List.drop_eq_getElem_cons h, List.set_cons_zero]
 rw [a0p (l := a1x a k) (i := i) (by rw [a2x]; exact h), a6v a k i h]
 simp
def a6Q : Con := { A := List CommitD × Int, X := Unit, n := 35, args := fun a => [.own 0 3 (a0e a.1), .int .i64 a.2], boxes := fun _ => [], pre := fun a => 0 <= a.2 /\ kCs a.1 a.2 <= 1152921504606846976, post := fun _ _ => True, res := fun a _ => .int .i64 (kCs a.1 a.2), fin := fun a _ => [(0, .own 87 3 true (a0e (a1x a.1 a.2)))], owns := fun a => [(0, 87, 3, a0e a.1)], lends := [0], mv := true, sube := 87 }
theorem b2W : Has Tryz.prog 40 a6Q := by
 refine a0d mixed a0f (HasL.cons b7g (HasL.cons a2e (HasL.cons b5l HasL.nil))) [0, 1, 4, 5] ((fun a n (_ : Nat) => (fun a _ => ⟨Nat, fun i => ⟨[(0, true, .own 0 3 (a0e (a3v a.1 a.2 i))), (1, true, .int .i64 (kCs (a.1.take i) a.2)), (4, true, .int .i64 0), (5, true, .int .i64 i)], [(0, .own 87 3 true (a0e (a3v a.1 a.2 i)))]⟩, fun i => i <= a.1.length, fun i => a.1.length - i⟩) a n)) [] Tryz.func40 (by unfold Tryz.f40; rfl) (fun _ => ⟨(), trivial⟩) ?_
 intro a ha
 obtain ⟨l, k⟩ := a
 obtain ⟨q1, q2⟩ : 0 <= k /\ kCs l k <= 1152921504606846976 := ha
 have e1 := fun i => @c4v l k i
 have e3 := c1E l k
 simp -implicitDefEqProofs [a6Q, Con.fn, tTab, a9K, a2B, a8A]
 try dsimp only
 refine ⟨⟨0, ⟨⟨e3, rfl, rfl⟩, e3.symm⟩, Nat.zero_le _⟩, fun t ht hbig => ⟨fun hlt => ?_, fun hge => ?_⟩⟩
 ·rw [e1 t ht] at hlt
  have g := c4u (k := k) hlt
  have hl := e1 t ht
  have g2 : (a3v l k t)[t]'(by omega) = l[t] := by
   rw [List.getElem?_eq_getElem (by omega)] at g; exact Option.some.inj g
  have hst := c4w (k := k) hlt
  have hsn : kCs (l.take (t + 1)) k = kC l[t] (kCs (l.take t) k) := by rw [a0p hlt, b1O]
  have hsp := b4G l k (t + 1)
  rw [hsn] at hsp
  have hge1 := a7b (l.take t) k
  have hkc := c1c (c := l[t]) (k := kCs (l.take t) k)
  generalize kCs (l.take t) k = b at *
  simp -implicitDefEqProofs [g, g2, hl, hlt, a0K, D.asRows, and_assoc]
  have hse : (a0e (a3v l k t)).set t [D.sl 3 1 (a0g (a2K l[t].parents.length b)), D.str (a1p (b + l[t].parents.length)), D.sl 99 2 (a0a (a1c l[t].tree (b + l[t].parents.length + 1)))] = a0e (a3v l k (t + 1)) := by
   rw [<- hst]; unfold a0e; rw [List.map_set]; rfl
  have hkE : kC l[t] b = kE l[t].tree (b + l[t].parents.length + 1) := rfl
  rw [hkE] at hsp hsn hkc
  refine ⟨by omega, by omega, by omega, by omega, fun _ _ => ⟨by omega, by omega, by omega, by omega, fun _ _ => ⟨t + 1, hse.symm, hsn, by omega, hse, by omega, by omega⟩⟩⟩
 ·have hge' : l.length <= t := by rw [e1 t ht] at hge; omega
  rw [List.take_of_length_le hge', c4t hge']
  simp
def a1Z (n : Nat) (k : Int) : List HeadD := (List.range n).map fun i : Nat => ⟨a1p (k + 2 * i), k + 2 * i + 1⟩
theorem a2d (n : Nat) (k : Int) : (a1Z n k).length = n := by simp -implicitDefEqProofs [a1Z]
theorem a9c {n : Nat} {k : Int} {i : Nat} (h : i < n) : (a1Z n k)[i]'(by rw [a2d]; exact h) = ⟨a1p (k + 2 * i), k + 2 * i + 1⟩ := by simp -implicitDefEqProofs [a1Z]
def mHA (a : List HeadD) (k : Int) (i : Nat) : List HeadD := (a1Z a.length k).take i ++ a.drop i
theorem c9G {a : List HeadD} {k : Int} {i : Nat} (h : i <= a.length) : (mHA a k i).length = a.length := by simp -implicitDefEqProofs [mHA, a2d]; omega
theorem c7f (a : List HeadD) (k : Int) : mHA a k 0 = a := by simp -implicitDefEqProofs [mHA]
theorem c9E {a : List HeadD} {k : Int} {i : Nat} (h : a.length <= i) : mHA a k i = a1Z a.length k := by
 unfold mHA
 rw [List.take_of_length_le (by rw [a2d]; exact h), List.drop_eq_nil_of_le h, List.append_nil]
theorem c9F {a : List HeadD} {k : Int} {i : Nat} (h : i < a.length) : (mHA a k i)[i]? = some a[i] := by
 unfold mHA
 rw [List.getElem?_append_right (by simp; omega), List.length_take, a2d, Nat.min_eq_left (by omega), Nat.sub_self, List.getElem?_drop]
 simp -implicitDefEqProofs [h]
theorem c9H {a : List HeadD} {k : Int} {i : Nat} (h : i < a.length) : (mHA a k i).set i ⟨a1p (k + 2 * i), k + 2 * i + 1⟩ = mHA a k (i + 1) := by
 unfold mHA
 have h1 : ((a1Z a.length k).take i).length = i := by rw [List.length_take, a2d]; omega
 rw [List.set_append_right _ _ (by omega), h1, Nat.sub_self, List.drop_eq_getElem_cons h, List.set_cons_zero]
 rw [a0p (l := a1Z a.length k) (i := i) (by rw [a2d]; exact h), a9c h]
 simp
def a8B : Con := { A := List HeadD × Int, X := Unit, n := 28, args := fun a => [.own 0 2 (a0c a.1), .int .i64 a.2], boxes := fun _ => [], pre := fun a => 0 <= a.2 /\ a.2 + 2 * a.1.length <= 4611686018427387904, post := fun _ _ => True, res := fun a _ => .int .i64 (a.2 + 2 * a.1.length), fin := fun a _ => [(0, .own 89 2 true (a0c (a1Z a.1.length a.2)))], owns := fun a => [(0, 89, 2, a0c a.1)], lends := [0], mv := true, sube := 89 }
theorem b5m : Has Tryz.prog 41 a8B := by
 refine a0d mixed a0f (HasL.cons a2e HasL.nil) [0, 1, 4, 5] ((fun a n (_ : Nat) => (fun a _ => ⟨Nat, fun i => ⟨[(0, true, .own 0 2 (a0c (mHA a.1 a.2 i))), (1, true, .int .i64 (a.2 + 2 * i)), (4, true, .int .i64 0), (5, true, .int .i64 i)], [(0, .own 89 2 true (a0c (mHA a.1 a.2 i)))]⟩, fun i => i <= a.1.length, fun i => a.1.length - i⟩) a n)) [] Tryz.func41 (by unfold Tryz.f41; rfl) (fun _ => ⟨(), trivial⟩) ?_
 intro a ha
 obtain ⟨l, k⟩ := a
 obtain ⟨q1, q2⟩ : 0 <= k /\ k + 2 * l.length <= 4611686018427387904 := ha
 have e1 := fun i => @c9G l k i
 have e3 := c7f l k
 simp -implicitDefEqProofs [a8B, Con.fn, tTab, a2B]
 try dsimp only
 refine ⟨⟨0, ⟨⟨e3, by omega, rfl⟩, e3.symm⟩, Nat.zero_le _⟩, fun t ht hbig => ⟨fun hlt => ?_, fun hge => ?_⟩⟩
 ·rw [e1 t ht] at hlt
  have g := c9F (k := k) hlt
  have hl := e1 t ht
  have g2 : (mHA l k t)[t]'(by omega) = l[t] := by
   rw [List.getElem?_eq_getElem (by omega)] at g; exact Option.some.inj g
  have hst := c9H (k := k) hlt
  simp -implicitDefEqProofs [g, g2, hl, hlt, a1d, D.asRows, and_assoc]
  have hse : (a0c (mHA l k t)).set t [D.str (a1p (k + 2 * t)), D.int .i64 (k + 2 * t + 1)] = a0c (mHA l k (t + 1)) := by
   rw [<- hst, a4s]
  exact ⟨by omega, by omega, by omega, fun _ _ => ⟨by omega, by omega, fun _ _ => ⟨by omega, by omega, fun _ _ => ⟨t + 1, hse.symm, by omega, by omega, hse, by omega, by omega⟩⟩⟩⟩
 ·have hge' : l.length <= t := by rw [e1 t ht] at hge; omega
  rw [c9E hge']
  simp; omega
def a4G (a : List HeadD) (k : Int) : Int := if a = a1Z a.length k then k + 2 * a.length else -1
theorem b8s (n : Nat) (k : Int) : a4G (a1Z n k) k = k + 2 * n := by
 unfold a4G
 rw [a2d, if_pos rfl]
theorem c0R {l : List HeadD} {k : Int} {i : Nat} (h : i < l.length) (h2 : l[i].name ≠ a1p (k + 2 * i) \/ l[i].at_ ≠ k + 2 * i + 1) : a4G l k = -1 := by
 unfold a4G
 rw [if_neg]
 intro h3
 have : l[i]? = (a1Z l.length k)[i]? := by rw [<- h3]
 rw [List.getElem?_eq_getElem h, List.getElem?_eq_getElem (by rw [a2d]; exact h), a9c h] at this
 have := Option.some.inj this
 rcases h2 with h2 | h2
 ·exact h2 (congrArg HeadD.name this)
 ·exact h2 (congrArg HeadD.at_ this)
theorem c0S {l : List HeadD} {k : Int} {i : Nat} (h : i < l.length) (h1 : l.take i = (a1Z l.length k).take i) (h2 : l[i].name = a1p (k + 2 * i)) (h3 : l[i].at_ = k + 2 * i + 1) : l.take (i + 1) = (a1Z l.length k).take (i + 1) := by
 rw [a0p h, a0p (by rw [a2d]; exact h), a9c h, <- h1, <- h2, <- h3]
theorem c3A {l : List HeadD} {k : Int} {i : Nat} (h : l.length <= i) (h1 : l.take i = (a1Z l.length k).take i) : a4G l k = k + 2 * l.length := by
 rw [List.take_of_length_le h, List.take_of_length_le (by rw [a2d]; exact h)] at h1
 unfold a4G
 rw [if_pos h1]
def a8y : Con := .fn 32 (List HeadD × Int) (fun a => [.sl true 2 (a0c a.1), .int .i64 a.2]) (fun a => 0 <= a.2 /\ a.2 + 2 * a.1.length <= 4611686018427387904) (fun a => .int .i64 (a4G a.1 a.2)) (fun _ => [])
theorem b5h : Has Tryz.prog 43 a8y := by
 refine a0d mixed a0f (HasL.cons a2e HasL.nil) [0, 1, 4, 5] ((fun a n (_ : Nat) => (fun a _ => ⟨Nat, fun i => ⟨[(0, true, .sl true 2 (a0c a.1)), (1, true, .int .i64 (a.2 + 2 * i)), (4, true, .int .i64 0), (5, true, .int .i64 i)], []⟩, fun i => i <= a.1.length /\ a.1.take i = (a1Z a.1.length a.2).take i, fun i => a.1.length - i⟩) a n)) [] Tryz.func43 (by unfold Tryz.f43; rfl) (fun _ => ⟨(), trivial⟩) ?_
 intro a ha
 obtain ⟨l, k⟩ := a
 obtain ⟨q1, q2⟩ : 0 <= k /\ k + 2 * l.length <= 4611686018427387904 := ha
 have e1 := fun i => @c0R l k i
 have e2 := fun i => @c0S l k i
 have e3 := fun i => @c3A l k i
 simp -implicitDefEqProofs [a8y, Con.fn, tTab, a2B]
 try dsimp only
 refine ⟨⟨0, by simp⟩, fun i hi hp _ => ⟨fun hlt => ?_, fun hge => ?_⟩⟩
 ·simp -implicitDefEqProofs [hlt, a1d, D.asStr, and_assoc]
  exact ⟨by omega, fun h => e1 i hlt (.inl h), fun h1 => ⟨by omega, by omega, fun _ _ => ⟨fun h => e1 i hlt (.inr h), fun h2 => ⟨by omega, by omega, fun _ _ => ⟨by omega, by omega, fun _ _ => ⟨i + 1, by omega, by omega, by omega, e2 i hlt hp h1 h2, by omega⟩⟩⟩⟩⟩⟩
 ·have := e3 i hge hp
  omega
def a7n : Con := { A := RepoD × Int, X := Unit, n := 14, args := fun a => [.agg [.own 0 3 (a0e a.1.commits), .own 1 2 (a0c a.1.heads)], .int .i64 a.2], boxes := fun _ => [], pre := fun a => 0 <= a.2 /\ kCs a.1.commits a.2 + 2 * a.1.heads.length <= 1152921504606846976, post := fun _ _ => True, res := fun a _ => .int .i64 (kCs a.1.commits a.2 + 2 * a.1.heads.length), fin := fun a _ => [(0, .own 87 3 true (a0e (a1x a.1.commits a.2))), (1, .own 89 2 true (a0c (a1Z a.1.heads.length (kCs a.1.commits a.2))))], owns := fun a => [(0, 87, 3, a0e a.1.commits), (1, 89, 2, a0c a.1.heads)], lends := [0, 1], mv := true, sube := 87 }
theorem b7h : Has Tryz.prog 17 a7n := by
 refine a0d mixed a0f (HasL.cons b2W (HasL.cons b5m HasL.nil)) [0, 1, 2, 4] ((fun a n (_ : Nat) => (fun _ => a0F) a n)) [] Tryz.func17 (by unfold Tryz.f17; rfl) (fun _ => ⟨(), trivial⟩) ?_
 intro a ha
 obtain ⟨r, k⟩ := a
 obtain ⟨q1, q2⟩ : 0 <= k /\ kCs r.commits k + 2 * r.heads.length <= 1152921504606846976 := ha
 simp -implicitDefEqProofs [a7n, Con.fn, tTab, a6Q, a8B]
 try dsimp only
 exact ⟨_, _, ⟨rfl, rfl⟩, rfl, ⟨q1, by omega⟩, _, _, ⟨rfl, rfl⟩, rfl, ⟨by have := a7b r.commits k; omega, by omega⟩, rfl, rfl, rfl⟩
theorem c7g (c : CommitD) (k : Int) : mkC (mkC c k) k = mkC c k := by
 unfold mkC
 simp only [a2V, b8M]
theorem c9t (c : CommitD) (k : Int) : kC (mkC c k) k = kC c k := by
 unfold kC
 have h1 : (mkC c k).parents.length = c.parents.length := by simp -implicitDefEqProofs [mkC, a2V]
 have h2 : (mkC c k).tree = a1c c.tree (k + c.parents.length + 1) := rfl
 rw [h1, h2, b6T]
theorem a5T : ∀ (l : List CommitD) (k : Int), a1x (a1x l k) k = a1x l k /\ kCs (a1x l k) k = kCs l k
 | [], _ => ⟨rfl, rfl⟩
 | c :: l, k => by
  obtain ⟨h1, h2⟩ := a5T l (kC c k)
  simp only [a1x, kCs, c7g, c9t, h1, h2]
  exact ⟨trivial, trivial⟩
def a3m (l : List CommitD) (k : Int) : Int := if l = a1x l k then kCs l k else -1
theorem b8r (l : List CommitD) (k : Int) : a3m (a1x l k) k = kCs l k := by
 unfold a3m
 rw [(a5T l k).1, if_pos rfl, (a5T l k).2]
theorem c0N {l : List CommitD} {k : Int} {i : Nat} (h : i < l.length) (h2 : l[i].parents ≠ a2K l[i].parents.length (kCs (l.take i) k) \/ l[i].who ≠ a1p (kCs (l.take i) k + l[i].parents.length) \/ l[i].tree ≠ a1c l[i].tree (kCs (l.take i) k + l[i].parents.length + 1)) : a3m l k = -1 := by
 unfold a3m
 rw [if_neg]
 intro h3
 have : l[i]? = (a1x l k)[i]? := by rw [<- h3]
 rw [List.getElem?_eq_getElem h, List.getElem?_eq_getElem (by rw [a2x]; exact h), a6v l k i h] at this
 have := Option.some.inj this
 rcases h2 with h2 | h2 | h2
 ·exact h2 (congrArg CommitD.parents this)
 ·exact h2 (congrArg CommitD.who this)
 ·exact h2 (congrArg CommitD.tree this)
theorem c0O {l : List CommitD} {k : Int} {i : Nat} (h : i < l.length) (h1 : l.take i = (a1x l k).take i) (h2 : l[i].parents = a2K l[i].parents.length (kCs (l.take i) k)) (h3 : l[i].who = a1p (kCs (l.take i) k + l[i].parents.length)) (h4 : l[i].tree = a1c l[i].tree (kCs (l.take i) k + l[i].parents.length + 1)) : l.take (i + 1) = (a1x l k).take (i + 1) := by
 have e : mkC l[i] (kCs (l.take i) k) = l[i] := by
  unfold mkC
  rw [<- h2, <- h3, <- h4]
 rw [a0p h, a0p (by rw [a2x]; exact h), a6v l k i h, <- h1, e]
theorem c3x {l : List CommitD} {k : Int} {i : Nat} (h : l.length <= i) (h1 : l.take i = (a1x l k).take i) : a3m l k = kCs (l.take i) k := by
 rw [List.take_of_length_le h, List.take_of_length_le (by rw [a2x]; exact h)] at h1
 unfold a3m
 rw [if_pos h1, List.take_of_length_le h]
def a6O : Con := .fn 41 (List CommitD × Int) (fun a => [.sl true 3 (a0e a.1), .int .i64 a.2]) (fun a => 0 <= a.2 /\ kCs a.1 a.2 <= 1152921504606846976) (fun a => .int .i64 (a3m a.1 a.2)) (fun _ => [])
theorem b2A : Has Tryz.prog 42 a6O := by
 refine a0d mixed a0f (HasL.cons b6I (HasL.cons a2e (HasL.cons b5g HasL.nil))) [0, 1, 4, 5] ((fun a n (_ : Nat) => (fun a _ => ⟨Nat, fun i => ⟨[(0, true, .sl true 3 (a0e a.1)), (1, true, .int .i64 (kCs (a.1.take i) a.2)), (4, true, .int .i64 0), (5, true, .int .i64 i)], []⟩, fun i => i <= a.1.length /\ a.1.take i = (a1x a.1 a.2).take i, fun i => a.1.length - i⟩) a n)) [] Tryz.func42 (by unfold Tryz.f42; rfl) (fun _ => ⟨(), trivial⟩) ?_
 intro a ha
 obtain ⟨l, k⟩ := a
 obtain ⟨q1, q2⟩ : 0 <= k /\ kCs l k <= 1152921504606846976 := ha
 have e1 := fun i => @c0N l k i
 have e2 := fun i => @c0O l k i
 have e3 := fun i => @c3x l k i
 simp -implicitDefEqProofs [a6O, Con.fn, tTab, a9H, a2B, a8x]
 try dsimp only
 refine ⟨⟨0, by simp -implicitDefEqProofs [kCs]⟩, fun i hi hpre _ => ⟨fun hlt => ?_, fun hge => e3 i hge hpre⟩⟩
 have hsn : kCs (l.take (i + 1)) k = kC l[i] (kCs (l.take i) k) := by rw [a0p hlt, b1O]
 have hsp := b4G l k (i + 1)
 have hge1 := a7b (l.take i) k
 have hkc := c1c (c := l[i]) (k := kCs (l.take i) k)
 have m1 := e1 i hlt
 have m2 := e2 i hlt hpre
 rw [hsn] at hsp
 have hkE : kC l[i] (kCs (l.take i) k) = kE l[i].tree (kCs (l.take i) k + l[i].parents.length + 1) := rfl
 rw [hkE] at hsp hsn hkc
 clear e1 e2 e3 hkE
 generalize hb : kCs (l.take i) k = b at *
 simp -implicitDefEqProofs [hlt, a0K, D.asStr, D.asRows, and_assoc]
 have hl : ∀ a kk, b0P a kk = if a = a2K a.length kk then kk + a.length else -1 := fun _ _ => rfl
 have hf : ∀ a kk, a5Z a kk = if a = a1c a kk then kE a kk else -1 := fun _ _ => rfl
 by_cases hp : l[i].parents = a2K l[i].parents.length b
 ·have g1 : b0P l[i].parents b = b + l[i].parents.length := by rw [hl, if_pos hp]
  rw [g1]
  refine ⟨by omega, by omega, fun h => by omega, fun _ => ⟨by omega, fun h => m1 (.inr (.inl h)), fun hw => ⟨by omega, by omega, fun _ _ => ⟨by omega, by omega, ?_⟩⟩⟩⟩
  by_cases ht : l[i].tree = a1c l[i].tree (b + l[i].parents.length + 1)
  ·have g2 : a5Z l[i].tree (b + l[i].parents.length + 1) = kE l[i].tree (b + l[i].parents.length + 1) := by rw [hf, if_pos ht]
   rw [g2]
   exact ⟨fun h => by omega, fun _ => ⟨by omega, by omega, fun _ _ => ⟨i + 1, hsn, by omega, by omega, m2 hp hw ht, by omega⟩⟩⟩
  ·have g2 : a5Z l[i].tree (b + l[i].parents.length + 1) = -1 := by rw [hf, if_neg ht]
   rw [g2]
   exact ⟨fun _ => m1 (.inr (.inr ht)), fun h => by omega⟩
 ·have g1 : b0P l[i].parents b = -1 := by rw [hl, if_neg hp]
  rw [g1]
  exact ⟨by omega, by omega, fun _ => m1 (.inl hp), fun h => by omega⟩
def a8V (r : RepoD) (k : Int) : Int := if a3m r.commits k < 0 then -1 else if a4G r.heads (a3m r.commits k) < 0 then -1 else a4G r.heads (a3m r.commits k)
theorem c3y (l : List CommitD) (k : Int) : a3m l k <= kCs l k \/ a3m l k = -1 := by unfold a3m; split <;> omega
def a7k : Con := .fn 18 (RepoD × Int) (fun a => [a1g a.1, .int .i64 a.2]) (fun a => 0 <= a.2 /\ kCs a.1.commits a.2 + 2 * a.1.heads.length <= 1152921504606846976) (fun a => .int .i64 (a8V a.1 a.2)) (fun _ => [])
theorem b6J : Has Tryz.prog 18 a7k := by
 refine a0d mixed a0f (HasL.cons b2A (HasL.cons b5h HasL.nil)) [0, 1, 2, 4] ((fun a n (_ : Nat) => (fun _ => a0F) a n)) [] Tryz.func18 (by unfold Tryz.f18; rfl) (fun _ => ⟨(), trivial⟩) ?_
 intro a ha
 obtain ⟨r, k⟩ := a
 obtain ⟨q1, q2⟩ : 0 <= k /\ kCs r.commits k + 2 * r.heads.length <= 1152921504606846976 := ha
 simp -implicitDefEqProofs [a7k, Con.fn, tTab, a6O, a8y]
 try dsimp only
 have h1 := c3y r.commits k
 refine ⟨_, _, ⟨rfl, rfl⟩, ⟨q1, by omega⟩, fun h => by unfold a8V; rw [if_pos h], fun h => ⟨_, _, ⟨rfl, rfl⟩, ⟨h, by omega⟩, fun h2 => by unfold a8V; rw [if_neg (by omega), if_pos h2], fun h2 => by unfold a8V; rw [if_neg (by omega), if_neg (by omega)]⟩⟩
def mkR (r : RepoD) (k : Int) : RepoD := ⟨a1x r.commits k, a1Z r.heads.length (kCs r.commits k)⟩
theorem c0T (r : RepoD) (k : Int) (hk : 0 <= k) : a8V (mkR r k) k = kCs r.commits k + 2 * r.heads.length := by
 have h1 : a3m (mkR r k).commits k = kCs r.commits k := b8r _ _
 have h2 : a4G (mkR r k).heads (kCs r.commits k) = kCs r.commits k + 2 * r.heads.length := b8s _ _
 have h3 := a7b r.commits k
 unfold a8V
 rw [h1, if_neg (by omega), h2, if_neg (by omega)]
theorem c3M (r : RepoD) (k : Int) : kCs (mkR r k).commits k + 2 * (mkR r k).heads.length = kCs r.commits k + 2 * r.heads.length := by
 have h1 : kCs (mkR r k).commits k = kCs r.commits k := (a5T r.commits k).2
 have h2 : (mkR r k).heads.length = r.heads.length := a2d _ _
 rw [h1, h2]





--TAB a0N
theorem c9u : ∀ {l : List CommitD}, (∀ c ∈ l, c.parents.length <= 2 /\ c.tree.length <= 8 /\ ∀ f ∈ c.tree, f.text.length <= 64) -> ∀ k : Int, kCs l k <= k + 523 * l.length := by
 intro l
 induction l with
 | nil => intro _ k; simp -implicitDefEqProofs [kCs]
 | cons c l ih =>
  intro h k
  obtain ⟨h1, h2, h3⟩ := h c (by simp)
  have h4 := (d1D h2 h3 (k + c.parents.length + 1)).2
  have h5 := ih (fun x hx => h x (by simp -implicitDefEqProofs [hx])) (kC c k)
  have h6 : kC c k = kE c.tree (k + c.parents.length + 1) := rfl
  simp only [kCs, List.length_cons]
  omega
theorem c7R {r : RepoD} (h : a0E r = true) : kCs r.commits 1 + 2 * r.heads.length <= 10000 := by
 have h1 := a3C h
 have hc : ∀ c ∈ r.commits, c.parents.length <= 2 /\ c.tree.length <= 8 /\ ∀ f ∈ c.tree, f.text.length <= 64 := fun c hc => by
  obtain ⟨i, hi, rfl⟩ := List.getElem_of_mem hc
  have h2 := (a2t h hi).2.2
  exact ⟨(a2t h hi).1, a5M _ (by rw [<- a2k]; exact h2)⟩
 have hh : r.heads.length <= 5 := by
  rw [a1h] at h
  exact ((a2v _ _).1 ((a0V r).1 h).2.1).1
 have := c9u hc 1
 omega
def a4O (t : List FileD) (f : FileD) : List FileD × Bool := if a0x t then (if a0x (putI t f).1 then ((putI t f).1, true) else (t, false)) else ([], false)
theorem c2j (t : List FileD) (f : FileD) : a4O t f = a2Z t f := by
 unfold a4O a2Z
 by_cases h : a0x t = true
 ·have hs := b2b h
  have e : (putI t f).1 = setS t f := by rw [a7f hs, b1X hs]
  rw [e, a2k, a2k]
 ·rw [if_neg h, if_neg (by rw [<- a2k]; exact h)]
def a1A (p : Str) (f : FileD) : Bool := !atB f.path p
theorem b1H (p : Str) : a1A p = a1j p := by
 funext f
 unfold a1A a1j
 rw [c8w]
 by_cases h : p = f.path
 ·subst h; simp
 ·have : ¬ f.path = p := fun e => h e.symm
  simp -implicitDefEqProofs [h, this]
def a3p (t : List FileD) (p : Str) : List FileD × Bool := if a0x t then (filB (a1A p) t, decide ((filB (a1A p) t).length < t.length)) else ([], false)
theorem b9g (t : List FileD) (p : Str) : a3p t p = a2c t p := by
 unfold a3p a2c
 rw [b1H, a2k]
def mvI (p to : Str) : List FileD -> List FileD -> Option (List FileD)
 | [], o => some o
 | f :: l, o => if atB f.path p then (if (putI o ⟨to ++ f.path.drop p.length, f.text⟩).2 then mvI p to l (putI o ⟨to ++ f.path.drop p.length, f.text⟩).1 else none) else mvI p to l o
theorem a5J (p : Str) (f : FileD) : a6w p f = atB f.path p := by
 unfold a6w
 rw [c8w]
 congr 1
 by_cases h : f.path = p
 ·simp -implicitDefEqProofs [h]
 ·have : ¬ p = f.path := fun e => h e.symm
  simp -implicitDefEqProofs [h, this]
theorem b4T (o : List FileD) (f : FileD) : (putI o f).1.length = o.length + (if (putI o f).2 then 1 else 0) := by
 have hk := b4i o f.path
 unfold putI
 split
 ·simp
 ·simp -implicitDefEqProofs [a2D]; omega
def hits (p : Str) (l : List FileD) : Nat := (l.filter (a6w p)).length
theorem b4d (p to : Str) : ∀ (l o : List FileD), Srt o -> (mvFs p to o l).length <= o.length + hits p l
 | [], o, _ => by simp -implicitDefEqProofs [mvFs, hits]
 | f :: l, o, h => by
  have e : mvFs p to o (f :: l) = mvFs p to (a3P p to o f) l := rfl
  rw [e]
  unfold a3P
  by_cases hh : a6w p f = true
  ·rw [if_pos hh, b1X h]
   have ih := b4d p to l _ (b9N (f := ⟨to ++ f.path.drop p.length, f.text⟩) h)
   have hl := b4T o ⟨to ++ f.path.drop p.length, f.text⟩
   rw [a7f h] at hl
   have : hits p (f :: l) = hits p l + 1 := by simp -implicitDefEqProofs [hits, hh]
   split at hl <;> omega
  ·rw [if_neg hh]
   have ih := b4d p to l o h
   have : hits p (f :: l) = hits p l := by simp -implicitDefEqProofs [hits, hh]
   omega
theorem b7n (p to : Str) : ∀ (l o : List FileD), Srt o -> match mvI p to l o with
  | some x => x = mvFs p to o l /\ x.length = o.length + hits p l
  | none => (mvFs p to o l).length < o.length + hits p l
 | [], o, _ => by simp -implicitDefEqProofs [mvI, mvFs, hits]
 | f :: l, o, h => by
  have e : mvFs p to o (f :: l) = mvFs p to (a3P p to o f) l := rfl
  rw [e]
  unfold a3P mvI
  rw [a5J]
  by_cases hh : atB f.path p = true
  ·rw [if_pos hh, if_pos hh]
   have hit : hits p (f :: l) = hits p l + 1 := by simp -implicitDefEqProofs [hits, a5J, hh]
   have hl := b4T o ⟨to ++ f.path.drop p.length, f.text⟩
   have hs := b9N (f := ⟨to ++ f.path.drop p.length, f.text⟩) h
   have e2 : setS o ⟨to ++ f.path.drop p.length, f.text⟩ = (putI o ⟨to ++ f.path.drop p.length, f.text⟩).1 := by rw [a7f h, b1X h]
   rw [e2]
   rw [<- a7f h] at hs
   cases hp : (putI o ⟨to ++ f.path.drop p.length, f.text⟩).2 with
   | true =>
    rw [hp] at hl
    simp only [if_true] at hl ⊢
    have ih := b7n p to l _ hs
    cases hm : mvI p to l (putI o ⟨to ++ f.path.drop p.length, f.text⟩).1 with
    | some x =>
     rw [hm] at ih
     simp only at ih ⊢
     exact ⟨ih.1, by rw [ih.2, hl, hit]; omega⟩
    | none =>
     rw [hm] at ih
     simp only at ih ⊢
     rw [hit]; omega
   | false =>
    rw [hp] at hl
    simp only [Bool.false_eq_true, if_false] at hl ⊢
    have := b4d p to l _ hs
    rw [hit]; omega
  ·rw [if_neg hh, if_neg hh]
   have hit : hits p (f :: l) = hits p l := by simp -implicitDefEqProofs [hits, a5J, hh]
   rw [hit]
   exact b7n p to l o h
theorem c6A (p : Str) (t : List FileD) : (filB (a1A p) t).length + hits p t = t.length := by
 unfold hits filB
 induction t with
 | nil => rfl
 | cons f t ih =>
  have e : a6w p f = !a1A p f := by unfold a1A; rw [a5J]; simp
  cases hd : a1A p f with
  | true => simp -implicitDefEqProofs [hd, e]; omega
  | false => simp -implicitDefEqProofs [hd, e]; omega
def a2G (t : List FileD) (p to : Str) : List FileD × Bool :=
 if a0x t then match mvI p to t (filB (a1A p) t) with
  | some x => if t.any (fun f => atB f.path p) = false \/ a3b to = false then (t, false) else if a0x x then (x, true) else (t, false)
  | none => (t, false)
 else ([], false)
theorem b9h (t : List FileD) (p to : Str) : a2G t p to = a1y t p to := by
 unfold a2G a1y
 by_cases h : a0x t = true
 ·rw [if_pos h, if_pos (by rw [<- a2k]; exact h)]
  have hs : Srt (filB (a1A p) t) := (b2b h).filter _
  have hm := b7n p to t _ hs
  have ha := c6A p t
  have hany : (t.any (fun f => atB f.path p) = false) ↔ hits p t = 0 := by
   unfold hits
   rw [List.length_eq_zero_iff, List.filter_eq_nil_iff, List.any_eq_false]
   constructor
   ·intro q f hf; rw [a5J]; exact q f hf
   ·intro q f hf; have := q f hf; rwa [a5J] at this
  have hc : ((filB (a1j p) t).length = t.length \/ a3c to = false) ↔ (t.any (fun f => atB f.path p) = false \/ a3b to = false) := by
   rw [hany, <- b1H, a6K]
   constructor
   ·rintro (q | q)
    ·exact .inl (by omega)
    ·exact .inr q
   ·rintro (q | q)
    ·exact .inl (by omega)
    ·exact .inr q
  rw [<- b1H] at hc ⊢
  by_cases hq : t.any (fun f => atB f.path p) = false \/ a3b to = false
  ·rw [if_pos (hc.2 hq)]
   split
   ·rw [if_pos hq]
   ·rfl
  ·rw [if_neg (fun x => hq (hc.1 x))]
   cases hr : mvI p to t (filB (a1A p) t) with
   | some x =>
    rw [hr] at hm
    simp only at hm ⊢
    obtain ⟨m1, m2⟩ := hm
    rw [if_neg hq, <- m1]
    have ml : x.length = t.length := by omega
    by_cases hx : a0x x = true
    ·rw [if_pos hx, if_neg]
     rintro (q | q)
     ·rw [<- a2k, hx] at q; cases q
     ·exact q ml
    ·rw [if_neg hx, if_pos]
     left; rw [<- a2k]; simpa using hx
   | none =>
    rw [hr] at hm
    simp only at hm ⊢
    rw [if_pos]
    right; omega
 ·rw [if_neg h, if_neg (by rw [<- a2k]; exact h)]
theorem c7i {p to : Str} {t o : List FileD} {i : Nat} (h : i < t.length) : mvI p to (t.drop i) o = if atB t[i].path p then (if (putI o ⟨to ++ t[i].path.drop p.length, t[i].text⟩).2 then mvI p to (t.drop (i + 1)) (putI o ⟨to ++ t[i].path.drop p.length, t[i].text⟩).1 else none) else mvI p to (t.drop (i + 1)) o := by
 rw [List.drop_eq_getElem_cons h]; rfl
theorem c9K {p to : Str} {t o : List FileD} {i : Nat} (h : t.length <= i) : mvI p to (t.drop i) o = some o := by
 rw [List.drop_eq_nil_of_le h]; rfl
def comI (r : RepoD) (n : Str) : List Int := if 0 <= atL r.heads n then [atL r.heads n] else []
theorem d0L {r : RepoD} (h : a0E r = true) {n w : Str} {t : List FileD} : cmL r n ⟨comI r n, w, t⟩ = addR r n (comC r n w t) := by
 rw [a1h] at h
 rw [b3R ((a0V r).1 h).2.1]; rfl
theorem a3U {r : RepoD} {n w : Str} {t : List FileD} : a0X r n w t = if a0E r then (if a0E (cmL r n ⟨comI r n, w, t⟩) then (cmL r n ⟨comI r n, w, t⟩, true) else (r, false)) else (noR, false) := by
 unfold a0X
 by_cases h : a0E r = true
 ·rw [if_pos h, if_pos (by rw [<- a1h]; exact h), d0L h, a1h]
 ·rw [if_neg h, if_neg (by rw [<- a1h]; exact h)]; rfl
theorem a4J {r : RepoD} {n : Str} {a : Int} : a0R r n a = if a0E r then (if 0 <= atL r.heads n then (r, false) else if a0E ⟨r.commits, ptL r.heads n a⟩ then (⟨r.commits, ptL r.heads n a⟩, true) else (r, false)) else (noR, false) := by
 unfold a0R
 by_cases h : a0E r = true
 ·have h' : a0v r = true := by rw [<- a1h]; exact h
  rw [if_pos h, if_pos h', b7A ((a0V r).1 h').2.1, a1h]
  by_cases h1 : 0 <= atL r.heads n
  ·rw [if_pos h1, if_pos (.inl h1)]
  ·rw [if_neg h1]
   by_cases h2 : a0v ⟨r.commits, hSet r.heads n a⟩ = true
   ·rw [if_pos h2, if_neg]
    rintro (q | q)
    ·exact h1 q
    ·rw [h2] at q; cases q
   ·rw [if_neg h2, if_pos (.inr (by simpa using h2))]
 ·rw [if_neg h, if_neg (by rw [<- a1h]; exact h)]; rfl
theorem c7I {r : RepoD} (h : a0E r = true) {n w : Str} (h1 : 0 <= atL r.heads n) {o b : List FileD} (ho : a0x o = true) (hb : a0x b = true) :
  a2L r n w o b = if (a1r o (a0C r (atL r.heads n)) b).2 then
   (if a0E (cmL r n ⟨[atL r.heads n], w, (a1r o (a0C r (atL r.heads n)) b).1⟩) then (cmL r n ⟨[atL r.heads n], w, (a1r o (a0C r (atL r.heads n)) b).1⟩, 0) else (r, 5))
   else (r, 4) := by
 have hlt := b2i h h1
 unfold a2L
 rw [a9Z ho (a3o h ⟨h1, hlt⟩) hb]
 have hS := h
 rw [a1h] at hS
 have hH := ((a0V r).1 hS).2.1
 by_cases hj : (a1o o (a0C r (atL r.heads n)) b).2 = []
 ·rw [if_pos hj, if_pos hj]
  simp only [if_true]
  rw [b3R hH, a1h]
 ·rw [if_neg hj, if_neg hj]
  simp
theorem b9X {r : RepoD} (h : a0E r = true) {c : Int} (hc : 0 <= c /\ c < r.commits.length) : a0x (a2i r c) = true := by
 have hi : c.toNat < r.commits.length := by omega
 obtain ⟨_, h2, _⟩ := a2t h hi
 have hg : r.commits.getD c.toNat default = r.commits[c.toNat] := by simp [List.getD_eq_getElem?_getD, hi]
 unfold a2i
 rw [hg]
 cases hp : r.commits[c.toNat].parents with
 | nil => rfl
 | cons p ps =>
  have := h2 p (by rw [hp]; simp)
  exact a3o h ⟨this.1, by omega⟩
theorem pS_1 {r : RepoD} (h : a0E r = true) {back : Bool} {n w : Str} {c : Int} (hx : atL r.heads n < 0 \/ a0Z w = false \/ ¬ (0 <= c /\ c < r.commits.length)) : a1w back r n w c = (r, 1) := by
 unfold a1w; rw [if_pos (by rw [<- a1h]; exact h), if_pos hx]
theorem d1H {r : RepoD} (h : a0E r = true) {back : Bool} {n w : Str} {c : Int} (h1 : 0 <= atL r.heads n) (h2 : a0Z w = true) (h3 : 0 <= c /\ c < r.commits.length) :
  a1w back r n w c = if back then a2L r n w (a0C r c) (a2i r c) else a2L r n w (a2i r c) (a0C r c) := by
 unfold a1w
 rw [if_pos (by rw [<- a1h]; exact h), if_neg]
 rintro (q | q | q)
 ·omega
 ·rw [h2] at q; cases q
 ·exact q h3
--TAB a2z
def a4D (r : RepoD) (n : Int) : List FileD := if n < 0 then [] else a0C r n
def a9O : Con := .fn 13 (RepoD × Int) (fun a => [a1g a.1, .int .i64 a.2]) (fun a => -1 <= a.2 /\ a.2 < a.1.commits.length) (fun a => .sl true 2 (a0a (a4D a.1 a.2))) (fun _ => [])
theorem b4Y : Has Tryz.prog 71 a9O := by
 refine a0d mixed a2g HasL.nil [0, 1, 2, 4] ((fun a n (_ : Nat) => (fun _ => a0F) a n)) [] Tryz.func71 (by unfold Tryz.f71; rfl) (fun _ => ⟨(), trivial⟩) ?_
 intro a ha
 obtain ⟨r, n⟩ := a
 obtain ⟨h1, h2⟩ : -1 <= n /\ n < r.commits.length := ha
 by_cases h0 : n < 0
 ·have e : a4D r n = [] := by unfold a4D; rw [if_pos h0]
  simp -implicitDefEqProofs [a9O, Con.fn, a2z, tTab, e, h1, h2]
  try dsimp only
  exact fun h => absurd h (by omega)
 ·have hi : n.toNat < r.commits.length := by omega
  have e : Option.map a0K r.commits[n.toNat]? = some (a0K r.commits[n.toNat]) := by simp -implicitDefEqProofs [hi]
  have e2 : a4D r n = r.commits[n.toNat].tree := by unfold a4D a0C; rw [if_neg h0]; simp -implicitDefEqProofs [List.getD_eq_getElem?_getD, hi]
  simp -implicitDefEqProofs [a9O, Con.fn, a2z, tTab, e, e2, a0K, hi, h1, h2]
  try dsimp only
  exact fun h => absurd h h0
theorem c5P (r : RepoD) (a : Int) (h : ∀ p ∈ (r.commits.getD a.toNat default).parents, 0 <= p) : a2i r a = a4D r (a5p r a) := by
 unfold a2i a5p
 cases hp : (r.commits.getD a.toNat default).parents with
 | nil => rfl
 | cons p l =>
  have := h p (by rw [hp]; simp)
  show a0C r p = a4D r p
  unfold a4D
  rw [if_neg (by omega)]
theorem c8Q {r : RepoD} (h : a0E r = true) {a : Int} (h0 : 0 <= a) (h1 : a < r.commits.length) : a2i r a = a4D r (a5p r a) := c5P r a fun p hp => by
 have hc : a.toNat < r.commits.length := by omega
 exact ((a2t h hc).2.1 p (by simpa [List.getD_eq_getElem?_getD, hc] using hp)).1
--TAB a0N
abbrev oR (x : RepoD × Int) : AV := .tup [.agg [.own 8 3 (a0e x.1.commits), .own 9 2 (a0c x.1.heads)], .int .i64 x.2]
abbrev oRf (x : RepoD × Int) : List (Nat × Blk) := a2y 8 x.1.commits ++ a2N 9 x.1.heads
def b6f : Con := .fn 49 (RepoD × Str × Str × List FileD × List FileD) (fun a => [a1g a.1, .str a.2.1, .str a.2.2.1, .sl true 2 (a0a a.2.2.2.1), .sl true 2 (a0a a.2.2.2.2)]) (fun a => a0E a.1 = true /\ 0 <= atL a.1.heads a.2.1 /\ a0x a.2.2.2.1 = true /\ a0x a.2.2.2.2 = true) (fun a => oR (a2L a.1 a.2.1 a.2.2.1 a.2.2.2.1 a.2.2.2.2)) (fun a => oRf (a2L a.1 a.2.1 a.2.2.1 a.2.2.2.1 a.2.2.2.2))
theorem c2G : Has Tryz.prog 135 b6f := by
 refine a0d mixed a0H (HasL.cons a5C (HasL.cons b0w (HasL.cons b0a (HasL.cons a3J (HasL.cons a8O (HasL.cons a6e HasL.nil)))))) [0, 1, 2, 3, 4, 5, 10, 11, 12, 13, 14, 15] ((fun a n (_ : Nat) => (fun _ => a0F) a n)) [16417, 16425, 16426] Tryz.func135 (by unfold Tryz.f135; rfl) (fun _ => ⟨(), trivial⟩) ?_
 intro a ha
 obtain ⟨r, n, w, o, b⟩ := a
 obtain ⟨h1, h2, h3, h4⟩ : a0E r = true /\ 0 <= atL r.heads n /\ a0x o = true /\ a0x b = true := ha
 simp (maxSteps := 8000000) [-kStep_move, -kStepC_move, -Bool.exists_bool, b6f, cAtI, a9P, a7l, a5i, a7M, a9U, a6T, a3T, Con.fn, a0N, tTab, a0J]
 try dsimp only
 try simp only [and_assoc, exists_eq_left, exists_and_left, RepoD.ex1, RepoD.eta]
 obtain ⟨hz, hp⟩ := a3g h1
 have hn := a3C h1
 have hlt := b2i h1 h2
 have ht := a3o h1 ⟨h2, hlt⟩
 have hP := c7I h1 h2 h3 h4 (n := n) (w := w)
 have ta : a0C r (atL r.heads n) = (r.commits[(atL r.heads n).toNat]?.getD default).tree := by unfold a0C; rw [List.getD_eq_getElem?_getD]
 have jt := @a7W o (a0C r (atL r.heads n)) b
 rw [ta] at hP ht jt
 rw [hP]
 generalize a1r o (r.commits[(atL r.heads n).toNat]?.getD default).tree b = J at *
 refine ⟨h2, hlt, a5N h3, a5N ht, a5N h4, fun hj => ?_, fun hj => ⟨hz, [atL r.heads n], rfl, trivial, trivial, rfl, hz.2.2, hz.1, (b0Y jt).1, (b0Y jt).2, trivial, trivial, hz, c2X h1 jt, ?_⟩⟩
 ·rw [if_neg (by simp -implicitDefEqProofs [hj])]; exact ⟨hz, rfl, rfl, rfl, rfl, rfl⟩
 ·rw [if_pos hj]
  exact ⟨fun h => by simp -implicitDefEqProofs [h], fun h => by simp -implicitDefEqProofs [h]⟩
def b6q : Con := .fn 50 (RepoD × Str × Str × Int × Bool) (fun a => [a1g a.1, .str a.2.1, .str a.2.2.1, .int .i64 a.2.2.2.1, .bool a.2.2.2.2]) (fun a => a0E a.1 = true) (fun a => oR (a1w a.2.2.2.2 a.1 a.2.1 a.2.2.1 a.2.2.2.1)) (fun a => oRf (a1w a.2.2.2.2 a.1 a.2.1 a.2.2.1 a.2.2.2.1))
theorem c4P : Has Tryz.prog 78 b6q := by
 refine a0d mixed a0H (HasL.cons a5C (HasL.cons a4y (HasL.cons a8S (HasL.cons a3J (HasL.cons c3j (HasL.cons b4Y (HasL.cons c2G HasL.nil))))))) [0, 1, 2, 3, 4, 5, 10, 11, 12, 13] ((fun a n (_ : Nat) => (fun _ => a0F) a n)) [] Tryz.func78 (by unfold Tryz.f78; rfl) (fun _ => ⟨(), trivial⟩) ?_
 intro a ha
 obtain ⟨r, n, w, c, k⟩ := a
 replace ha : a0E r = true := ha
 simp (maxSteps := 8000000) [-kStep_move, -kStepC_move, -Bool.exists_bool, b6q, cAtI, a4T, a7N, a5i, b6h, a9O, b6f, Con.fn, a0N, tTab, a0J]
 try dsimp only
 try simp only [and_assoc, exists_eq_left, exists_and_left, RepoD.ex1, RepoD.eta]
 obtain ⟨hz, hp⟩ := a3g ha
 have hn := a3C ha
 refine ⟨fun h h' => ⟨h, h', by omega⟩, ?_, fun _ => ⟨fun h => ?_, fun c1 c2 c3 c4 => ?_⟩⟩
 ·rcases Int.lt_or_le (atL r.heads n) 0 with h | h
  ·exact .inl (.inl h)
  ·cases hw : a0Z w with
   | false => exact .inl (.inr rfl)
   | true => exact .inr ⟨h, rfl⟩
 ·rw [pS_1 ha (by rcases h with (h | h) | h | h; exact .inl h; exact .inr (.inl h); exact .inr (.inr (by omega)); exact .inr (.inr (by omega)))]
  exact ⟨hz, rfl, rfl, rfl, rfl, rfl⟩
 ·have hc : c < r.commits.length := by omega
  obtain ⟨f1, f2⟩ := c6v ha c3 hc
  have e1 : a4D r c = a0C r c := by unfold a4D; rw [if_neg (by omega)]
  have e2 := c8Q ha c3 hc
  have g := d1H ha (back := k) c1 c2 ⟨c3, hc⟩
  have t1 := a3o ha ⟨c3, hc⟩
  have t2 := b9X ha ⟨c3, hc⟩
  rw [e1, <- e2, g]
  refine ⟨c3, hc, f1, by omega, by omega, hc, fun hk => ?_, fun hk => ?_⟩
  ·rw [hk]; exact ⟨ha, c1, t1, t2, rfl, rfl, rfl, rfl, rfl⟩
  ·rw [hk]; exact ⟨ha, c1, t2, t1, rfl, rfl, rfl, rfl, rfl⟩
--TAB a0N
def a9Q : Con := .fn 22 (List FileD × FileD) (fun a => [.sl true 2 (a0a a.1), .agg [.str a.2.path, .sl true 1 (a0b a.2.text)]]) (fun a => okSz a.1 /\ a.2.text.length <= 1048576 /\ a.2.path.length <= 1048576) (fun a => .tup [.own 8 2 (a0a (a4O a.1 a.2).1), .bool (a4O a.1 a.2).2]) (fun a => a2s 8 (a4O a.1 a.2).1)
theorem b7U : Has Tryz.prog 72 a9Q := by
 refine a0d mixed a0H (HasL.cons a3M (HasL.cons b9I (HasL.cons b1b HasL.nil))) [0, 1, 3, 4, 5, 6] ((fun a n (_ : Nat) => (fun _ => a0F) a n)) [] Tryz.func72 (by unfold Tryz.f72; rfl) (fun _ => ⟨(), trivial⟩) ?_
 intro a ha
 obtain ⟨t, f⟩ := a
 obtain ⟨h1, h4, h5⟩ : okSz t /\ f.text.length <= 1048576 /\ f.path.length <= 1048576 := ha
 simp (maxSteps := 8000000) -implicitDefEqProofs [-kStep_move, -kStepC_move, -Bool.exists_bool, a9Q, a4r, cPut, a8u, Con.fn, a0N, tTab]
 try dsimp only
 obtain ⟨k1, k2, k3⟩ := h1
 refine ⟨k3, fun h => ?_, fun h => ⟨t, f, ⟨rfl, rfl, rfl⟩, ⟨⟨k1, k2⟩, h4⟩, t, (putI t f).1, ⟨rfl, rfl⟩, rfl, ⟨⟨k1, k2⟩, fun g hg => ?_⟩, ?_⟩⟩
 ·unfold a4O; rw [if_neg (by simp -implicitDefEqProofs [h])]; exact ⟨⟨rfl, rfl⟩, rfl⟩
 ·rcases b7D t f g hg with q | rfl
  ·exact k3 g q
  ·omega
 ·unfold a4O; rw [if_pos h]
  by_cases q : a0x (putI t f).1 = true
  ·rw [if_pos q, if_pos q]; exact ⟨⟨rfl, q.symm⟩, rfl⟩
  ·rw [if_neg q, if_neg q]; exact ⟨⟨rfl, by simpa using q⟩, rfl⟩
def a8G : Con := .fn 34 (List FileD × Str) (fun a => [.sl true 2 (a0a a.1), .str a.2]) (fun a => okSz a.1 /\ a.2.length <= 536870912) (fun a => .tup [.own 8 2 (a0a (a3p a.1 a.2).1), .bool (a3p a.1 a.2).2]) (fun a => a2s 8 (a3p a.1 a.2).1)
theorem b5v : Has Tryz.prog 74 a8G := by
 refine a0d mixed a0H (HasL.cons a3M (HasL.cons a2C (HasL.cons b6Q HasL.nil))) [0, 1, 4, 5, 6, 8, 13, 14, 15] ((fun a n (_ : Nat) => (fun a _ => ⟨Nat, fun i => ⟨[(0, true, .sl true 2 (a0a a.1)), (1, true, .str a.2), (4, true, .nil), (5, true, .bool false), (6, true, .own 9 2 (a0a (filB (a1A a.2) (a.1.take i)))), (13, true, .own 10 2 (a3G (a1A a.2) a.1 i)), (14, true, .int .i64 a.1.length), (15, true, .int .i64 i)], [(9, .own 99 2 true (a0a (filB (a1A a.2) (a.1.take i)))), (10, .own 99 2 true (a3G (a1A a.2) a.1 i))]⟩, fun i => i <= a.1.length /\ a0x a.1 = true, fun i => a.1.length - i⟩) a n)) [25] Tryz.func74 (by unfold Tryz.f74; rfl) (fun _ => ⟨(), trivial⟩) ?_
 intro a ha
 obtain ⟨t, q⟩ := a
 obtain ⟨h1, h2⟩ : okSz t /\ q.length <= 536870912 := ha
 simp -implicitDefEqProofs [a8G, a4r, a2U, b5D, Con.fn, a0N, tTab]
 try dsimp only
 obtain ⟨k1, k2, k3⟩ := h1
 generalize hp : a1A q = p
 have hpv : ∀ f : FileD, atB f.path q = !p f := fun f => by rw [<- hp]; simp -implicitDefEqProofs [a1A]
 have hI : a0x t = true -> a3p t q = (filB p t, decide ((filB p t).length < t.length)) := fun h => by unfold a3p; rw [if_pos h, hp]
 have hF : a0x t = false -> a3p t q = ([], false) := fun h => by unfold a3p; rw [if_neg (by simp -implicitDefEqProofs [h])]
 refine ⟨k3, fun h => by rw [hF h]; exact ⟨⟨rfl, rfl⟩, rfl⟩, fun hT => ⟨⟨k1, k2⟩, fun _ => ⟨⟨0, by simp -implicitDefEqProofs [c0K, b9s, hT]⟩, fun i hi _ => ⟨fun hlt => ?_, fun hge _ _ => ?_⟩⟩⟩⟩
 ·have g1 := c3p (p := p) hlt
  have g2 := c3r p t i
  have g3 := c3h p t i
  have g5 : (a3G p t i)[i]'(by rw [g2]; exact hlt) = a0k t[i] := by
   have := g1
   rw [List.getElem?_eq_getElem (by rw [g2]; exact hlt)] at this
   exact Option.some.inj this
  simp -implicitDefEqProofs [g1, g5, g2, a0k, D.asStr, D.asRows, hlt, and_assoc]
  refine ⟨h2, fun hh => ⟨by omega, by omega, by omega, by omega, fun _ _ => ?_⟩, fun hh => ⟨by omega, by omega, fun _ _ => ?_⟩⟩
  ·have hh : p t[i] = true := by have := hpv t[i]; rw [hh] at this; simpa using this.symm
   have e1 := b3T (p := p) hlt hh
   have e2 := c3q (p := p) hlt hh
   have e3 : a0a (filB p (t.take (i + 1))) = a0a (filB p (t.take i)) ++ [[D.str t[i].path, D.sl 9 1 (a0b t[i].text)]] := by rw [e1, a0h]; rfl
   exact ⟨i + 1, e3, e2.symm, by omega, e3.symm, e2, by omega, hT, by omega⟩
  ·have hh : p t[i] = false := by have := hpv t[i]; rw [hh] at this; simpa using this.symm
   have e1 := b1I (p := p) hlt hh
   have e2 := c0J (p := p) hlt hh
   exact ⟨i + 1, e1, e2, by omega, e1.symm, e2.symm, by omega, hT, by omega⟩
 ·rw [hI hT, List.take_of_length_le hge]; exact ⟨⟨rfl, rfl⟩, rfl⟩
def anyA (p : Str) (t : List FileD) (i : Nat) : Bool := (t.take i).any fun f => atB f.path p
theorem c2F (p : Str) (t : List FileD) : anyA p t 0 = false := rfl
theorem c2E {p : Str} {t : List FileD} {i : Nat} (h : i < t.length) : anyA p t (i + 1) = (anyA p t i || atB t[i].path p) := by unfold anyA; rw [a0p h, List.any_append]; simp
theorem c9X {o : List FileD} {f : FileD} (h : Srt (o ++ [f])) : (putI o f).1 = o ++ [f] := by
 have := c6C (o := o) (l := [f]) h
 simpa [inP] using this
theorem d0I {p q : Str} (h : atB p q = true) : q.length <= p.length := by
 unfold atB at h
 simp only [Bool.or_eq_true, decide_eq_true_eq] at h
 rcases h with rfl | h
 ·exact Nat.le_refl _
 ·unfold a5v at h
  simp only [Bool.and_eq_true, decide_eq_true_eq, List.length_append] at h
  omega
def mvA (a : List FileD × Str × Str) : Inv := ⟨Nat, fun i => ⟨[(0, true, .sl true 2 (a0a a.1)), (1, true, .str a.2.1), (2, true, .str a.2.2), (6, true, .nil), (7, true, .bool false), (8, true, .own 9 2 (a0a (filB (a1A a.2.1) (a.1.take i)))), (9, true, .bool false), (19, true, .sl true 2 (a0a a.1)), (20, true, .int .i64 a.1.length), (21, true, .int .i64 i)], [(9, .own 99 2 true (a0a (filB (a1A a.2.1) (a.1.take i))))]⟩, fun i => i <= a.1.length /\ a0x a.1 = true, fun i => a.1.length - i⟩
def mvB (a : List FileD × Str × Str) : Inv := ⟨Nat × List FileD, fun x => ⟨[(0, true, .sl true 2 (a0a a.1)), (1, true, .str a.2.1), (2, true, .str a.2.2), (6, true, .nil), (7, true, .bool false), (8, true, .own 9 2 (a0a x.2)), (9, true, .bool (anyA a.2.1 a.1 x.1)), (36, true, .sl true 2 (a0a a.1)), (37, true, .int .i64 a.1.length), (38, true, .int .i64 x.1)], [(9, .own 99 2 true (a0a x.2))]⟩,
 fun x => x.1 <= a.1.length /\ a0x a.1 = true /\ mvI a.2.1 a.2.2 (a.1.drop x.1) x.2 = mvI a.2.1 a.2.2 a.1 (filB (a1A a.2.1) a.1) /\ x.2.length <= 8 + x.1 /\ ∀ f ∈ x.2, f.text.length <= 1048576 /\ f.path.length <= 4194304, fun x => a.1.length - x.1⟩
def c1K (a : List FileD × Str × Str) (n _g : Nat) : Inv := if n = 5 then mvA a else mvB a
theorem c9L (a : List FileD × Str × Str) (g : Nat) : c1K a 5 g = mvA a := rfl
theorem c7j (a : List FileD × Str × Str) (g : Nat) : c1K a 11 g = mvB a := rfl
def a8I : Con := .fn 81 (List FileD × Str × Str) (fun a => [.sl true 2 (a0a a.1), .str a.2.1, .str a.2.2]) (fun a => okSz a.1 /\ a.2.1.length <= 1048576 /\ a.2.2.length <= 1048576) (fun a => .tup [.own 8 2 (a0a (a2G a.1 a.2.1 a.2.2).1), .bool (a2G a.1 a.2.1 a.2.2).2]) (fun a => a2s 8 (a2G a.1 a.2.1 a.2.2).1)
theorem b5x : Has Tryz.prog 75 a8I := by
 refine a0d mixed a0H (HasL.cons a3M (HasL.cons a2C (HasL.cons b6Q (HasL.cons b9I (HasL.cons b1b (HasL.cons a6y HasL.nil)))))) [0, 1, 2, 6, 7, 8, 9, 11, 13, 14, 15, 19, 20, 21, 36, 37, 38] (fun a => c1K a) [] Tryz.func75 (by unfold Tryz.f75; rfl) (fun _ => ⟨(), trivial⟩) ?_
 intro a ha
 obtain ⟨t, q, to⟩ := a
 obtain ⟨h1, h2, h3⟩ : okSz t /\ q.length <= 1048576 /\ to.length <= 1048576 := ha
 simp (maxSteps := 8000000) -implicitDefEqProofs [-kStep_move, -kStepC_move, -Bool.exists_bool, a8I, a4r, a2U, b5D, cPut, a8u, a6F, Con.fn, a0N, tTab, c9L, c7j, mvA, mvB]
 try dsimp only
 obtain ⟨k1, k2, k3⟩ := h1
 have hF : a0x t = false -> a2G t q to = ([], false) := fun h => by unfold a2G; rw [if_neg (by simp -implicitDefEqProofs [h])]
 refine ⟨k3, fun h => by rw [hF h]; exact ⟨⟨rfl, rfl⟩, rfl⟩, fun hT _ => ⟨⟨0, by simp -implicitDefEqProofs [b9s, hT]⟩, fun i hi _ => ⟨fun hlt => ⟨hlt, fun _ => ?_⟩, fun hge _ => ?_⟩⟩⟩
 ·have e1 : Option.map a0k t[i]? = some (a0k t[i]) := by simp -implicitDefEqProofs [hlt]
  have hs := b2b hT
  have hst : a1A q t[i] = true -> (putI (filB (a1A q) (t.take i)) t[i]).1 = filB (a1A q) (t.take (i + 1)) := fun hd => by
   have e := b3T (p := a1A q) hlt hd
   rw [e]; exact c9X (by rw [<- e]; exact (hs.sublist (List.take_sublist _ _)).filter _)
  have hms := b1I (p := a1A q) hlt
  have hd : a1A q t[i] = !atB t[i].path q := rfl
  have m1 : (filB (a1A q) (t.take i)).length <= 1048576 := by have := c3h (a1A q) t i; omega
  have m2 : ∀ f ∈ filB (a1A q) (t.take i), f.text.length <= 1048576 := fun f hf => k2 f (List.mem_of_mem_take (List.mem_filter.1 hf).1)
  have m3 := k2 t[i] (List.getElem_mem hlt)
  rw [e1]
  generalize t[i] = f at *
  simp -implicitDefEqProofs [a0k, D.asStr, D.asRows]
  refine ⟨f, q, ⟨⟨rfl, rfl⟩, rfl⟩, by omega, fun hh => ⟨_, f, ⟨rfl, rfl, rfl⟩, ⟨⟨m1, m2⟩, m3⟩, ⟨by omega, by omega⟩, fun _ _ => ⟨i + 1, ⟨⟨?_, by omega⟩, ?_⟩, ⟨by omega, hT⟩, by omega⟩⟩, fun hh => ⟨⟨by omega, by omega⟩, fun _ _ => ⟨i + 1, ⟨⟨?_, by omega⟩, ?_⟩, ⟨by omega, hT⟩, by omega⟩⟩⟩
  ·exact (hst (by rw [hd, hh]; rfl)).symm
  ·exact hst (by rw [hd, hh]; rfl)
  ·exact hms (by rw [hd, hh]; rfl)
  ·exact (hms (by rw [hd, hh]; rfl)).symm
 ·have hlen := (a9m t hT).1
  refine ⟨⟨0, filB (a1A q) t, ⟨⟨by rw [List.take_of_length_le hge], c2F q t, rfl⟩, by rw [List.take_of_length_le hge]⟩, Nat.zero_le _, hT, rfl, ?_, ?_⟩, fun j o hj _ hm hol hob => ⟨fun hlt => ⟨hlt, fun _ => ?_⟩, fun hge2 => ?_⟩⟩
  ·have := List.length_filter_le (a1A q) t; unfold filB; omega
  ·intro f hf
   have hf := (List.mem_filter.1 hf).1
   have := k3 f hf
   exact ⟨k2 f hf, by have := (a4b hT f hf).1.2; omega⟩
  ·have e1 : Option.map a0k t[j]? = some (a0k t[j]) := by simp -implicitDefEqProofs [hlt]
   have hst := c7i (p := q) (to := to) (o := o) hlt
   rw [hm] at hst
   have ha := c2E (p := q) hlt
   have m3 := k2 t[j] (List.getElem_mem hlt)
   have m4 := (a4b hT t[j] (List.getElem_mem hlt)).1.2
   rw [e1]
   generalize t[j] = f at *
   simp -implicitDefEqProofs [a0k, D.asStr, D.asRows]
   have hd : f.path.length - q.length = (f.path.drop q.length).length := by simp
   refine ⟨f, q, ⟨⟨rfl, rfl⟩, rfl⟩, by omega, fun hh => ⟨⟨by omega, by omega⟩, fun _ _ => ⟨j + 1, o, ⟨⟨rfl, by rw [ha, hh]; simp, by omega⟩, rfl⟩, ⟨by omega, hT, by rw [hst, if_neg (by simp -implicitDefEqProofs [hh])], by omega, hob⟩, by omega⟩⟩, fun hh => ?_⟩
   have hle := d0I hh
   rw [if_pos hh] at hst
   have hM : maxLen = 9223372036854775807 := rfl
   refine ⟨hle, fun _ => ⟨by omega, fun _ => ⟨o, ⟨to ++ f.path.drop q.length, f.text⟩, ⟨rfl, by rw [hd, List.take_length], rfl⟩, ⟨⟨by omega, fun g hg => (hob g hg).1⟩, m3⟩, fun hp => ⟨⟨k1, k2⟩, ?_⟩, fun hp => ⟨⟨by omega, by omega⟩, fun _ _ => ⟨j + 1, _, ⟨⟨rfl, by rw [ha, hh]; simp, by omega⟩, rfl⟩, ⟨by omega, hT, ?_, ?_, fun g hg => ?_⟩, by omega⟩⟩⟩⟩⟩
   ·rw [if_neg (by simp -implicitDefEqProofs [hp])] at hst
    have : a2G t q to = (t, false) := by unfold a2G; rw [if_pos hT, hst]
    rw [this]; exact ⟨⟨rfl, rfl⟩, rfl⟩
   ·rw [if_pos hp] at hst; exact hst.symm
   ·have := c7J o ⟨to ++ f.path.drop q.length, f.text⟩; omega
   ·rcases b7D _ _ g hg with hg | rfl
    ·exact hob g hg
    ·refine ⟨m3, ?_⟩
     show (to ++ f.path.drop q.length).length <= 4194304
     simp; omega
  ·have hx := c9K (p := q) (to := to) (o := o) hge2
   rw [hm] at hx
   have hall : anyA q t j = t.any fun f => atB f.path q := by unfold anyA; rw [List.take_of_length_le hge2]
   have hT2 : a2G t q to = if (t.any fun f => atB f.path q) = false \/ a3b to = false then (t, false) else if a0x o then (o, true) else (t, false) := by unfold a2G; rw [if_pos hT, hx]
   rw [<- hall] at hT2
   refine ⟨fun h => ⟨h, by omega⟩, fun h => ?_, fun h h' => ⟨t, o, ⟨rfl, rfl⟩, rfl, ⟨⟨k1, k2⟩, fun f hf => by have := (hob f hf).2; omega⟩, ?_⟩⟩
   ·rw [hT2, if_pos h]; exact ⟨⟨k1, k2⟩, ⟨rfl, rfl⟩, rfl⟩
   ·rw [hT2, if_neg (by simp -implicitDefEqProofs [h, h'])]
    by_cases g : a0x o = true
    ·rw [if_pos g, if_pos g]; exact ⟨⟨rfl, g.symm⟩, rfl⟩
    ·rw [if_neg g, if_neg g]; exact ⟨⟨rfl, by simpa using g⟩, rfl⟩
end Vx
end Go.Proofs.YtonkagjdfpacmaaGreatDoor
/-
  DERIVED: THE SHELF's CONTRACTS AT THIS DUMP, IN PLAIN WORDS (tools/lay-plain.mjs out of 'YtonkagjdfpacmaaGreatDoorShelf.lean', which tools/lay-shelf.mjs wrote): THE SAME DECLARATIONS UNDER THE SAME NAMES: 'import', 'namespace', 'open', 'def', 'theorem' AND NOTHING ELSE: no command of the shelf's: FOR A HAND-IN. Each laying: the table of numbers ('.._ren') and one theorem, a field a fact of the dump's own or the kernel's comparison; each contract: ONE APPLICATION.
-/
namespace Go.Proofs
open Go.Shelf
def Tryz.laysJoin_ren : Go.Shelf.Ren := ⟨fun | 156 => 103 | 165 => 154 | 166 => 155 | 169 => 156 | 240 => 181 | 241 => 182 | 276 => 206 | 277 => 207 | n => n, fun | 31 => 36 | 9 => 9 | 3 => 3 | 4 => 4 | 0 => 0 | 20 => 20 | 72 => 153 | 76 => 126 | 70 => 151 | 37 => 48 | 75 => 125 | 127 => 174 | 164 => 197 | 5 => 5 | 80 => 155 | n => n, fun | n => n⟩
theorem Tryz.laysJoin : Go.Proofs.Lays.n156 Tryz.prog Tryz.laysJoin_ren := {
  mixed := by kernel_rfl
  f156 := Tryz.func103.trans (congrArg some (by kernel_rfl))
  f165 := Tryz.func154.trans (congrArg some (by kernel_rfl))
  f166 := Tryz.func155.trans (congrArg some (by kernel_rfl))
  f169 := Tryz.func156.trans (congrArg some (by kernel_rfl))
  f240 := Tryz.func181.trans (congrArg some (by kernel_rfl))
  f241 := Tryz.func182.trans (congrArg some (by kernel_rfl))
  f276 := Tryz.func206.trans (congrArg some (by kernel_rfl))
  f277 := Tryz.func207.trans (congrArg some (by kernel_rfl))
  t0 := Tryz.underlying0
  a0 := Tryz.isAgg0
  z0 := Tryz.sizeOf0
  v0 := Tryz.zeroValue0
  t3 := Tryz.underlying3
  a3 := Tryz.isAgg3
  z3 := Tryz.sizeOf3
  v3 := Tryz.zeroValue3
  t4 := Tryz.underlying4
  a4 := Tryz.isAgg4
  z4 := Tryz.sizeOf4
  v4 := Tryz.zeroValue4
  t9 := Tryz.underlying9
  a9 := Tryz.isAgg9
  z9 := Tryz.sizeOf9
  v9 := Tryz.zeroValue9
  t20 := Tryz.underlying20
  a20 := Tryz.isAgg20
  z20 := Tryz.sizeOf20
  v20 := Tryz.zeroValue20
  t31 := Tryz.underlying36
  a31 := Tryz.isAgg36
  z31 := Tryz.sizeOf36
  v31 := Tryz.zeroValue36
  t37 := Tryz.underlying48
  a37 := Tryz.isAgg48
  z37 := Tryz.sizeOf48
  v37 := Tryz.zeroValue48
  t70 := Tryz.underlying151
  a70 := Tryz.isAgg151
  z70 := Tryz.sizeOf151
  v70 := Tryz.zeroValue151
  t72 := Tryz.underlying153
  a72 := Tryz.isAgg153
  z72 := Tryz.sizeOf153
  v72 := Tryz.zeroValue153
  t75 := Tryz.underlying125
  a75 := Tryz.isAgg125
  z75 := Tryz.sizeOf125
  v75 := Tryz.zeroValue125
  t76 := Tryz.underlying126
  a76 := Tryz.isAgg126
  z76 := Tryz.sizeOf126
  v76 := Tryz.zeroValue126
  t127 := Tryz.underlying174
  a127 := Tryz.isAgg174
  z127 := Tryz.sizeOf174
  v127 := Tryz.zeroValue174
  t164 := Tryz.underlying197
  a164 := Tryz.isAgg197
  z164 := Tryz.sizeOf197
  v164 := Tryz.zeroValue197 }
theorem Tryz.laysJoinX : Builder.Extra Tryz.prog Tryz.laysJoin_ren := {
  sizeBuilder := by kernel_rfl
  liesBuilder := by kernel_rfl
  t5 := Tryz.underlying5
  a5 := Tryz.isAgg5
  z5 := Tryz.sizeOf5
  v5 := Tryz.zeroValue5
  infoByte := by kernel_rfl
  cellsByte := by kernel_rfl
  sizeByte := by kernel_rfl
  neB5 := by decide }
end Go.Proofs
namespace Go.Proofs.YtonkagjdfpacmaaGreatDoor
set_option maxHeartbeats 4000000
namespace Vx
open Go.RowKit Go.Shelf
set_option maxRecDepth 8000
theorem b0n {q : Bool} {w : World} : ∀ {l : List Str} {vs f}, RdL q w (a0b l).flatten vs f -> vs = l.map (fun s => Value.string ⟨s.toArray⟩)
 | [], vs, f, h => by cases h; rfl
 | s :: l, vs, f, h => by
  cases h with
  | str h1 h2 => rw [b0n (l := l) h2]; rfl
def c2T : Con := .fn 75 (List Str) (fun l => [.sl true 1 (a0b l), .str []]) (fun l => l.length <= 1048576 /\ l.flatten.length <= 1073741824) (fun l => .str l.flatten) (fun _ => [])
theorem b4F (l : List Str) : Lib.join l [] = l.flatten := by
 unfold Lib.join
 induction l with
 | nil => rfl
 | cons x l ih =>
  cases l with
  | nil => simp [List.intercalate]
  | cons y l => simp [List.intercalate] at ih ⊢; exact ih
set_option maxHeartbeats 1000000 in
theorem c0Z {w : World} {l : List Str} {v0 : Value} {e : Nat} {fp : List (Nat × Nat)} (h5 : RdL false w [D.sl e 1 (a0b l)] [v0] fp) (hp : l.length <= 1048576 /\ l.flatten.length <= 1073741824) :
  Calls Tryz.prog 103 #[v0, .string ⟨#[]⟩] w fun e w' => e = .returned (.string ⟨l.flatten.toArray⟩) /\ Below w.heap.size w w' := by
 rcases h5.open1 with ⟨h1, _, oa, cap, rfl, _⟩ | ⟨b, off, cap, cs, ty, fr, cvs, f1, rfl, g2, g3, g4, _, g6, g8, g9, _⟩
 ·have hl : l = [] := by simpa using h1
  subst hl
  refine (Any.strings_Join_none Tryz.laysJoin Tryz.laysJoinX oa cap ⟨#[]⟩ w).mono ?_
  rintro e w' ⟨rfl, rfl⟩
  exact ⟨rfl, Below.refl _ _⟩
 ·have hv := b0n g9
  rw [eStrs_length] at g2 g3 ⊢
  have hm : (l.map fun s : Str => (⟨s.toArray⟩ : ByteArray)).map (·.data.toList) = l := by simp [List.map_map, Function.comp_def]
  have hl : (l.map fun s : Str => (⟨s.toArray⟩ : ByteArray)).length = l.length := List.length_map _
  have hj := Any.strings_Join Tryz.laysJoin Tryz.laysJoinX b off cap (l.map fun s : Str => (⟨s.toArray⟩ : ByteArray)) ⟨#[]⟩ w (fun j x hx => by
   have hx2 := g8 j (.string x) (by rw [hv]; simp at hx ⊢; obtain ⟨s, q1, rfl⟩ := hx; exact ⟨s, q1, rfl⟩)
   simp only [World.cell?, g6]
   simpa using hx2) (Array.getElem?_eq_some_iff.1 g6).1 (by rw [hl]; omega) (by rw [hl]; omega) (by rw [hm]; exact Nat.le_trans (Nat.le_of_eq (congrArg List.length (b4F l))) (by omega))
  rw [hm] at hj
  rw [hl] at hj
  have e1 : Lib.join l [] = l.flatten := b4F l
  refine hj.mono ?_
  rintro e w' ⟨rfl, hw⟩
  exact ⟨by rw [<- e1], hw⟩
theorem c3K : Has Tryz.prog 103 c2T := by
 refine ⟨fun args w => Go.MuLone.run_callFunc_enter Tryz.func103 (by kernel_rfl) rfl args w, fun _ => ⟨(), trivial⟩, fun _ _ => rfl, ?_, trivial, .inl rfl⟩
 intro (l : List Str) (hp : l.length <= 1048576 /\ l.flatten.length <= 1073741824) c hky vs β fp hcn hpins hl1 hl2 S
 have hr := a4Z hl1 S
 obtain ⟨v0, vs1, rfl, r0, hr⟩ := hr.uncons
 obtain ⟨v1, vs2, rfl, r1, hr⟩ := hr.uncons
 cases hr
 cases r1 with | str h1 h2 => ?_
 cases h2
 cases r0 with | sl h3 h4 => ?_
 cases h4
 obtain ⟨e, fp0, h5, h6⟩ := h3
 refine (c0Z h5 hp).mono ?_
 rintro e w' ⟨rfl, hb⟩
 have hpp : c.pins = [] := hpins
 refine ⟨(), trivial, _, rfl, β, fp, ⟨Array.replicate c.n undef, []⟩, ⟨?_, ?_, ?_, ?_, ?_, S.fg, fun b hb' => ⟨(S.old b hb').1, (hb.block b (S.old b hb').1)⟩, hb.os, hb.tape, hb.output, hb.size, rfl, by simp, ?_⟩, ?_⟩
 ·intro t g av ht; cases ht
 ·intro h blk hm; cases hm
 ·intro h blk hm; cases hm
 ·intro h h' blk blk' hm; cases hm
 ·intro h blk hm; cases hm
 ·rw [hpp]; intro p hp; cases hp
 ·exact .str (by show l.flatten.length <= maxLen; have : maxLen = 9223372036854775807 := rfl; have := hp.2; omega) .lnil
theorem c3E (s : Str) (c : UInt8) : (idxB s c < 0) = (∀ b ∈ s, ¬ b = c) := by
 induction s with
 | nil => simp [idxB]
 | cons b l ih =>
  unfold idxB
  by_cases hb : b = c
  ·simp [hb]
  ·rw [if_neg hb]
   by_cases h : idxB l c < 0
   ·rw [if_pos h]; rw [ih] at h; simp [hb]; exact h
   ·rw [if_neg h]; rw [ih] at h
    have : ¬ (idxB l c + 1 < 0) := by rw [<- ih] at h; omega
    simp only [this, false_iff, eq_iff_iff]
    intro q; exact h fun x hx => q x (by simp [hx])
def a8v : Con := .fn 9 (Str × UInt8) (fun a => [.str a.1, .str [a.2]]) (fun _ => True) (fun a => .bool (decide (0 <= idxB a.1 a.2))) (fun _ => [])
theorem b5c : Has Tryz.prog 102 a8v := by
 refine a0d mixed a0f (HasL.cons a7h HasL.nil) [0, 1, 4] ((fun a n (_ : Nat) => (fun _ => a0F) a n)) [] Tryz.func102 (by unfold Tryz.f102; rfl) (fun _ => ⟨(), trivial⟩) ?_
 intro a _
 obtain ⟨s, b⟩ := a
 simp -implicitDefEqProofs [a8v, a6h, Con.fn, tTab]
 exact ⟨s, b, ⟨rfl, rfl⟩, Iff.rfl⟩
theorem c6a (t : List Str) : (idxB t.flatten 124 < 0) = (t.all barB = true) := by
 rw [c3E]
 simp only [List.mem_flatten, forall_exists_index, and_imp, List.all_eq_true, barB, decide_eq_true_eq, ne_eq, eq_iff_iff]
 exact ⟨fun h s hs b hb => h b s hs hb, fun h b s hs hb => h s hs b hb⟩
end Vx
end Go.Proofs.YtonkagjdfpacmaaGreatDoor
namespace Go.Proofs.YtonkagjdfpacmaaGreatDoor
set_option maxHeartbeats 4000000
namespace Vx
open Go.RowKit
set_option maxRecDepth 8000
--TAB a0N
def opSz (o : OpD) : Prop := o.path.length <= 1048576 /\ o.to_.length <= 1048576 /\ o.text.length <= 1048576
def b1w : Con := .fn 29 (RepoD × OpD × (List FileD × Bool)) (fun a => [a1g a.1, vOp a.2.1, .sl true 2 (a0a a.2.2.1), .bool a.2.2.2]) (fun a => rpSz a.1 /\ a.2.2.1.length <= 1048576 /\ ∀ f ∈ a.2.2.1, f.text.length <= 1048576) (fun a => .tup [.agg [.sl false 3 (a0e (a1O a.1 a.2.1 a.2.2).1.commits), .sl false 2 (a0c (a1O a.1 a.2.1 a.2.2).1.heads)], .int .i64 (a1O a.1 a.2.1 a.2.2).2]) (fun _ => [])
theorem b8F : Has Tryz.prog 86 b1w := by
 refine a0d mixed a0H (HasL.cons b4o HasL.nil) [0, 1, 2, 3, 4, 5, 8, 9, 10, 11] ((fun a n (_ : Nat) => (fun _ => a0F) a n)) [] Tryz.func86 (by unfold Tryz.f86; rfl) (fun _ => ⟨(), trivial⟩) ?_
 intro a ha
 obtain ⟨r, o, t, k⟩ := a
 obtain ⟨h1, h2, h3⟩ : rpSz r /\ t.length <= 1048576 /\ ∀ f ∈ t, f.text.length <= 1048576 := ha
 simp (maxSteps := 8000000) -implicitDefEqProofs [-kStep_move, -Bool.exists_bool, b1w, a7F, Con.fn, a0N, tTab, a0J, bOp]
 try dsimp only
 simp -implicitDefEqProofs only [and_assoc, exists_eq_left, exists_and_left, RepoD.ex1, RepoD.eta, OpD.ex1, OpD.eta]
 refine ⟨fun h => ?_, fun h => ⟨h1, h2, h3, fun h' => ?_, fun h' => ?_⟩⟩
 ·unfold a1O; rw [if_neg (by simp -implicitDefEqProofs [h])]; exact ⟨rfl, rfl, rfl⟩
 ·unfold a1O; rw [if_pos h, if_neg (by simp -implicitDefEqProofs [h'])]; exact ⟨rfl, rfl, rfl⟩
 ·unfold a1O; rw [if_pos h, if_pos h']; exact ⟨rfl, rfl, rfl⟩
theorem a9u {t : List FileD} (h : a0S t = true) (f : FileD) : a0S (a2Z t f).1 = true := by
 unfold a2Z
 rw [if_pos h]
 split
 ·assumption
 ·exact h
theorem a8j {t : List FileD} (h : a0S t = true) (p to : Str) : a0S (a1y t p to).1 = true := by
 unfold a1y
 rw [if_pos h]
 split
 ·exact h
 ·split
  ·exact h
  ·rename_i q
   cases q2 : a0S (mvFs p to (filB (a1j p) t) t) with
   | true => rfl
   | false => exact absurd (.inl q2) q
theorem a7i {t : List FileD} (h : a0S t = true) (p : Str) : szT (a2c t p).1 := by
 unfold a2c filB
 rw [if_pos h]
 obtain ⟨h1, h2⟩ := a2m h
 exact ⟨Nat.le_trans (List.length_filter_le _ _) h1, fun f hf => h2 f (List.mem_filter.1 hf).1⟩
theorem a9n {t : List FileD} (h : a0S t = true) : ∀ f ∈ t, f.path.length <= 20 := fun f hf => (a4b (by rw [a2k]; exact h) f hf).1.2
theorem a4L {t : List FileD} (h : szT t) : t.length <= 1048576 /\ ∀ f ∈ t, f.text.length <= 1048576 := ⟨by have := h.1; omega, fun f hf => by have := h.2 f hf; omega⟩
theorem b1k {r : RepoD} (h : a0v r = true) (n : Str) : a0S (a2h r n) = true := by
 unfold a2h
 split
 ·exact a2F h _
 ·rfl
def b6j : Con := .fn 134 (RepoD × OpD) (fun a => [a1g a.1, vOp a.2]) (fun a => a0v a.1 = true /\ opSz a.2) (fun a => .tup [.agg [.sl false 3 (a0e (do19 a.1 a.2).1.commits), .sl false 2 (a0c (do19 a.1 a.2).1.heads)], .int .i64 (do19 a.1 a.2).2]) (fun _ => [])
theorem c4a : Has Tryz.prog 35 b6j := by
 refine a0d mixed a0H (HasL.cons a4i (HasL.cons b7V (HasL.cons b5w (HasL.cons b5y (HasL.cons b8F (HasL.cons b4m (HasL.cons b5z (HasL.cons c1Q (HasL.cons b7y HasL.nil))))))))) [0, 1, 2, 3, 4, 5, 6, 7, 8, 9, 10, 11, 12, 13, 14, 15, 30] ((fun a n (_ : Nat) => (fun _ => a0F) a n)) [] Tryz.func35 (by unfold Tryz.f35; rfl) (fun _ => ⟨(), trivial⟩) ?_
 intro a ha
 obtain ⟨r, o⟩ := a
 obtain ⟨h1, h2, h3, h4⟩ : a0v r = true /\ opSz o := ha
 simp (maxSteps := 8000000) -implicitDefEqProofs [-kStep_move, -Bool.exists_bool, b6j, a5Q, a9R, a8H, a8J, b1w, a7E, a8K, b3P, a9L, Con.fn, a0N, tTab, a0J, bOp]
 try dsimp only
 simp -implicitDefEqProofs only [and_assoc, exists_eq_left, exists_and_left, RepoD.ex1, RepoD.eta, OpD.ex1, OpD.eta]
 have hsz := b1W h1
 have hat := a9B (n := o.branch) ((a0V r).1 h1).2.1
 have hT := b1k h1 o.branch
 have e1 : o.kind = 1 -> do19 r o = a1O r o (a2Z (a2h r o.branch) ⟨o.path, o.text⟩) := fun h => by unfold do19; rw [if_pos h]
 have e2 : o.kind = 2 -> do19 r o = a1O r o (a2c (a2h r o.branch) o.path) := fun h => by unfold do19; rw [if_neg (by omega), if_pos h]
 have e3 : o.kind = 3 -> do19 r o = a1O r o (a1y (a2h r o.branch) o.path o.to_) := fun h => by unfold do19; rw [if_neg (by omega), if_neg (by omega), if_pos h]
 have e4 : o.kind = 4 -> (a0R r o.to_ (atL r.heads o.branch)).2 = true -> do19 r o = ((a0R r o.to_ (atL r.heads o.branch)).1, 0) := fun h h' => by unfold do19; rw [if_neg (by omega), if_neg (by omega), if_neg (by omega), if_pos h, if_pos h']
 have e4' : o.kind = 4 -> (a0R r o.to_ (atL r.heads o.branch)).2 = false -> do19 r o = (r, 1) := fun h h' => by unfold do19; rw [if_neg (by omega), if_neg (by omega), if_neg (by omega), if_pos h, if_neg (by simp -implicitDefEqProofs [h'])]
 have e5 : o.kind = 5 -> do19 r o = a1t r o.branch o.who (atL r.heads o.to_) := fun h => by unfold do19; rw [if_neg (by omega), if_neg (by omega), if_neg (by omega), if_neg (by omega), if_pos h]
 have e6 : o.kind = 6 -> do19 r o = a1w false r o.branch o.who o.at_ := fun h => by unfold do19; rw [if_neg (by omega), if_neg (by omega), if_neg (by omega), if_neg (by omega), if_neg (by omega), if_pos h]
 have e7 : ¬ o.kind = 1 -> ¬ o.kind = 2 -> ¬ o.kind = 3 -> ¬ o.kind = 4 -> ¬ o.kind = 5 -> ¬ o.kind = 6 -> do19 r o = a1w true r o.branch o.who o.at_ := fun k1 k2 k3 k4 k5 k6 => by unfold do19; rw [if_neg k1, if_neg k2, if_neg k3, if_neg k4, if_neg k5, if_neg k6]
 have s1 := a4L (a2m (a9u hT ⟨o.path, o.text⟩))
 have s2 := a4L (a7i hT o.path)
 have s3 := a4L (a2m (a8j hT o.path o.to_))
 have s0 := a2m hT
 have sp := a9n hT
 have sp : ∀ f ∈ a2h r o.branch, f.path.length <= 1048576 := fun f hf => by have := sp f hf; omega
 have sl : (a2h r o.branch).length <= 1048575 := by have := s0.1; omega
 have st := (a4L s0).2
 refine ⟨fun hp => ⟨hp, by omega, fun _ _ => ?_⟩, fun hn => ?_⟩
 ·have ca := cget (r := r) hp (by omega)
  have eT : a0C r (atL r.heads o.branch) = a2h r o.branch := by unfold a2h; rw [if_pos hp]
  rw [ca, eT]
  simp -implicitDefEqProofs [D.asRows]
  exact ⟨fun h => ⟨sl, st, h4, hsz, s1.1, s1.2, by rw [e1 h]; exact ⟨rfl, rfl, rfl⟩⟩, fun k1 => ⟨fun h => ⟨(a4L s0).1, st, hsz, s2.1, s2.2, by rw [e2 h]; exact ⟨rfl, rfl, rfl⟩⟩, fun k2 => ⟨fun h => ⟨(a4L s0).1, st, h3, sp, hsz, s3.1, s3.2, by rw [e3 h]; exact ⟨rfl, rfl, rfl⟩⟩, fun k3 => ⟨fun h => ⟨hsz, fun h' => by rw [e4' h h']; exact ⟨rfl, rfl, rfl⟩, fun h' => by rw [e4 h h']; exact ⟨rfl, rfl, rfl⟩⟩, fun k4 => ⟨fun h => ⟨hsz, by rw [e5 h]; exact ⟨rfl, rfl, rfl⟩⟩, fun k5 => ⟨fun h => ⟨hsz, by rw [e6 h]; exact ⟨rfl, rfl, rfl⟩⟩, fun k6 => ⟨hsz, by rw [e7 k1 k2 k3 k4 k5 k6]; exact ⟨rfl, rfl, rfl⟩⟩⟩⟩⟩⟩⟩⟩
 ·have eT : a2h r o.branch = [] := by unfold a2h; rw [if_neg (by omega)]
  simp -implicitDefEqProofs only [FileD.ex1]
  rw [<- eT]
  exact ⟨fun h => ⟨sl, st, h4, hsz, s1.1, s1.2, by rw [e1 h]; exact ⟨rfl, rfl, rfl⟩⟩, fun k1 => ⟨fun h => ⟨(a4L s0).1, st, hsz, s2.1, s2.2, by rw [e2 h]; exact ⟨rfl, rfl, rfl⟩⟩, fun k2 => ⟨fun h => ⟨(a4L s0).1, st, h3, sp, hsz, s3.1, s3.2, by rw [e3 h]; exact ⟨rfl, rfl, rfl⟩⟩, fun k3 => ⟨fun h => ⟨hsz, fun h' => by rw [e4' h h']; exact ⟨rfl, rfl, rfl⟩, fun h' => by rw [e4 h h']; exact ⟨rfl, rfl, rfl⟩⟩, fun k4 => ⟨fun h => ⟨hsz, by rw [e5 h]; exact ⟨rfl, rfl, rfl⟩⟩, fun k5 => ⟨fun h => ⟨hsz, by rw [e6 h]; exact ⟨rfl, rfl, rfl⟩⟩, fun k6 => ⟨hsz, by rw [e7 k1 k2 k3 k4 k5 k6]; exact ⟨rfl, rfl, rfl⟩⟩⟩⟩⟩⟩⟩⟩
def rpI (l : List OpD) : Inv := ⟨Nat, fun i => ⟨[(0, true, .sl true 7 (eOps l)), (2, true, .ptr 10 0), (3, true, .ptr 11 0), (4, true, .int .i64 i)], [(10, b0C), (11, .box 27 [.sl false 3 (a0e (a2S (l.take i)).commits), .sl false 2 (a0c (a2S (l.take i)).heads)])]⟩, fun i => i <= l.length /\ i <= 30, fun i => l.length - i⟩
def a6s : Con := .fn 34 (List OpD) (fun l => [.sl true 7 (eOps l)]) (fun l => ∀ o ∈ l, opSz o) (fun l => .agg [.sl false 3 (a0e (a4c l).commits), .sl false 2 (a0c (a4c l).heads)]) (fun _ => [])
theorem b5q : Has Tryz.prog 11 a6s := by
 refine a0d mixed a0H (HasL.cons c4b (HasL.cons c4a HasL.nil)) [0, 2, 3, 4, 5] ((fun a n (_ : Nat) => (fun l _ => rpI l) a n)) [12287] Tryz.func11 (by unfold Tryz.f11; rfl) (fun _ => ⟨(), trivial⟩) ?_
 intro (l : List OpD) (ha : ∀ o ∈ l, opSz o)
 simp (maxSteps := 8000000) -implicitDefEqProofs [-kStep_move, -Bool.exists_bool, a6s, b6k, b6j, Con.fn, a0N, tTab, rpI]
 try dsimp only
 simp -implicitDefEqProofs only [and_assoc, exists_eq_left, exists_and_left, RepoD.ex1, RepoD.eta, OpD.ex1, OpD.eta]
 refine ⟨rfl, rfl, Nat.zero_le _, Nat.zero_le _, fun t ht h30 _ => ⟨fun hlt h30' => ⟨hlt, fun _ => ?_⟩, ?_⟩⟩
 ·have qq : Option.map eOp l[t]? = some (eOp l[t]) := by simp -implicitDefEqProofs [hlt]
  have hs := b3h hlt
  have hok := (a9e (l.take t)).1
  have ho := ha l[t] (List.getElem_mem hlt)
  rw [qq]
  generalize a2S (l.take t) = R at *
  generalize l[t] = o at *
  simp -implicitDefEqProofs [eOp, D.asInt, D.asStr, D.asRows]
  refine ⟨ho.2.2, fun hb => ⟨hlt, fun _ => ⟨hok, ho, by omega, by omega, fun _ _ => ⟨t + 1, by omega, by rw [hs, if_pos hb], by rw [hs, if_pos hb], by omega, by omega, by omega⟩⟩⟩, fun hb => ⟨by omega, by omega, fun _ _ => ⟨t + 1, by omega, by rw [hs, if_neg (by simp -implicitDefEqProofs [hb])], by rw [hs, if_neg (by simp -implicitDefEqProofs [hb])], by omega, by omega, by omega⟩⟩⟩
 ·intro h
  have e : a4c l = a2S (l.take t) := by
   unfold a4c
   rcases Nat.lt_or_ge t l.length with h1 | h1
   ·have := h h1
    have : t = 30 := by omega
    rw [this]
   ·rw [List.take_of_length_le h1, List.take_of_length_le (by omega)]
  rw [e]; exact ⟨rfl, rfl⟩
--TAB a0N
theorem b9p {r : RepoD} (h : a0E r = true) {n : Str} {c : CommitD} (hc : ∀ f ∈ c.tree, f.path.length <= 536870912) : a4B (cmL r n c) := by
 have h1 := a3C h
 refine ⟨by simp -implicitDefEqProofs [cmL]; omega, fun x hx f hf => ?_⟩
 have hx : x ∈ r.commits ++ [c] := hx
 rcases List.mem_append.1 hx with hx | hx
 ·exact (a3g h).2.2 x hx f hf
 ·rw [List.mem_singleton.1 hx] at hf
  exact hc f hf
abbrev oRb (x : RepoD × Bool) : AV := .tup [.agg [.own 8 3 (a0e x.1.commits), .own 9 2 (a0c x.1.heads)], .bool x.2]
abbrev oRbf (x : RepoD × Bool) : List (Nat × Blk) := a2y 8 x.1.commits ++ a2N 9 x.1.heads
def cRepoCommitI : Con := .fn 36 (RepoD × Str × Str × List FileD) (fun a => [a1g a.1, .str a.2.1, .str a.2.2.1, .sl true 2 (a0a a.2.2.2)]) (fun a => a4B a.1 /\ okSz a.2.2.2) (fun a => oRb (a0X a.1 a.2.1 a.2.2.1 a.2.2.2)) (fun a => oRbf (a0X a.1 a.2.1 a.2.2.1 a.2.2.2))
theorem d0U {P : Program} {f : Nat} {k : Con} {c : k.A -> Prop} (h1 : Has P f { k with pre := fun a => k.pre a /\ c a }) (h2 : Has P f { k with pre := fun a => k.pre a /\ ¬ c a }) : Has P f k :=
 ⟨h1.enter, h1.tot, h1.nob, fun a ha => by
  by_cases q : c a
  ·exact h1.calls a ⟨ha, q⟩
  ·exact h2.calls a ⟨ha, q⟩, h1.bldr, h1.bt⟩
def b1q : Con := { A := RepoD × Str × Str × List FileD, X := Unit, n := 28, args := fun a => [.agg [.own 0 3 (a0e a.1.commits), .own 1 2 (a0c a.1.heads)], .str a.2.1, .str a.2.2.1, .sl true 2 (a0a a.2.2.2), .nil], boxes := fun _ => [], pre := fun a => a.1.heads.length <= 1048576 /\ a.1.commits.length <= 1048576 /\ a.2.2.2.length <= 1048576 /\ ∀ f ∈ a.2.2.2, f.text.length <= 1048576, post := fun _ _ => True, res := fun a _ => .agg [.own 8 3 (a0e (cmL a.1 a.2.1 ⟨[], a.2.2.1, a.2.2.2⟩).commits), .own 9 2 (a0c (cmL a.1 a.2.1 ⟨[], a.2.2.1, a.2.2.2⟩).heads)], fin := fun a _ => a2y 8 (cmL a.1 a.2.1 ⟨[], a.2.2.1, a.2.2.2⟩).commits ++ a2N 9 (cmL a.1 a.2.1 ⟨[], a.2.2.1, a.2.2.2⟩).heads, owns := fun a => a3T a.1, mv := true }
theorem b8i : Has Tryz.prog 133 b1q := by
 refine a0d mixed a0H (HasL.cons a2C (HasL.cons a7w HasL.nil)) [0, 1, 2, 3, 4, 5, 10] ((fun a n (_ : Nat) => (fun _ => a0F) a n)) [18] Tryz.func133 (by unfold Tryz.f133; rfl) (fun _ => ⟨(), trivial⟩) ?_
 intro a ha
 obtain ⟨r, n, w, t⟩ := a
 obtain ⟨h1, h2, h3, h4⟩ : r.heads.length <= 1048576 /\ r.commits.length <= 1048576 /\ t.length <= 1048576 /\ ∀ f ∈ t, f.text.length <= 1048576 := ha
 simp (maxSteps := 8000000) -implicitDefEqProofs [b1q, a3T, a7Q, a2U, Con.fn, a0N, tTab, a0J]
 try dsimp only
 have sn : a0e r.commits ++ [[D.sl 3 1 [], D.str w, D.sl 99 2 (a0a t)]] = a0e (r.commits ++ [⟨[], w, t⟩]) := a1U _ [] _ _
 rw [sn]
 exact ⟨⟨h3, h4⟩, ⟨by omega, by omega⟩, fun _ => ⟨by omega, fun _ => ⟨⟨r.commits ++ [⟨[], w, t⟩], r.heads⟩, n, _, ⟨⟨rfl, rfl⟩, rfl, rfl⟩, ⟨rfl, rfl⟩, h1, ⟨rfl, rfl⟩, rfl, rfl⟩⟩⟩
def a9M : Con := { cRepoCommitI with pre := fun a => cRepoCommitI.pre a /\ 0 <= atL a.1.heads a.2.1 }
theorem b3l : Has Tryz.prog 126 a9M := by
 refine a0d mixed a0H (HasL.cons a5w (HasL.cons a5C (HasL.cons a3J (HasL.cons a8O (HasL.cons a6e HasL.nil))))) [0, 1, 2, 3, 4, 8, 9, 10, 11] ((fun a n (_ : Nat) => (fun _ => a0F) a n)) [16409, 16416, 16417] Tryz.func126 (by unfold Tryz.f126; rfl) (fun _ => ⟨(), trivial⟩) ?_
 intro a ha
 obtain ⟨r, n, w, t⟩ := a
 obtain ⟨⟨h1, h2⟩, h0⟩ : (a4B r /\ okSz t) /\ 0 <= atL r.heads n := ha
 simp (maxSteps := 8000000) [-kStep_move, -kStepC_move, -Bool.exists_bool, a9M, cRepoCommitI, a5F, cAtI, a5i, a7M, a9U, a6T, a3T, Con.fn, a0N, tTab, a0J]
 try dsimp only
 try simp only [and_assoc, exists_eq_left, exists_and_left, RepoD.ex1, RepoD.eta]
 refine ⟨h1, fun h => ?_, fun h => ⟨fun _ => ?_, h0⟩⟩
 ·rw [a3U, if_neg (by simp -implicitDefEqProofs [h])]; exact ⟨rfl, rfl, rfl, rfl, rfl⟩
 ·obtain ⟨hz, hp⟩ := a3g h
  obtain ⟨k1, k2, k3⟩ := h2
  have hc : a0x t = true \/ True := .inr trivial
  refine ⟨hz, [atL r.heads n], rfl, trivial, trivial, rfl, hz.2.2, hz.1, k1, k2, trivial, trivial, hz, b9p h k3, ?_⟩
  have e : a0X r n w t = if a0E (cmL r n ⟨[atL r.heads n], w, t⟩) then (cmL r n ⟨[atL r.heads n], w, t⟩, true) else (r, false) := by rw [a3U, if_pos h]; unfold comI; rw [if_pos h0]
  rw [e]
  by_cases q : a0E (cmL r n ⟨[atL r.heads n], w, t⟩) = true
  ·rw [if_pos q, if_pos q, q]; exact ⟨rfl, rfl, rfl, rfl, rfl⟩
  ·rw [if_neg q, if_neg q]; exact ⟨rfl, rfl, by simpa using q, rfl, rfl⟩
def a9N : Con := { cRepoCommitI with pre := fun a => cRepoCommitI.pre a /\ ¬ 0 <= atL a.1.heads a.2.1 }
theorem b3m : Has Tryz.prog 126 a9N := by
 refine a0d mixed a0H (HasL.cons a5w (HasL.cons a5C (HasL.cons a3J (HasL.cons b8i (HasL.cons a6e HasL.nil))))) [0, 1, 2, 3, 4, 8, 9, 10, 11] ((fun a n (_ : Nat) => (fun _ => a0F) a n)) [16409, 16416, 16417] Tryz.func126 (by unfold Tryz.f126; rfl) (fun _ => ⟨(), trivial⟩) ?_
 intro a ha
 obtain ⟨r, n, w, t⟩ := a
 obtain ⟨⟨h1, h2⟩, h0⟩ : (a4B r /\ okSz t) /\ ¬ 0 <= atL r.heads n := ha
 simp (maxSteps := 8000000) [-kStep_move, -kStepC_move, -Bool.exists_bool, a9N, cRepoCommitI, a5F, cAtI, a5i, b1q, a6T, a3T, Con.fn, a0N, tTab, a0J]
 try dsimp only
 try simp only [and_assoc, exists_eq_left, exists_and_left, RepoD.ex1, RepoD.eta]
 refine ⟨h1, fun h => ?_, fun h => ⟨by omega, fun _ => ?_⟩⟩
 ·rw [a3U, if_neg (by simp -implicitDefEqProofs [h])]; exact ⟨rfl, rfl, rfl, rfl, rfl⟩
 ·obtain ⟨hz, hp⟩ := a3g h
  obtain ⟨k1, k2, k3⟩ := h2
  refine ⟨hz, trivial, trivial, hz.2.2, hz.1, k1, k2, trivial, trivial, hz, b9p h k3, ?_⟩
  have e : a0X r n w t = if a0E (cmL r n ⟨[], w, t⟩) then (cmL r n ⟨[], w, t⟩, true) else (r, false) := by rw [a3U, if_pos h]; unfold comI; rw [if_neg h0]
  rw [e]
  by_cases q : a0E (cmL r n ⟨[], w, t⟩) = true
  ·rw [if_pos q, if_pos q, q]; exact ⟨rfl, rfl, rfl, rfl, rfl⟩
  ·rw [if_neg q, if_neg q]; exact ⟨rfl, rfl, by simpa using q, rfl, rfl⟩
theorem b3n : Has Tryz.prog 126 cRepoCommitI := d0U (c := fun a => 0 <= atL a.1.heads a.2.1) b3l b3m
def a6R : Con := .fn 27 (RepoD × Str × Int) (fun a => [a1g a.1, .str a.2.1, .int .i64 a.2.2]) (fun a => a4B a.1) (fun a => oRb (a0R a.1 a.2.1 a.2.2)) (fun a => oRbf (a0R a.1 a.2.1 a.2.2))
theorem b3k : Has Tryz.prog 76 a6R := by
 refine a0d mixed a0H (HasL.cons a5w (HasL.cons a5C (HasL.cons a3J (HasL.cons a7w (HasL.cons a6e HasL.nil))))) [0, 1, 2, 3, 6, 7] ((fun a n (_ : Nat) => (fun _ => a0F) a n)) [16402, 16407, 16408] Tryz.func76 (by unfold Tryz.f76; rfl) (fun _ => ⟨(), trivial⟩) ?_
 intro a ha
 obtain ⟨r, n, b⟩ := a
 replace ha : a4B r := ha
 simp (maxSteps := 8000000) [-kStep_move, -kStepC_move, -Bool.exists_bool, a6R, a5F, cAtI, a5i, a7Q, a6T, a3T, Con.fn, a0N, tTab, a0J]
 try dsimp only
 try simp only [and_assoc, exists_eq_left, exists_and_left, RepoD.ex1, RepoD.eta]
 refine ⟨ha, fun h => ?_, fun h => ⟨fun h0 => ?_, fun h0 => ?_⟩⟩
 ·rw [a4J, if_neg (by simp -implicitDefEqProofs [h])]; exact ⟨rfl, rfl, rfl, rfl, rfl⟩
 ·rw [a4J, if_pos h, if_pos h0]; exact ⟨(a3g h).1, rfl, rfl, rfl, rfl, rfl⟩
 ·obtain ⟨hz, hp⟩ := a3g h
  refine ⟨hz, trivial, trivial, hz.2.2, trivial, trivial, hz, hp, ?_⟩
  rw [a4J, if_pos h, if_neg (by omega)]
  by_cases q : a0E ⟨r.commits, ptL r.heads n b⟩ = true
  ·rw [if_pos q, if_pos q, q]; exact ⟨rfl, rfl, rfl, rfl, rfl⟩
  ·rw [if_neg q, if_neg q]; exact ⟨rfl, rfl, by simpa using q, rfl, rfl⟩
def b1F : Con := .fn 29 (RepoD × OpD × List FileD × Bool) (fun a => [a1g a.1, vOp a.2.1, .sl true 2 (a0a a.2.2.1), .bool a.2.2.2]) (fun a => a0E a.1 = true /\ okSz a.2.2.1) (fun a => oR (a1O a.1 a.2.1 a.2.2)) (fun a => oRf (a1O a.1 a.2.1 a.2.2))
theorem b9d : Has Tryz.prog 73 b1F := by
 refine a0d mixed a0H (HasL.cons a3J (HasL.cons b3n HasL.nil)) [0, 1, 2, 3, 4, 5, 8, 9, 10] ((fun a n (_ : Nat) => (fun _ => a0F) a n)) [] Tryz.func73 (by unfold Tryz.f73; rfl) (fun _ => ⟨(), trivial⟩) ?_
 intro a ha
 obtain ⟨r, o, t, k⟩ := a
 obtain ⟨h1, h2⟩ : a0E r = true /\ okSz t := ha
 simp (maxSteps := 8000000) [-kStep_move, -kStepC_move, -Bool.exists_bool, b1F, a5i, cRepoCommitI, Con.fn, a0N, tTab, a0J, bOp]
 try dsimp only
 try simp only [and_assoc, exists_eq_left, exists_and_left, RepoD.ex1, RepoD.eta]
 obtain ⟨hz, hp⟩ := a3g h1
 refine ⟨fun h => ?_, fun h => ⟨hp, h2, fun h' => ?_, fun h' => ?_⟩⟩
 ·unfold a1O; rw [if_neg (by simp -implicitDefEqProofs [h])]; exact ⟨hz, rfl, rfl, rfl, rfl, rfl⟩
 ·have e : (a0X r o.branch o.who t).1 = r := by
   rw [a3U, if_pos h1] at h' ⊢
   split at h'
   ·cases h'
   ·rename_i q; rw [if_neg q]
  unfold a1O; rw [if_pos h, if_neg (by simp -implicitDefEqProofs [h']), e]; exact ⟨rfl, rfl, rfl, rfl, rfl⟩
 ·unfold a1O; rw [if_pos h, if_pos h']; exact ⟨rfl, rfl, rfl, rfl, rfl⟩
theorem c8h {t : List Str} (h : a1f t = true) : (t.map List.length).sum <= 1073741824 := by
 unfold a1f at h
 simp only [Bool.and_eq_true, decide_eq_true_eq, List.all_eq_true] at h
 have g : ∀ l : List Str, (∀ x ∈ l, a5S x = true) -> (l.map List.length).sum <= 1000 * l.length := by
  intro l
  induction l with
  | nil => intro _; simp
  | cons x l ih =>
   intro q
   have h1 := q x (by simp)
   have h2 := ih fun y hy => q y (by simp -implicitDefEqProofs [hy])
   unfold a5S at h1
   simp only [Bool.and_eq_true, decide_eq_true_eq] at h1
   simp only [List.map_cons, List.sum_cons, List.length_cons]
   omega
 have := g t h.2
 omega
def c0o : Con := .fn 115 OpD (fun o => [vOp o]) opSz (fun o => .bool (opB o)) (fun _ => [])
theorem c7t : Has Tryz.prog 49 c0o := by
 refine a0d mixed a0H (HasL.cons a4y (HasL.cons a6y (HasL.cons a6C (HasL.cons c3K (HasL.cons b5c (HasL.cons a6D HasL.nil)))))) [0, 1, 2, 3, 4, 5, 6, 31, 85, 100] ((fun a n (_ : Nat) => (fun _ => a0F) a n)) [] Tryz.func49 (by unfold Tryz.f49; rfl) (fun _ => ⟨(), trivial⟩) ?_
 intro (o : OpD) (ho : opSz o)
 simp (maxSteps := 8000000) [-kStep_move, -kStepC_move, -Bool.exists_bool, c0o, a4T, a6F, a6G, c2T, a8v, a6H, Con.fn, a0N, tTab, bOp]
 try dsimp only
 obtain ⟨p1, p2, p3⟩ := ho
 have hsum : a1f o.text = true -> (List.map List.length o.text).sum <= 1073741824 := c8h
 have e0 : a0Z o.branch = false \/ a0Z o.who = false -> opB o = false := fun h => by unfold opB; rcases h with h | h <;> rw [h] <;> simp
 refine ⟨e0, fun n1 n2 => ?_⟩
 have e1 : o.kind = 1 -> opB o = (a3b o.path && a1f o.text && decide (idxB o.text.flatten 124 < 0) && decide (o.to_ = []) && decide (o.at_ = 0)) := fun h => by
  unfold opB a3S a5I; rw [n1, n2, if_pos h, Bool.eq_iff_iff, a6K]; simp only [c6a]; simp; grind
 have e2 : o.kind = 2 -> opB o = (a3b o.path && decide (o.to_ = []) && decide (o.at_ = 0) && decide (o.text = [])) := fun h => by
  unfold opB a3S; rw [n1, n2, if_neg (by omega), if_pos h, Bool.eq_iff_iff, a6K]; simp; grind
 have e3 : o.kind = 3 -> opB o = (a3b o.path && a3b o.to_ && decide (o.at_ = 0) && decide (o.text = [])) := fun h => by
  unfold opB a3S; rw [n1, n2, if_neg (by omega), if_neg (by omega), if_pos h, Bool.eq_iff_iff, a6K, a6K]; simp; grind
 have e4 : o.kind = 4 \/ o.kind = 5 -> opB o = (a0Z o.to_ && decide (o.path = []) && decide (o.at_ = 0) && decide (o.text = [])) := fun h => by
  unfold opB a3S; rw [n1, n2, if_neg (by omega), if_neg (by omega), if_neg (by omega), if_pos h, Bool.eq_iff_iff]; simp; grind
 have e6 : o.kind = 6 \/ o.kind = 7 -> opB o = (decide (0 <= o.at_) && decide (o.at_ <= 15) && decide (o.path = []) && decide (o.to_ = []) && decide (o.text = [])) := fun h => by
  unfold opB a3S; rw [n1, n2, if_neg (by omega), if_neg (by omega), if_neg (by omega), if_neg (by omega), if_pos h, Bool.eq_iff_iff]; simp; grind
 have e8 : ¬ o.kind = 1 -> ¬ o.kind = 2 -> ¬ o.kind = 3 -> ¬ o.kind = 4 -> ¬ o.kind = 5 -> ¬ o.kind = 6 -> ¬ o.kind = 7 -> opB o = false := fun a b c d e f g => by
  unfold opB; rw [if_neg a, if_neg b, if_neg c, if_neg (by omega), if_neg (by omega)]; simp
 repeat' (first
  | intro _
  | refine ⟨_, _, _, ⟨rfl, rfl, rfl⟩, ?_⟩
  | refine ⟨_, _, ⟨rfl, rfl⟩, ?_⟩
  | apply And.intro)
 all_goals first
  | omega
  | contradiction
  | assumption
  | exact hsum (by assumption)
  | exact e1 (by assumption)
  | exact e2 (by assumption)
  | exact e3 (by assumption)
  | exact e4 (by omega)
  | exact e6 (by omega)
  | exact e8 (by omega) (by omega) (by omega) (by omega) (by omega) (by omega) (by omega)
  | grind
theorem b0h {t : List FileD} (h : a0S t = true) : okSz t :=
 ⟨(a4L (a2m h)).1, (a4L (a2m h)).2, fun f hf => by have := a9n h f hf; omega⟩
theorem c4I {t : List FileD} (h : a0S t = true) (p : Str) : okSz (a2c t p).1 :=
 ⟨(a4L (a7i h p)).1, (a4L (a7i h p)).2, fun f hf => by
  unfold a2c filB at hf
  rw [if_pos h] at hf
  have := a9n h f (List.mem_filter.1 hf).1
  omega⟩
theorem c9O {o : OpD} (a : ¬ o.kind = 1) (b : ¬ o.kind = 2) (c : ¬ o.kind = 3) (d : ¬ o.kind = 4) (e : ¬ o.kind = 5) (f : ¬ o.kind = 6) (g : ¬ o.kind = 7) : opB o = false := by
 unfold opB; rw [if_neg a, if_neg b, if_neg c, if_neg (by omega), if_neg (by omega)]; simp
def b1D : Con := .fn 130 (RepoD × OpD) (fun a => [a1g a.1, vOp a.2]) (fun a => a4B a.1 /\ opSz a.2) (fun a => oR (a4a a.1 a.2)) (fun a => oRf (a4a a.1 a.2))
theorem b8X : Has Tryz.prog 32 b1D := by
 refine a0d mixed a0H (HasL.cons a5w (HasL.cons c7t (HasL.cons a3J (HasL.cons a5C (HasL.cons b4Y (HasL.cons b7U (HasL.cons b5v (HasL.cons b5x (HasL.cons b9d (HasL.cons b3k (HasL.cons c2m (HasL.cons c4P HasL.nil)))))))))))) [0, 1, 2, 3, 4, 5, 6, 7, 8, 9, 10, 11, 12, 13, 14, 15, 35] ((fun a n (_ : Nat) => (fun _ => a0F) a n)) [] Tryz.func32 (by unfold Tryz.f32; rfl) (fun _ => ⟨(), trivial⟩) ?_
 intro a ha
 obtain ⟨r, o⟩ := a
 obtain ⟨h1, h2⟩ : a4B r /\ opSz o := ha
 simp (maxSteps := 8000000) -implicitDefEqProofs [-kStep_move, -kStepC_move, -Bool.exists_bool, b1D, a5F, c0o, a5i, cAtI, a9O, a9Q, a8G, a8I, b1F, a6R, b3Q, b6q, Con.fn, a0N, tTab, a0J, bOp]
 try dsimp only
 simp -implicitDefEqProofs only [and_assoc, exists_eq_left, exists_and_left, RepoD.ex1, RepoD.eta, OpD.ex1, OpD.eta]
 refine ⟨h1, fun h => ?_, fun h => ⟨h2, fun hb => ?_, fun hb => ?_⟩⟩
 ·have e : a4a r o = (noR, 1) := by unfold a4a; rw [if_neg (by rw [<- a1h, h]; simp)]
  rw [e]; exact ⟨rfl, rfl, rfl, rfl, rfl⟩
 ·have e : a4a r o = (r, 1) := by unfold a4a; rw [if_pos (by rw [<- a1h]; exact h), if_neg (by simp -implicitDefEqProofs [hb])]
  rw [e]; exact ⟨(a3g h).1, rfl, rfl, rfl, rfl, rfl⟩
 ·have hS : a0v r = true := by rw [<- a1h]; exact h
  have d : a4a r o = do19 r o := by unfold a4a; rw [if_pos hS, if_pos hb]
  have eT : a4D r (atL r.heads o.branch) = a2h r o.branch := by
   unfold a4D a2h
   by_cases q : 0 <= atL r.heads o.branch
   ·rw [if_neg (by omega), if_pos q]
   ·rw [if_pos (by omega), if_neg q]
  have hT := b1k hS o.branch
  obtain ⟨p1, p2, p3⟩ := h2
  have hat := a9B (n := o.branch) ((a0V r).1 hS).2.1
  have s0 := b0h hT
  have s1 := b0h (a9u hT ⟨o.path, o.text⟩)
  have s2 := c4I hT o.path
  have s3 := b0h (a8j hT o.path o.to_)
  rw [d, eT]
  simp only [c2j, b9g, b9h]
  have e1 : o.kind = 1 -> do19 r o = a1O r o (a2Z (a2h r o.branch) ⟨o.path, o.text⟩) := fun h => by unfold do19; rw [if_pos h]
  have e2 : o.kind = 2 -> do19 r o = a1O r o (a2c (a2h r o.branch) o.path) := fun h => by unfold do19; rw [if_neg (by omega), if_pos h]
  have e3 : o.kind = 3 -> do19 r o = a1O r o (a1y (a2h r o.branch) o.path o.to_) := fun h => by unfold do19; rw [if_neg (by omega), if_neg (by omega), if_pos h]
  have e4 : o.kind = 4 -> (a0R r o.to_ (atL r.heads o.branch)).2 = true -> do19 r o = ((a0R r o.to_ (atL r.heads o.branch)).1, 0) := fun h h' => by unfold do19; rw [if_neg (by omega), if_neg (by omega), if_neg (by omega), if_pos h, if_pos h']
  have e4' : o.kind = 4 -> (a0R r o.to_ (atL r.heads o.branch)).2 = false -> do19 r o = (r, 1) := fun h h' => by unfold do19; rw [if_neg (by omega), if_neg (by omega), if_neg (by omega), if_pos h, if_neg (by simp -implicitDefEqProofs [h'])]
  have e5 : o.kind = 5 -> do19 r o = a1t r o.branch o.who (atL r.heads o.to_) := fun h => by unfold do19; rw [if_neg (by omega), if_neg (by omega), if_neg (by omega), if_neg (by omega), if_pos h]
  have e7 : ¬ o.kind = 1 -> ¬ o.kind = 2 -> ¬ o.kind = 3 -> ¬ o.kind = 4 -> ¬ o.kind = 5 -> do19 r o = a1w (decide (o.kind = 7)) r o.branch o.who o.at_ := fun k1 k2 k3 k4 k5 => by
   unfold do19; rw [if_neg k1, if_neg k2, if_neg k3, if_neg k4, if_neg k5]
   by_cases k6 : o.kind = 6
   ·rw [if_pos k6, k6]; rfl
   ·have k7 : o.kind = 7 := by
     rcases Classical.em (o.kind = 7) with q | q
     ·exact q
     ·rw [c9O k1 k2 k3 k4 k5 k6 q] at hb; cases hb
    rw [if_neg k6, k7]; rfl
  refine ⟨by omega, by omega, fun k => ⟨⟨o.path, o.text⟩, rfl, rfl, s0, p3, p1, h, s1, by rw [e1 k]; exact ⟨rfl, rfl, rfl, rfl, rfl⟩⟩, fun k1 => ⟨fun k => ⟨s0, by omega, h, s2, by rw [e2 k]; exact ⟨rfl, rfl, rfl, rfl, rfl⟩⟩, fun k2 => ⟨fun k => ⟨s0, p1, p2, h, s3, by rw [e3 k]; exact ⟨rfl, rfl, rfl, rfl, rfl⟩⟩, fun k3 => ⟨fun k => ⟨h1, fun q => ?_, fun q => ?_⟩, fun k4 => ⟨fun k => ⟨h, by rw [e5 k]; exact ⟨rfl, rfl, rfl, rfl, rfl⟩⟩, fun k5 => ⟨h, by rw [e7 k1 k2 k3 k4 k5]; exact ⟨rfl, rfl, rfl, rfl, rfl⟩⟩⟩⟩⟩⟩⟩
  ·have eb : (a0R r o.to_ (atL r.heads o.branch)).1 = r := by
    rw [a4J, if_pos h] at q ⊢
    split at q
    ·rename_i g; rw [if_pos g]
    ·rename_i g
     rw [if_neg g]
     split at q
     ·cases q
     ·rename_i g2; rw [if_neg g2]
   rw [e4' k q, eb]; exact ⟨rfl, rfl, rfl, rfl, rfl⟩
  ·rw [e4 k q]; exact ⟨rfl, rfl, rfl, rfl, rfl⟩
structure Onto (r : RepoD) (n : Str) (a : Int) (x : RepoD) : Prop where
 ok : a0v x = true
 keeps : r.commits <+: x.commits
 came : Came x n a.toNat

structure Did (r : RepoD) (X : RepoD × Int) : Prop where
 ok : a0v X.1 = true
 keeps : r.commits <+: X.1.commits
 few : X.1.commits.length <= r.commits.length + 1
 all : ∀ m, 0 <= atL r.heads m -> 0 <= atL X.1.heads m
 not : ¬ X.2 = 0 -> ¬ X.2 = 3 -> X.1 = r
theorem Did.same {r : RepoD} (h : a0v r = true) (c : Int) : Did r (r, c) := ⟨h, List.prefix_refl _, Nat.le_succ _, fun _ q => q, fun _ _ => rfl⟩
theorem Did.add {r : RepoD} (h : a0v r = true) {n : Str} {c : CommitD} (hr : a0v (addR r n c) = true) : Did r (addR r n c, 0) := by
 refine ⟨hr, List.prefix_append _ _, by simp [addR], fun m q => ?_, fun q => absurd rfl q⟩
 show 0 <= atL (addR r n c).heads m
 rw [b0A h]
 split
 ·omega
 ·exact q
theorem Did.head {r : RepoD} (h : a0v r = true) {n : Str} {a k : Int} (ha : 0 <= a) (hr : a0v ⟨r.commits, hSet r.heads n a⟩ = true) (hk : k = 0 \/ k = 3) : Did r (⟨r.commits, hSet r.heads n a⟩, k) := by
 refine ⟨hr, List.prefix_refl _, by simp, fun m q => ?_, fun q1 q2 => by rcases hk with e | e <;> contradiction⟩
 show 0 <= atL (hSet r.heads n a) m
 rw [a6E ((a0V r).1 h).2.1]
 split
 ·exact ha
 ·exact q
theorem Did.fork {r : RepoD} (h : a0v r = true) {n : Str} {a : Int} (hn : ¬ 0 <= atL r.heads n) (hr : a0v ⟨r.commits, hSet r.heads n a⟩ = true) : Did r (⟨r.commits, hSet r.heads n a⟩, 0) := by
 refine ⟨hr, List.prefix_refl _, by simp, fun m q => ?_, fun q1 => absurd rfl q1⟩
 show 0 <= atL (hSet r.heads n a) m
 rw [a6E ((a0V r).1 h).2.1, if_neg]
 ·exact q
 ·rintro rfl; exact hn q

theorem c4T {l : List OpD} {i : Nat} (h : i < l.length) : a2S (l.take (i + 1)) = (a4a (a2S (l.take i)) l[i]).1 := by
 rw [b3h h]
 unfold a4a
 rw [if_pos (a9e _).1]
 by_cases hb : opB l[i] = true
 ·rw [if_pos hb, if_pos hb]
 ·rw [if_neg hb, if_neg hb]
--TAB a0N
def rplI (l : List OpD) : Inv := ⟨Nat, fun i => ⟨[(2, true, .ptr 11 0), (3, true, .ptr 12 0), (6, true, .sl true 7 (eOps l)), (7, true, .int .i64 l.length), (8, true, .int .i64 i)],
 [(11, b0C), (12, .box 27 [.own 13 3 (a0e (a2S (l.take i)).commits), .own 14 2 (a0c (a2S (l.take i)).heads)]), (13, .own 87 3 true (a0e (a2S (l.take i)).commits)), (14, .own 89 2 true (a0c (a2S (l.take i)).heads))]⟩, fun i => i <= l.length /\ i <= 30, fun i => l.length - i⟩
def a6r : Con := .fn 23 (List OpD) (fun l => [.sl true 7 (eOps l)]) (fun l => ∀ o ∈ l, opSz o) (fun l => .agg [.own 8 3 (a0e (a4c l).commits), .own 9 2 (a0c (a4c l).heads)]) (fun l => a2y 8 (a4c l).commits ++ a2N 9 (a4c l).heads)
theorem b5p : Has Tryz.prog 13 a6r := by
 refine a0d mixed a0H (HasL.cons b8X HasL.nil) [0, 2, 3, 4, 5, 6, 7, 8] ((fun a n (_ : Nat) => (fun l _ => rplI l) a n)) [12287] Tryz.func13 (by unfold Tryz.f13; rfl) (fun _ => ⟨(), trivial⟩) ?_
 intro (l : List OpD) (ha : ∀ o ∈ l, opSz o)
 simp (maxSteps := 8000000) -implicitDefEqProofs [-kStep_move, -Bool.exists_bool, a6r, b1D, Con.fn, a0N, tTab, rplI]
 try dsimp only
 simp -implicitDefEqProofs only [and_assoc, exists_eq_left, exists_and_left, RepoD.ex1, RepoD.eta, OpD.ex1, OpD.eta]
 have eP : ∀ t, (l.length <= t /\ t <= 30 \/ t = 30) -> a4c l = a2S (l.take t) := fun t h => by
  unfold a4c
  rcases h with h | h
  ·rw [List.take_of_length_le h.1, List.take_of_length_le (by omega)]
  ·rw [h]
 refine fun _ => ⟨rfl, rfl, Nat.zero_le _, Nat.zero_le _, fun t ht h30 => ⟨fun hlt => ⟨hlt, fun _ => ?_⟩, fun hge => ?_⟩⟩
 ·have qq : Option.map eOp l[t]? = some (eOp l[t]) := by simp -implicitDefEqProofs [hlt]
  have hs := c4T hlt
  have hok := (a9e (l.take t)).1
  have hR : a0E (a2S (l.take t)) = true := by rw [a1h]; exact hok
  have ho := ha l[t] (List.getElem_mem hlt)
  have e30 := eP t
  rw [qq]
  generalize a2S (l.take t) = R at *
  generalize l[t] = o at *
  simp -implicitDefEqProofs [eOp, D.asInt, D.asStr, D.asRows]
  refine ⟨fun q => by rw [e30 (.inr (by omega))]; exact ⟨rfl, rfl, rfl, rfl⟩, fun q => ⟨(a3g hR).2, ho, by omega, by omega, fun _ _ => ⟨t + 1, by omega, by rw [hs], by rw [hs], by rw [hs], by rw [hs], by omega, by omega, by omega⟩⟩⟩
 ·rw [eP t (.inl ⟨hge, h30⟩)]; exact ⟨rfl, rfl, rfl, rfl⟩
--TAB a0N
theorem c2g {a : List Str} {l : Int} (h : 0 <= l) : a3V a l <= l := by
 have g : ∀ (a : List Str) (l : Int), 0 <= l -> szL a l <= l := by
  intro a
  induction a with
  | nil => intro l _; exact Int.le_refl l
  | cons s r ih =>
   intro l h
   simp only [szL]
   split
   ·omega
   ·have := ih (l - s.length) (by omega); omega
 unfold a3V
 split
 ·omega
 ·have := g a (l - a.length) (by omega); omega
def szO (o : OpD) (l : Int) : Int :=
 if l - o.branch.length < 0 then -1 else if l - o.branch.length - o.who.length < 0 then -1 else if l - o.branch.length - o.who.length - o.path.length < 0 then -1 else if l - o.branch.length - o.who.length - o.path.length - o.to_.length < 0 then -1 else if a3V o.text (l - o.branch.length - o.who.length - o.path.length - o.to_.length) < 0 then -1 else a3V o.text (l - o.branch.length - o.who.length - o.path.length - o.to_.length)
theorem d1n {o : OpD} {l : Int} (h : 0 <= l) : szO o l <= l := by
 unfold szO
 split
 ·omega
 ·split
  ·omega
  ·split
   ·omega
   ·split
    ·omega
    ·split
     ·omega
     ·have := c2g (a := o.text) (l := l - o.branch.length - o.who.length - o.path.length - o.to_.length) (by omega); omega
def c0p : Con := .fn 40 (OpD × Int) (fun a => [vOp a.1, .int .i64 a.2]) (fun a => 0 <= a.2 /\ a.2 <= 1048576) (fun a => .int .i64 (szO a.1 a.2)) (fun _ => [])
theorem c8g : Has Tryz.prog 19 c0p := by
 refine a0d mixed a0H (HasL.cons b5t HasL.nil) [0, 1, 2, 4] ((fun a n (_ : Nat) => (fun _ => a0F) a n)) [] Tryz.func19 (by unfold Tryz.f19; rfl) (fun _ => ⟨(), trivial⟩) ?_
 intro a ha
 obtain ⟨f, n⟩ := a
 obtain ⟨h1, h2⟩ : 0 <= n /\ n <= 1048576 := ha
 simp -implicitDefEqProofs [c0p, Con.fn, a0N, tTab, a8E, bOp]
 try dsimp only
 try simp +contextual -implicitDefEqProofs [eStr, a0k, a0z, a0D, a0A, List.getElem?_eq_getElem, a0B, a0l, a0y, a0s, <- a0i, <- a0h, a0m, a0q, a0o, a0n, a0r, a0j, and_assoc]
 repeat' (first | intro _ | apply And.intro)
 all_goals first | omega | grind [a0G, szO]
def c0q : Con := .fn 27 OpD (fun o => [vOp o]) (fun o => o.text.length <= 1048576) (fun o => .agg [.int .i64 o.kind, .str o.branch, .str o.who, .str o.path, .str o.to_, .int .i64 o.at_, .own 8 1 (a0b o.text)]) (fun o => a2a 8 o.text)
theorem c8j : Has Tryz.prog 21 c0q := by
 refine a0d mixed a0H (HasL.cons b5u HasL.nil) [0, 1, 2, 3] ((fun a n (_ : Nat) => (fun _ => a0F) a n)) [] Tryz.func21 (by unfold Tryz.f21; rfl) (fun _ => ⟨(), trivial⟩) ?_
 intro f hf
 obtain ⟨a, b, c, d, e, g, t⟩ := f
 replace hf : t.length <= 1048576 := hf
 simp -implicitDefEqProofs [c0q, Con.fn, a0N, tTab, a8F, bOp]
 try dsimp only
 try simp +contextual -implicitDefEqProofs [eStr, a0k, a0z, a0D, a0A, List.getElem?_eq_getElem, a0B, a0l, a0y, a0s, <- a0i, <- a0h, a0m, a0q, a0o, a0n, a0r, a0j, and_assoc]
 repeat' (first | intro _ | apply And.intro)
 all_goals first | omega | grind [a0G]
def c0j : Con := .fn 41 (OpD × OpD) (fun a => [vOp a.1, vOp a.2]) (fun _ => True) (fun a => .bool (decide (a.1 = a.2))) (fun _ => [])
theorem c6u : Has Tryz.prog 23 c0j := by
 refine a0d mixed a0H (HasL.cons a9r HasL.nil) [0, 1, 2, 3, 4] ((fun a n (_ : Nat) => (fun _ => a0F) a n)) [] Tryz.func23 (by unfold Tryz.f23; rfl) (fun _ => ⟨(), trivial⟩) ?_
 intro a _
 obtain ⟨⟨a, b, c, d, e, g, t⟩, ⟨a', b', c', d', e', g', t'⟩⟩ := a
 simp -implicitDefEqProofs [c0j, Con.fn, a0N, tTab, a6n, bOp]
 try dsimp only
 try simp +contextual -implicitDefEqProofs [eStr, a0k, a0z, a0D, a0A, List.getElem?_eq_getElem, a0B, a0l, a0y, a0s, <- a0i, <- a0h, a0m, a0q, a0o, a0n, a0r, a0j, and_assoc]
 repeat' (first | intro _ | apply And.intro)
 all_goals first | omega | grind [a0G]
--TAB a0N
def b3a (h : Nat) (l : List OpD) : List (Nat × Blk) := [(h, .own 42 7 true (eOps l))]
def szOL : List OpD -> Int -> Int
 | [], l => l
 | f :: r, l => if szO f l < 0 then -1 else szOL r (szO f l)
def a9k (a : List OpD) (l : Int) : Int := if l - a.length < 0 then -1 else szOL a (l - a.length)
theorem c5r {a : List OpD} {i : Nat} {l : Int} (h : i < a.length) : szOL (a.drop i) l = if szO a[i] l < 0 then -1 else szOL (a.drop (i + 1)) (szO a[i] l) := by
 rw [List.drop_eq_getElem_cons h]; rfl
theorem c8f {a : List OpD} {i : Nat} {l : Int} (h : a.length <= i) : szOL (a.drop i) l = l := by
 rw [List.drop_eq_nil_of_le h]; rfl
def b2t : Con := .fn 27 (List OpD × Int) (fun a => [.sl true 7 (eOps a.1), .int .i64 a.2]) (fun a => 0 <= a.2 /\ a.2 <= 1048576) (fun a => .int .i64 (a9k a.1 a.2)) (fun _ => [])
theorem c5s : Has Tryz.prog 10 b2t := by
 refine a0d mixed a0H (HasL.cons c8g HasL.nil) [0, 1, 4, 5] ((fun a n (_ : Nat) => (fun a _ => ⟨Nat × Int, fun t => ⟨[(0, true, .sl true 7 (eOps a.1)), (1, true, .int .i64 t.2), (4, true, .int .i64 0), (5, true, .int .i64 t.1)], []⟩, fun t => t.1 <= a.1.length /\ 0 <= t.2 /\ t.2 <= 1048576 /\ szOL (a.1.drop t.1) t.2 = a9k a.1 a.2, fun t => a.1.length - t.1⟩) a n)) [] Tryz.func10 (by unfold Tryz.f10; rfl) (fun _ => ⟨(), trivial⟩) ?_
 intro a ha
 obtain ⟨l, n⟩ := a
 obtain ⟨h1, h2⟩ : 0 <= n /\ n <= 1048576 := ha
 have hle : ∀ (f : OpD) (l : Int), 0 <= l -> szO f l <= l := fun f l => d1n
 simp -implicitDefEqProofs [b2t, c0p, Con.fn, a0N, tTab]
 try dsimp only
 refine fun _ => ⟨⟨by omega, by omega⟩, fun _ _ => ⟨fun h => by unfold a9k; rw [if_pos h], fun h => ⟨⟨0, _, ⟨rfl, rfl⟩, Nat.zero_le _, by omega, by omega, by unfold a9k; rw [if_neg (by omega)]; rfl⟩, fun i m hi m0 m1 hm _ => ⟨fun hlt => ⟨hlt, fun _ => ?_⟩, fun hge => ?_⟩⟩⟩⟩
 ·have e1 : Option.map eOp l[i]? = some (eOp l[i]) := by simp -implicitDefEqProofs [hlt]
  have hs := c5r (l := m) hlt
  rw [hm] at hs
  have hl2 := hle l[i] m m0
  rw [e1]
  generalize l[i] = o at *
  simp -implicitDefEqProofs [eOp, D.asInt, D.asStr, D.asRows]
  exact ⟨o, m, ⟨⟨rfl, rfl, rfl, rfl, rfl, rfl, rfl⟩, rfl⟩, ⟨m0, m1⟩, fun q => by rw [hs, if_pos q], fun q => ⟨⟨by omega, by omega⟩, fun _ _ => ⟨i + 1, _, ⟨rfl, by omega⟩, ⟨by omega, q, by omega, by rw [hs, if_neg (by omega)]⟩, by omega⟩⟩⟩
 ·rw [<- hm, c8f hge]
def b2u : Con := .fn 23 (List OpD) (fun a => [.sl true 7 (eOps a)]) (fun a => a.length <= 1048576 /\ ∀ o ∈ a, o.text.length <= 1048576) (fun a => .own 8 7 (eOps a)) (fun a => b3a 8 a)
theorem c5x : Has Tryz.prog 12 b2u := by
 refine a0d mixed a0H (HasL.cons c8j HasL.nil) [0, 2, 3, 4] ((fun a n (_ : Nat) => (fun a _ => ⟨Nat × List OpD, fun t => ⟨[(0, true, .sl true 7 (eOps a)), (2, true, .nil), (3, true, .own 9 7 (eOps t.2)), (4, true, .int .i64 t.1)], b3a 9 t.2⟩, fun t => t.1 <= a.length /\ t.2.length = a.length /\ t.2.take t.1 = a.take t.1, fun t => a.length - t.1⟩) a n)) [] Tryz.func12 (by unfold Tryz.f12; rfl) (fun _ => ⟨(), trivial⟩) ?_
 intro (a : List OpD) ha
 obtain ⟨h1, h2⟩ : a.length <= 1048576 /\ ∀ o ∈ a, o.text.length <= 1048576 := ha
 have h3 : ∀ i (h : i < a.length), a[i].text.length <= 1048576 := fun i h => h2 _ (List.getElem_mem h)
 simp -implicitDefEqProofs [b2u, c0q, b3a, Con.fn, a0N, tTab]
 try dsimp only
 have rep : List.replicate a.length [D.int IntKind.i64 0, D.str [], D.str [], D.str [], D.str [], D.int IntKind.i64 0, D.sl 9 1 []] = eOps (List.replicate a.length ⟨0, [], [], [], [], 0, []⟩) := by simp -implicitDefEqProofs [eOps, eOp]
 have est : ∀ (b : List OpD) (i : Nat) (x : OpD), (eOps b).set i [D.int IntKind.i64 x.kind, D.str x.branch, D.str x.who, D.str x.path, D.str x.to_, D.int IntKind.i64 x.at_, D.sl 9 1 (a0b x.text)] = eOps (b.set i x) := fun b i x => by simp -implicitDefEqProofs [eOps, List.map_set, eOp]
 refine fun _ => ⟨⟨by omega, by omega⟩, fun _ _ => ⟨⟨0, List.replicate a.length ⟨0, [], [], [], [], 0, []⟩, ⟨⟨rep.symm, rfl⟩, rep⟩, Nat.zero_le _, by simp, by simp⟩, fun i b hi hb ht _ => ⟨fun hlt => ⟨hlt, fun _ => ?_⟩, fun hge => ?_⟩⟩⟩
 ·have e1 : Option.map eOp a[i]? = some (eOp a[i]) := by simp -implicitDefEqProofs [hlt]
  have h3i := h3 i hlt
  have hst := b7L (by omega) hlt ht
  rw [e1]
  generalize a[i] = o at *
  simp -implicitDefEqProofs [eOp, D.asInt, D.asStr, D.asRows]
  exact ⟨h3i, by omega, fun _ => ⟨by omega, ⟨by omega, by omega⟩, fun _ _ => ⟨i + 1, b.set i o, ⟨⟨(est b i o).symm, by omega⟩, est b i o⟩, ⟨by omega, by simp; omega, hst⟩, by omega⟩⟩⟩
 ·have e := a4F hb (by omega) ht
  exact ⟨e.symm, e⟩
def b2n : Con := .fn 27 (List OpD × List OpD) (fun a => [.sl true 7 (eOps a.1), .sl true 7 (eOps a.2)]) (fun _ => True) (fun a => .bool (decide (a.1 = a.2))) (fun _ => [])
theorem c3g : Has Tryz.prog 15 b2n := by
 refine a0d mixed a0H (HasL.cons c6u HasL.nil) [0, 1, 2, 3, 4, 5] ((fun a n (_ : Nat) => (fun a _ => ⟨Nat, fun i => ⟨[(0, true, .sl true 7 (eOps a.1)), (1, true, .sl true 7 (eOps a.2)), (4, true, .bool false), (5, true, .int .i64 i)], []⟩, fun i => i <= a.1.length /\ a.1.length = a.2.length /\ a.1.take i = a.2.take i, fun i => a.1.length - i⟩) a n)) [] Tryz.func15 (by unfold Tryz.f15; rfl) (fun _ => ⟨(), trivial⟩) ?_
 intro a _
 obtain ⟨l, r⟩ := a
 simp -implicitDefEqProofs [b2n, c0j, Con.fn, a0N, tTab]
 try dsimp only
 refine fun _ _ => ⟨fun h e => h (by rw [e]), fun h => ⟨by omega, fun i hi hl hp _ => ⟨fun hlt => ⟨hlt, fun _ => ?_⟩, fun hge => ?_⟩⟩⟩
 ·have e1 : Option.map eOp l[i]? = some (eOp l[i]) := by simp -implicitDefEqProofs [hlt]
  have hr : i < r.length := by omega
  have e2 : Option.map eOp r[i]? = some (eOp r[i]) := by simp -implicitDefEqProofs [hr]
  have hst := a4U hlt hr hp
  have hne : l[i] ≠ r[i] -> ¬ l = r := fun h e => h (by subst e; rfl)
  rw [e1, e2]
  generalize l[i] = x at *
  generalize r[i] = y at *
  simp -implicitDefEqProofs [eOp, D.asInt, D.asStr, D.asRows]
  exact ⟨hr, fun _ => ⟨x, y, ⟨⟨rfl, rfl, rfl, rfl, rfl, rfl, rfl⟩, rfl, rfl, rfl, rfl, rfl, rfl, rfl⟩, hne, fun e => ⟨⟨by omega, by omega⟩, fun _ _ => ⟨i + 1, by omega, ⟨by omega, hl, hst e⟩, by omega⟩⟩⟩⟩
 ·exact a4F hl hge hp
def mkO (o : OpD) (k : Int) : OpD := ⟨k, a1p (k + 1), a1p (k + 2), a1p (k + 3), a1p (k + 4), k + 5, a1G o.text.length (k + 6)⟩
def kO (o : OpD) (k : Int) : Int := k + 6 + o.text.length
def kOs : List OpD -> Int -> Int
 | [], k => k
 | c :: l, k => kOs l (kO c k)
def a4H : List OpD -> Int -> List OpD
 | [], _ => []
 | c :: l, k => mkO c k :: a4H l (kO c k)
theorem a3I : ∀ (l : List OpD) (k : Int), (a4H l k).length = l.length
 | [], _ => rfl
 | c :: l, k => by simp -implicitDefEqProofs [a4H, a3I l]
theorem b6V : ∀ (l : List OpD) (c : OpD) (k : Int), kOs (l ++ [c]) k = kO c (kOs l k)
 | [], _, _ => rfl
 | d :: l, c, k => by simp only [List.cons_append, kOs]; exact b6V l c _
theorem b2Y : ∀ (l : List OpD) (k : Int) (i : Nat) (h : i < l.length), (a4H l k)[i]'(by rw [a3I]; exact h) = mkO l[i] (kOs (l.take i) k)
 | [], _, i, h => by simp at h
 | c :: l, k, 0, _ => rfl
 | c :: l, k, i + 1, h => by
  simp only [a4H, List.getElem_cons_succ, List.take_succ_cons, kOs]
  exact b2Y l _ i (by simpa using h)
theorem b2J : ∀ (l : List OpD) (k : Int), k <= kOs l k
 | [], _ => Int.le_refl _
 | c :: l, k => by
  have h2 := b2J l (kO c k)
  have h1 : kO c k = k + 6 + c.text.length := rfl
  simp only [kOs]; omega
theorem c3R (l : List OpD) (k : Int) (i : Nat) : kOs (l.take i) k <= kOs l k := by
 have : ∀ (a b : List OpD) (k : Int), kOs (a ++ b) k = kOs b (kOs a k) := by
  intro a
  induction a with
  | nil => intro b k; rfl
  | cons c a ih => intro b k; simp only [List.cons_append, kOs]; exact ih b _
 conv => rhs; rw [<- List.take_append_drop i l]
 rw [this]
 exact b2J _ _
def a2R (a : List OpD) (k : Int) (i : Nat) : List OpD := (a4H a k).take i ++ a.drop i
theorem c4C {a : List OpD} {k : Int} {i : Nat} (h : i <= a.length) : (a2R a k i).length = a.length := by simp -implicitDefEqProofs [a2R, a3I]; omega
theorem c1G (a : List OpD) (k : Int) : a2R a k 0 = a := by simp -implicitDefEqProofs [a2R]
theorem c4A {a : List OpD} {k : Int} {i : Nat} (h : a.length <= i) : a2R a k i = a4H a k := by
 unfold a2R
 rw [List.take_of_length_le (by rw [a3I]; exact h), List.drop_eq_nil_of_le h, List.append_nil]
theorem c4B {a : List OpD} {k : Int} {i : Nat} (h : i < a.length) : (a2R a k i)[i]? = some a[i] := by
 unfold a2R
 rw [List.getElem?_append_right (by simp; omega), List.length_take, a3I, Nat.min_eq_left (by omega), Nat.sub_self, List.getElem?_drop]
 simp -implicitDefEqProofs [h]
theorem c4D {a : List OpD} {k : Int} {i : Nat} (h : i < a.length) : (a2R a k i).set i (mkO a[i] (kOs (a.take i) k)) = a2R a k (i + 1) := by
 unfold a2R
 have h1 : ((a4H a k).take i).length = i := by rw [List.length_take, a3I]; omega
 rw [List.set_append_right _ _ (by omega), h1, Nat.sub_self, List.drop_eq_getElem_cons h, List.set_cons_zero]
 rw [a0p (l := a4H a k) (i := i) (by rw [a3I]; exact h), b2Y a k i h]
 simp
def a8C : Con := { A := List OpD × Int, X := Unit, n := 66, args := fun a => [.own 0 7 (eOps a.1), .int .i64 a.2], boxes := fun _ => [], pre := fun a => 0 <= a.2 /\ kOs a.1 a.2 <= 1152921504606846976, post := fun _ _ => True, res := fun a _ => .int .i64 (kOs a.1 a.2), fin := fun a _ => [(0, .own 42 7 true (eOps (a4H a.1 a.2)))], owns := fun a => [(0, 42, 7, eOps a.1)], lends := [0], mv := true, sube := 42 }
theorem b8O : Has Tryz.prog 16 a8C := by
 refine a0d mixed a0H (HasL.cons a2e (HasL.cons a7t HasL.nil)) [0, 1, 4, 5] ((fun a n (_ : Nat) => (fun a _ => ⟨Nat, fun i => ⟨[(0, true, .own 0 7 (eOps (a2R a.1 a.2 i))), (1, true, .int .i64 (kOs (a.1.take i) a.2)), (4, true, .int .i64 0), (5, true, .int .i64 i)], [(0, .own 42 7 true (eOps (a2R a.1 a.2 i)))]⟩, fun i => i <= a.1.length, fun i => a.1.length - i⟩) a n)) [] Tryz.func16 (by unfold Tryz.f16; rfl) (fun _ => ⟨(), trivial⟩) ?_
 intro a ha
 obtain ⟨l, k⟩ := a
 obtain ⟨q1, q2⟩ : 0 <= k /\ kOs l k <= 1152921504606846976 := ha
 have e1 := fun i => @c4C l k i
 have e3 := c1G l k
 simp -implicitDefEqProofs [a8C, Con.fn, a0N, tTab, a2B, a5h]
 try dsimp only
 refine ⟨⟨0, ⟨⟨e3, rfl, rfl⟩, e3.symm⟩, Nat.zero_le _⟩, fun t ht hbig => ⟨fun hlt => ?_, fun hge => ?_⟩⟩
 ·rw [e1 t ht] at hlt
  have g := c4B (k := k) hlt
  have hl := e1 t ht
  have hst := c4D (k := k) hlt
  have hsn : kOs (l.take (t + 1)) k = kO l[t] (kOs (l.take t) k) := by rw [a0p hlt, b6V]
  have hsp := c3R l k (t + 1)
  rw [hsn] at hsp
  have hge1 := b2J (l.take t) k
  have hkc : kO l[t] (kOs (l.take t) k) = kOs (l.take t) k + 6 + l[t].text.length := rfl
  generalize kOs (l.take t) k = b at *
  have hq : (eOps (a2R l k t))[t]? = some (eOp l[t]) := by rw [eOps_get, g]; rfl
  have hL : t < (eOps (a2R l k t)).length := by rw [eOps_length]; omega
  have gs : ∀ R : List D, ((eOps (a2R l k t)).set t R)[t]? = some R := fun R => by rw [List.getElem?_set_self hL]
  have g2 : (a2R l k t)[t]'(by omega) = l[t] := by
   rw [List.getElem?_eq_getElem (by omega)] at g; exact Option.some.inj g
  simp -implicitDefEqProofs [g, g2, gs, hl, hlt, eOp, D.asRows, and_assoc]
  have hse : (eOps (a2R l k t)).set t [D.int .i64 b, D.str (a1p (b + 1)), D.str (a1p (b + 1 + 1)), D.str (a1p (b + 1 + 1 + 1)), D.str (a1p (b + 1 + 1 + 1 + 1)), D.int .i64 (b + 1 + 1 + 1 + 1 + 1), D.sl 9 1 (a0b (a1G l[t].text.length (b + 1 + 1 + 1 + 1 + 1 + 1)))] = eOps (a2R l k (t + 1)) := by
   rw [<- hst]; unfold eOps; rw [List.map_set]; simp -implicitDefEqProofs [mkO, eOp, Int.add_assoc]
  have hsn2 : kOs (l.take (t + 1)) k = b + 1 + 1 + 1 + 1 + 1 + 1 + l[t].text.length := by rw [hsn, hkc]; omega
  repeat' (first
   | exact ⟨t + 1, hse.symm, hsn2, by omega, hse, by omega, by omega⟩
   | intro _
   | refine And.intro ?_ ?_)
  all_goals omega
 ·have hge' : l.length <= t := by rw [e1 t ht] at hge; omega
  rw [List.take_of_length_le hge', c4A hge']
  simp
--TAB a0N
theorem d0r {o : OpD} {l : Int} (hl : l <= 1048576) (h : 0 <= szO o l) : opSz o /\ o.text.length <= 1048576 := by
 unfold szO at h
 split at h
 ·omega
 ·split at h
  ·omega
  ·split at h
   ·omega
   ·split at h
    ·omega
    ·split at h
     ·omega
     ·have := (c5u h).1
      exact ⟨⟨by omega, by omega, by omega⟩, by omega⟩
--TAB a0N
theorem d0q : ∀ (a : List Str) (l : Int), 0 <= l -> szL a l <= l := by
 intro a
 induction a with
 | nil => intro l _; exact Int.le_refl l
 | cons s r ih =>
  intro l h
  simp only [szL]
  split
  ·omega
  ·have := ih (l - s.length) (by omega); omega
theorem c2f {a : List Str} {l : Int} (h : 0 <= a3V a l) : a3V a l <= l - a.length := by
 unfold a3V at h ⊢
 split at h
 ·omega
 ·rename_i q; rw [if_neg q]; exact d0q a _ (by omega)
theorem b7P : ∀ {l : List OpD} {n : Int}, n <= 1048576 -> 0 <= szOL l n -> (∀ o ∈ l, opSz o /\ o.text.length <= 1048576) /\ ∀ k, kOs l k <= k + 6 * l.length + n
 | [], n, _, h => ⟨by simp, fun k => by simp only [kOs, szOL] at *; simp; omega⟩
 | o :: l, n, hn, h => by
  simp only [szOL] at h
  split at h
  ·omega
  ·rename_i h0
   have hle : szO o n <= n - o.text.length := by
    have q : 0 <= szO o n := by omega
    unfold szO at q ⊢
    split at q
    ·omega
    ·split at q
     ·omega
     ·split at q
      ·omega
      ·split at q
       ·omega
       ·split at q
        ·omega
        ·have := c2f q
         simp only [*, if_false]
         omega
   obtain ⟨h1, h2⟩ := b7P (l := l) (n := szO o n) (by omega) h
   refine ⟨fun x hx => ?_, fun k => ?_⟩
   ·rcases List.mem_cons.1 hx with rfl | hx
    ·exact d0r hn (by omega)
    ·exact h1 x hx
   ·have := h2 (kO o k)
    have e : kO o k = k + 6 + o.text.length := rfl
    simp only [kOs, List.length_cons]
    omega
theorem c5t {l : List OpD} (h : 0 <= a9k l 1048576) : (l.length <= 1048576 /\ ∀ o ∈ l, o.text.length <= 1048576) /\ (∀ o ∈ l, opSz o) /\ kOs l 1 <= 10000000 := by
 unfold a9k at h
 split at h
 ·omega
 ·obtain ⟨h1, h2⟩ := b7P (by omega) h
  have := h2 1
  exact ⟨⟨by omega, fun o ho => (h1 o ho).2⟩, fun o ho => (h1 o ho).1, by omega⟩
theorem c7E (l : List OpD) : 1 <= kCs (a4c l).commits 1 /\ kCs (a4c l).commits 1 + 2 * (a4c l).heads.length <= 10000 :=
 ⟨a7b _ _, c7R (by rw [a1h]; exact (a9e _).1)⟩
def cFnExactRepoPlay : Con := .fn 69 (List OpD) (fun l => [.sl true 7 (eOps l)]) (fun _ => True) (fun _ => .bool true) (fun _ => [])
theorem a7S (x : cFnExactRepoPlay.A) (hpre : cFnExactRepoPlay.pre x) {W : World} {vs : List Value} {fp : List (Nat × Nat)} (hr : RdArgs W (cFnExactRepoPlay.args x) vs fp) (hlen : vs.length <= cFnExactRepoPlay.n) : Calls Tryz.prog 3 vs.toArray W fun e w' => e = .returned (.bool true) /\ Below W.heap.size W w' := by
 refine c1A mixed a0H (l := [(10, b2t), (12, b2u), (11, a6s), (13, a6r), (14, b0E), (15, b2n), (17, a7n), (16, a8C), (18, a7k)]) (HasL.cons c5s (HasL.cons c5x (HasL.cons b5q (HasL.cons b5p (HasL.cons c0C (HasL.cons c3g (HasL.cons b7h (HasL.cons b8O (HasL.cons b6J HasL.nil))))))))) (n := cFnExactRepoPlay.n) [0, 2, 3, 4, 5, 6, 7, 8, 9, 10] [6] [12287] Tryz.func3 (code := _) (by unfold Tryz.f3; rfl) (by kernel_rfl) (k := cFnExactRepoPlay) (x := x) rfl rfl rfl (by kernel_rfl) ?_ hr hlen
 clear hr hlen
 change List OpD at x
 clear hpre
 have h1 : 0 <= a9k x 1048576 -> _ := fun h => @c5t x h
 have h6 := c7E x
 simp -implicitDefEqProofs [d0y, c8n, c2o, c8q, d0x, c8o, c5D, c8p, b6W, c3S, c1j, b8w, c6I, c3N, c0H, c9i, c9j, Blk.fy, AV.fy, AV.fz1, finZ, cFnExactRepoPlay, Con.fn, a0N, tTab, b2t, b2u, b3a, a6s, a6r, b0E, b2n, a7n, a8C, a7k]
 try dsimp only
 try simp +contextual -implicitDefEqProofs [eStr, a0k, a0z, a0D, a0A, List.getElem?_eq_getElem, a0B, a0l, a0y, a0s, <- a0i, <- a0h, a0m, a0q, a0o, a0n, a0r, a0j, and_assoc]
 generalize a4c x = Q at h6 ⊢
 obtain ⟨cs, hs⟩ := Q
 obtain ⟨b1, b2⟩ := h6
 have q1 : a8V ⟨a1x cs 1, a1Z hs.length (kCs cs 1)⟩ 1 = kCs cs 1 + 2 * hs.length := c0T ⟨cs, hs⟩ 1 (by omega)
 have q2 : kCs (a1x cs 1) 1 + 2 * (a1Z hs.length (kCs cs 1)).length = kCs cs 1 + 2 * hs.length := c3M ⟨cs, hs⟩ 1
 dsimp only at b1 b2 ⊢
 simp only [q1, q2]
 intro h
 obtain ⟨⟨g1, g2⟩, g3, g4⟩ := h1 h
 have g5 := b2J x 1
 clear q1 q2 h1
 repeat' first | assumption | omega | trivial | refine And.intro ?_ ?_ | intro _
end Vx
end Go.Proofs.YtonkagjdfpacmaaGreatDoor
