/-
  Joined by program (merge.py): Vw, Oa, Ta, Fa, Fb, Fc, Hg, Nb, Se, Nc, Md, Mk, Qa, Sr, Shs, Qb, Gt, Qc, Sb, Sa, Sc, Mf, Mg, Sd, Nd, Ga, Gb, Gc, Ne, Dh, Di, Kc, Tb, Ng, Me. It shows what the single texts show; conditions: none but those of each lemma.
-/
import Derived.Test.YtonkagjdfpacmaaGreatDoorWa
import Derived.Lib.Walk
import Derived.Lib.SliceRun
import Derived.Lib.JoinLaws
import Derived.Lib.AppendZeros
import Derived.Lib.AppendZerosOnto
import Derived.Lib.Overlaps
import Derived.Laws.Externs
import Derived.Laws.IdiomCopy
import Derived.Laws.NewBlocks
import Derived.Shelf.RegionOpenPlain
import Derived.Shelf.Sort.Plain
import Derived.Shelf.Slices.In.SortNone
import Derived.Shelf.Slices.CompactS
import Derived.Test.YtonkagjdfpacmaaGreatDoorProg
set_option linter.unusedVariables false
set_option linter.unusedSimpArgs false
set_option linter.unusedSectionVars false
namespace Go.Proofs.YtonkagjdfpacmaaGreatDoor
namespace Vx
open Go.RowKit
set_option maxRecDepth 8000
def Con.view (k : Con) (K : Nat) (rows : k.A -> k.X -> List (List D)) : Con := { k with res := fun a x => .sl false K (rows a x), fin := fun _ _ => [] }
theorem Has.view {P : Program} {f : Nat} {k : Con} (H : Has P f k) (K : Nat) (rows : k.A -> k.X -> List (List D)) (hr : ∀ a x, k.res a x = .own 8 K (rows a x)) (hb : ∀ a, k.boxes a = []) (hl : k.lends = []) : Has P f (k.view K rows) := by
 suffices key : ∀ (a : k.A), k.pre a -> ∀ (c : Cx) (_ : Kn k.need c) (vs : List Value) (β : Nat -> Value) (fp : Nat -> List (Nat × Nat)), c.n = k.n -> c.pins = k.pins2 a β -> vs.length = (k.args a).length -> vs.length <= k.n ->
   SatI c (k.start2 a) ⟨vs.toArray ++ Array.replicate (k.n - vs.length) undef, []⟩ c.w0 β fp ->
   Calls P f vs.toArray c.w0 fun e w' => ∃ x : k.X, k.post a x /\ ∃ v, e = .returned v /\ ∃ β' fp' a', SatI c ⟨fun _ => none, get? []⟩ a' w' β' fp' /\ RelL w' (get? []) β' c [.sl false K (rows a x)] [v] by
  exact ⟨H.enter, H.tot, H.nob, fun (a : k.A) ha c hky vs β fp hn hpin hlen hlen2 S => key a ha c hky vs β fp hn hpin hlen hlen2 S, H.bldr, H.bt.imp id fun h a => ⟨(h a).1, fun x p hp => (by cases hp)⟩⟩
 intro a ha c hky vs β fp hn hpin hlen hlen2 S
 have hp : c.pins = [] := by rw [hpin]; simp -implicitDefEqProofs [Con.pins2, hb, hl]
 refine (H.calls a ha c hky vs β fp hn hpin hlen hlen2 S).mono ?_
 rintro e w' ⟨x, hx, v, rfl, β', fp', a', E, hv⟩
 rw [hr] at hv
 have hv2 : ∃ e, Vw w' (get? (k.fin a x)) β' c false [.sl e K (rows a x)] [v] := by cases hv with | own _ h2 _ _ => exact h2
 obtain ⟨e, f, h1, h2⟩ := hv2
 refine ⟨x, hx, v, rfl, β', fp', a', ⟨?_, ?_, ?_, ?_, ?_, E.fg, E.old, E.os, E.tape, E.output, E.size, E.defers, E.tn, by simp -implicitDefEqProofs [hp]⟩, .sl ⟨e, f, h1, fun z hz => ⟨⟨?_, ?_⟩, (h2 z hz).2⟩⟩ .lnil⟩
 ·intro t g av h; cases h
 ·intro h blk hm; cases hm
 ·intro h blk hm; cases hm
 ·intro h h' blk blk' hm; cases hm
 ·intro h blk hm; cases hm
 ·rintro ⟨h, ty, vs, hm, _⟩; cases hm
 ·intro h e k d R n cc hm; cases hm
--TAB a0N
set_option maxHeartbeats 4000000
--TAB a0N
def b3y : Con := .fn 8 (List Bool) (fun a => [.sl true 1 (a0I a)]) (fun a => a ≠ [] /\ a.length <= 1048576) (fun a => .own 8 1 (a0I a)) (fun a => b7s 8 a)
theorem c0w : Has Tryz.prog 202 b3y := by
 refine a0d mixed a0H HasL.nil [0, 2] ((fun a n (_ : Nat) => (fun _ => a0F) a n)) [] Tryz.func202 (by unfold Tryz.f202; rfl) (fun _ => ⟨(), trivial⟩) ?_
 intro (a : List Bool) ha
 obtain ⟨h0, ha⟩ : a ≠ [] /\ a.length <= 1048576 := ha
 have h1 : ¬ a0I a = [] := by simpa [a0I] using h0
 simp (maxSteps := 8000000) -implicitDefEqProofs [-Bool.exists_bool, b3y, Con.fn, a0N, tTab, h1]
 try dsimp only
 refine ⟨fun x hx d hd => ?_, by omega⟩
 simp only [a0I, List.mem_map] at hx
 obtain ⟨y, _, rfl⟩ := hx
 simp only [a1F, List.mem_singleton] at hd
 subst hd; trivial
def comP (r : RepoD) (a b : Int) (i : Nat) : List Bool := (List.range r.commits.length).map fun j => decide (j < i) && (isT (anc r a) j && isT (anc r b) j)
theorem c6m (r a b i) : (comP r a b i).length = r.commits.length := by simp -implicitDefEqProofs [comP]
theorem c3a (r a b) : comP r a b 0 = List.replicate r.commits.length false := by
 unfold comP
 apply List.ext_getElem
 ·simp
 ·intro i h1 h2; simp
theorem b6u {r a b} {i j : Nat} (h : j < (comP r a b i).length) : (comP r a b i)[j] = (decide (j < i) && (isT (anc r a) j && isT (anc r b) j)) := by
 simp -implicitDefEqProofs [comP]
theorem c3b {r a b} {i : Nat} : (comP r a b i).set i (isT (anc r a) i && isT (anc r b) i) = comP r a b (i + 1) := by
 apply List.ext_getElem
 ·simp -implicitDefEqProofs [comP]
 ·intro j h1 h2
  rw [List.getElem_set, b6u h2]
  by_cases e : i = j
  ·subst e; simp
  ·rw [if_neg e, b6u]
   have : decide (j < i + 1) = decide (j < i) := by
    rw [decide_eq_decide]; omega
   rw [this]
theorem c6l (r a b) : comP r a b r.commits.length = comB r a b := by
 unfold comP comB
 apply List.map_congr_left
 intro j hj
 have : j < r.commits.length := by simpa using hj
 simp -implicitDefEqProofs [this]
theorem c2P {r : RepoD} {L : List Int} {C : List Bool} {i : Nat} (h : i < L.length) : bigT r (L.take (i + 1)) C = clrN (bigT r (L.take i) C) L[i] (a0u (anc r L[i])) := by
 unfold bigT
 rw [a0p h, List.foldl_append]; rfl
theorem c2W {i : Int} {ks : List Int} {l : List Bool} {k : Nat} (h : k < ks.length) : clrN l i (ks.take (k + 1)) = if ks[k] = i then clrN l i (ks.take k) else (clrN l i (ks.take k)).set ks[k].toNat false := by
 unfold clrN
 rw [a0p h, List.foldl_append]; rfl
def bsA (r : RepoD) (a b : Int) : Inv := ⟨Nat, fun i => ⟨[(3, true, .ptr 10 0), (6, true, .nil), (7, true, .own 11 1 (a0I (anc r a))), (8, true, .own 12 1 (a0I (anc r b))), (9, true, .own 13 1 (a0I (comP r a b i))), (27, true, .int .i64 r.commits.length), (28, true, .int .i64 i)],
 [(10, a2H r), (11, .own 4 1 true (a0I (anc r a))), (12, .own 4 1 true (a0I (anc r b))), (13, .own 4 1 true (a0I (comP r a b i)))]⟩, fun i => i <= r.commits.length, fun i => r.commits.length - i⟩
def bsB (r : RepoD) (a b : Int) : Inv := ⟨Nat, fun i => ⟨[(3, true, .ptr 10 0), (6, true, .nil), (11, true, .own 14 1 (a0I (bigT r ((a0u (comB r a b)).take i) (comB r a b)))), (48, true, .own 15 1 (a0g (a0u (comB r a b)))), (49, true, .int .i64 (a0u (comB r a b)).length), (50, true, .int .i64 i)],
 [(10, a2H r), (14, .own 4 1 true (a0I (bigT r ((a0u (comB r a b)).take i) (comB r a b)))), (15, .own 3 1 true (a0g (a0u (comB r a b))))]⟩, fun i => i <= (a0u (comB r a b)).length, fun i => (a0u (comB r a b)).length - i⟩
def bsX (r : RepoD) (a b : Int) (g : Nat) : Int := (a0u (comB r a b)).getD g 0
def bsT (r : RepoD) (a b : Int) (g k : Nat) : List Bool := clrN (bigT r ((a0u (comB r a b)).take g) (comB r a b)) (bsX r a b g) ((a0u (anc r (bsX r a b g))).take k)
def bsC (r : RepoD) (a b : Int) (g : Nat) : Inv := ⟨Nat, fun k => ⟨[(3, true, .ptr 10 0), (6, true, .nil), (11, true, .own 14 1 (a0I (bsT r a b g k))), (13, true, .int .i64 (bsX r a b g)), (48, true, .own 15 1 (a0g (a0u (comB r a b)))), (49, true, .int .i64 (a0u (comB r a b)).length), (50, true, .int .i64 g), (57, true, .own 9 1 (a0g (a0u (anc r (bsX r a b g))))), (58, true, .int .i64 (a0u (anc r (bsX r a b g))).length), (59, true, .int .i64 k)],
 [(10, a2H r), (14, .own 4 1 true (a0I (bsT r a b g k))), (15, .own 3 1 true (a0g (a0u (comB r a b)))), (9, .own 3 1 true (a0g (a0u (anc r (bsX r a b g)))))]⟩, fun k => g < (a0u (comB r a b)).length /\ k <= (a0u (anc r (bsX r a b g))).length, fun k => (a0u (anc r (bsX r a b g))).length - k⟩
def b5C (r : RepoD) (a b : Int) (n g : Nat) : Inv := if n = 4 then bsA r a b else if n = 10 then bsB r a b else bsC r a b g
theorem c8Y (r a b g) : b5C r a b 4 g = bsA r a b := rfl
theorem c6e (r a b g) : b5C r a b 10 g = bsB r a b := rfl
theorem c6f (r a b g) : b5C r a b 13 g = bsC r a b g := rfl
def b6g : Con := .fn 73 (RepoD × Int × Int) (fun a => [a1g a.1, .int .i64 a.2.1, .int .i64 a.2.2]) (fun a => a0E a.1 = true /\ (0 <= a.2.1 /\ a.2.1 < a.1.commits.length) /\ (0 <= a.2.2 /\ a.2.2 < a.1.commits.length)) (fun a => .own 8 1 (a0g (a1R a.1 a.2.1 a.2.2))) (fun a => a5K 8 (a1R a.1 a.2.1 a.2.2))
theorem c2O : Has Tryz.prog 172 b6g := by
 refine a0d mixed a0H (HasL.cons a9p (HasL.cons c0w (HasL.cons c1D HasL.nil))) [0, 1, 2, 3, 6, 7, 8, 9, 10, 11, 13, 15, 27, 28, 48, 49, 50, 57, 58, 59] (fun a => b5C a.1 a.2.1 a.2.2) [] Tryz.func172 (by unfold Tryz.f172; rfl) (fun _ => ⟨(), trivial⟩) ?_
 intro a ha
 obtain ⟨r, a, b⟩ := a
 obtain ⟨h1, h2, h3⟩ : a0E r = true /\ (0 <= a /\ a < r.commits.length) /\ (0 <= b /\ b < r.commits.length) := ha
 have h6 := a3C h1
 simp (maxSteps := 8000000) [b6g, a6m, b3y, b3L, Con.fn, a0N, tTab, c8Y, c6e, c6f, bsA, bsB, bsC, a0J]
 try dsimp only
 try simp only [and_assoc, exists_eq_left, exists_and_left, RepoD.ex1, RepoD.eta]
 have hal := a2r r
 have hC := c6m r a b
 have hcb := a8M r a b
 refine ⟨h1, h2.1, h2.2, h1, h3.1, h3.2, fun _ => ⟨by omega, fun _ _ => ⟨trivial, trivial, ⟨0, ?_, rfl, trivial, trivial, ?_, Nat.zero_le _⟩, fun i hi => ⟨fun hlt => ?_, fun hge => ?_⟩⟩⟩⟩
 ·rw [c3a, a3k]
 ·rw [c3a, a3k]
 ·have la : i < (anc r a).length := by rw [hal]; exact hlt
  have lb : i < (anc r b).length := by rw [hal]; exact hlt
  have lc : i < (comP r a b i).length := by rw [hC]; exact hlt
  have e1 : Option.map a1F (anc r a)[i]? = some (a1F (anc r a)[i]) := by simp -implicitDefEqProofs [la]
  have e2 : Option.map a1F (anc r b)[i]? = some (a1F (anc r b)[i]) := by simp -implicitDefEqProofs [lb]
  have s1 := c3b (r := r) (a := a) (b := b) (i := i)
  have i1 : isT (anc r a) i = (anc r a)[i] := by simp -implicitDefEqProofs [isT, List.getD_eq_getElem?_getD, la]
  have i2 : isT (anc r b) i = (anc r b)[i] := by simp -implicitDefEqProofs [isT, List.getD_eq_getElem?_getD, lb]
  rw [i1, i2] at s1
  rw [e1, e2]
  generalize (anc r a)[i] = x at *
  generalize (anc r b)[i] = y at *
  have fin : ∀ z, z = (x && y) -> ∃ t', a0I (comP r a b t') = (a0I (comP r a b i)).set i [D.bool z] /\ (t' : Int) = i + 1 /\ (a0I (comP r a b i)).set i [D.bool z] = a0I (comP r a b t') /\ t' <= r.commits.length /\ r.commits.length - t' < r.commits.length - i := fun z hz => by
   have e : (a0I (comP r a b i)).set i [D.bool z] = a0I (comP r a b (i + 1)) := by rw [<- s1, hz]; exact a1B _ _ _
   exact ⟨i + 1, e.symm, by omega, e, by omega, by omega⟩
  simp -implicitDefEqProofs [a1F, D.asBool, lc, la, lb]
  exact ⟨fun hx => ⟨by omega, by omega, fun _ _ => fin y (by rw [hx]; rfl)⟩, fun hx => ⟨by omega, by omega, fun _ _ => fin false (by rw [hx]; rfl)⟩⟩
 ·have : i = r.commits.length := by omega
  subst this
  rw [c6l]
  have hne : ¬ comB r a b = [] := fun e => by rw [e] at hcb; simp at hcb; omega
  have hmem : ∀ x ∈ a0u (comB r a b), 0 <= x /\ x < r.commits.length := fun x hx => by
   obtain ⟨i, q1, _, rfl⟩ := listT_mem.1 hx
   rw [hcb] at q1
   omega
  refine ⟨hne, by omega, by omega, fun _ => ⟨⟨0, by simp -implicitDefEqProofs [bigT], rfl, rfl, rfl, by simp -implicitDefEqProofs [bigT], rfl, Nat.zero_le _⟩, fun i hi => ⟨fun hlt => ⟨hlt, fun _ => ?_⟩, fun hge => ?_⟩⟩⟩
  ·have hx := hmem _ (List.getElem_mem hlt)
   have e1 : Option.map eInt (a0u (comB r a b))[i]? = some (eInt (a0u (comB r a b))[i]) := by simp -implicitDefEqProofs [hlt]
   have hgx : bsX r a b i = (a0u (comB r a b))[i] := by simp -implicitDefEqProofs [bsX, List.getD_eq_getElem?_getD, hlt]
   have hs := c2P (r := r) (C := comB r a b) hlt
   have hT : ∀ k, bsT r a b i k = clrN (bigT r ((a0u (comB r a b)).take i) (comB r a b)) (bsX r a b i) ((a0u (anc r (bsX r a b i))).take k) := fun _ => rfl
   have hbl := a8r r ((a0u (comB r a b)).take i) (comB r a b)
   rw [e1]
   rw [<- hgx] at hs hx ⊢
   generalize hxx : bsX r a b i = x at *
   simp -implicitDefEqProofs [eInt, D.asInt, h1, hx.1, hx.2, hal]
   refine ⟨by omega, fun _ => ⟨i, ?_⟩⟩
   rw [hxx]
   have hLm : ∀ y ∈ a0u (anc r x), 0 <= y /\ y < r.commits.length := fun y hy => by
    obtain ⟨i, q1, _, rfl⟩ := listT_mem.1 hy
    rw [hal] at q1
    omega
   generalize a0u (anc r x) = L at *
   have hbT : ∀ k, (bsT r a b i k).length = r.commits.length := fun k => by rw [hT, b6s, hbl, hcb]
   refine ⟨⟨0, by rw [hT]; simp -implicitDefEqProofs [clrN], rfl, rfl, rfl, rfl, rfl, by rw [hT]; simp -implicitDefEqProofs [clrN], rfl, hlt, Nat.zero_le _⟩, fun k hg hk => ⟨fun hl2 => ⟨hl2, fun _ => ?_⟩, fun hge2 => ?_⟩⟩
   ·have e2 : Option.map eInt L[k]? = some (eInt L[k]) := by simp -implicitDefEqProofs [List.getElem?_eq_getElem hl2]
    have hy := hLm _ (List.getElem_mem hl2)
    have hc := c2W (i := x) (l := bigT r ((a0u (comB r a b)).take i) (comB r a b)) hl2
    rw [<- hT, <- hT] at hc
    have hbk := hbT k
    rw [e2]
    generalize L[k] = y at *
    simp -implicitDefEqProofs [eInt, hbk]
    exact ⟨fun hne => ⟨hy.1, by omega, fun _ _ => ⟨by omega, by omega, by omega, fun _ _ => ⟨k + 1, by rw [hc, if_neg hne]; exact (a1B _ _ _).symm, by omega, by rw [hc, if_neg hne]; exact a1B _ _ _, hg, by omega, by omega⟩⟩⟩,
     fun heq => ⟨by omega, by omega, fun _ _ => ⟨k + 1, by rw [hc, if_pos heq], by omega, by rw [hc, if_pos heq], hg, by omega, by omega⟩⟩⟩
   ·have : k = L.length := by omega
    subst this
    have e3 : bsT r a b i L.length = bigT r ((a0u (comB r a b)).take (i + 1)) (comB r a b) := by rw [hT, List.take_length, hs]
    rw [e3]
    exact ⟨by omega, by omega, fun _ _ => ⟨i + 1, rfl, by omega, rfl, by omega, by omega⟩⟩
  ·have : i = (a0u (comB r a b)).length := by omega
   subst this
   rw [List.take_length]
   have hbl := a8r r (a0u (comB r a b)) (comB r a b)
   exact ⟨by omega, rfl, rfl⟩
end Vx
end Go.Proofs.YtonkagjdfpacmaaGreatDoor
set_option linter.unusedVariables false
set_option linter.unusedSimpArgs false
namespace Go.Proofs.YtonkagjdfpacmaaGreatDoor
set_option maxHeartbeats 4000000
namespace Vx
open Go.RowKit Go.Lib
theorem a1K {P : Program} (k : Nat) (w : World) (dT sT ty elem : TypeId) (b o dLen dCap : Nat) (a : Addr) (sLen sCap : Nat) (cs : List Value)
  (hu : P.underlying dT = some (.slice elem)) (hs : (P.info? elem).map (·.size) = some k) (hn : cs.length = Nat.min sLen dLen * k)
  (hsrc : ∀ (j : Nat) v, cs[j]? = some v -> w.cell? (a.add j) = some v) (hc : ∀ j, j < cs.length -> (w.cell? ⟨b, o + j, none⟩).isSome = true) (hf : ∀ j, j < cs.length -> w.frozen? ⟨b, o + j, none⟩ = false) (h1 : ∀ v ∈ cs, v.oneCell' = true) :
  (Builtin.copy_ #[dT, sT] ty #[.slice (some ⟨b, o, none⟩) dLen dCap, .slice (some a) sLen sCap]).run P w = .ok (goInt (Nat.min sLen dLen)) (w.setCells b o cs) := by
 have hl := run_loadCells_list (P := P) w a cs hsrc
 have hst := run_storeCells_cells (P := P) b o cs 0 w (by simpa using hc) (by simpa using hf) h1
 cases hq : P.info? elem with
 | none => simp [hq] at hs
 | some i =>
  have hi : i.size = k := by simpa [hq] using hs
  simp [Builtin.copy_, run_underlying hu, Builtin.lenOf, Builtin.firstCells, sizeOf, typeInfo, hq, hi, <- hn, hl, hst]
theorem wp_copy_runI {P : Program} (w : World) {o : Oper} {a : Act} {K : Act -> World -> Prop} {Q : Exit -> Act -> World -> Prop} (d s : Operand) (t t' : TypeId)
  (ho : o.op = .call { callee := .builtin .copy, args := #[d, s], argTypes := #[t, t'] }) (v u : Value) (hd : a.eval d = v) (hs : a.eval s = u) {v' : Value} {w' : World}
  (hr : (Builtin.copy_ #[t, t'] o.type #[v, u]).run P w = .ok v' w') (h : K (a.put o.dst v') w') : o.wp P a w K Q := by
 unfold Oper.wp execOp
 simp only [ho, resolve, invoke, builtin, Sem.run_bind, Sem.run_pure, Result.andThen_ok, List.map_toArray, List.map_cons, List.map_nil, hd, hs, hr]
 exact h
theorem wpList_copy_runI {P : Program} (w : World) {ops : Array Oper} {rest : List Oper} {o : Oper} {a : Act} {Q : Exit -> Act -> World -> Prop} (hgd : o.guard = none) (d s : Operand) (t t' : TypeId)
  (ho : o.op = .call { callee := .builtin .copy, args := #[d, s], argTypes := #[t, t'] }) (v u : Value) (hd : a.eval d = v) (hs : a.eval s = u) {v' : Value} {w' : World}
  (hr : (Builtin.copy_ #[t, t'] o.type #[v, u]).run P w = .ok v' w') (h : wpList P ops Q rest (a.put o.dst v') w') : wpList P ops Q (o :: rest) a w :=
 wpList_plain hgd fun _ hK => wp_copy_runI w d s t t' ho v u hd hs hr (hK _ _ h)
theorem step_copy_runI {P : Program} {ops : Array Oper} {o : Oper} {a : Act} {w : World} {K : Act -> World -> Prop} {Q : Exit -> Act -> World -> Prop} {E : Prop}
  (hg : o.guard = none) (d x : Operand) (dT sT : TypeId) (hop : o.op = Op.call { callee := Callee.builtin Builtin.copy, args := #[d, x], argTypes := #[dT, sT] })
  (v u : Value) (hd : a.eval d = v) (hx : a.eval x = u) {v' : Value} {w' : World} (hr : (Builtin.copy_ #[dT, sT] o.type #[v, u]).run P w = .ok v' w') (hK : K (a.put o.dst v') w') :
  if Region.wanted o (yielded ops a.tmps) = true then Oper.wp P o a w K Q else E := by
 have hw : Region.wanted o (yielded ops a.tmps) = true := by simp [Region.wanted, hg]
 rw [if_pos hw]
 unfold Oper.wp
 simp [execOp, hop, resolve, invoke, builtin, hd, hx, hr, Result.andThen]
 exact hK
theorem a3H (b : Nat) (vs : List Value) (o : Nat) (w : World) (h : ∀ j, j < vs.length -> (w.cell? ⟨b, o + j, none⟩).isSome = true) (k : Nat) (hk : (w.cell? ⟨b, k, none⟩).isSome = true) : ((w.setCells b o vs).cell? ⟨b, k, none⟩).isSome = true := by
 by_cases hin : o <= k /\ k < o + vs.length
 ·have := World.cell?_setCells_in b vs o w h (k - o) (by omega)
  rw [show o + (k - o) = k by omega] at this
  rw [this]; rfl
 ·rw [World.cell?_setCells_out b vs o w ⟨b, k, none⟩ (fun _ _ => by show k < o \/ o + vs.length <= k; omega)]
  exact hk
set_option maxRecDepth 100000 in
theorem c0U (b n c i vb m vc : Nat) (cs vs : List Value) (w : World) (hi : i < n) (hm : 0 < m) (hroom : n + m <= c) (hc63 : c <= 9223372036854775807) (hvb : vb ≠ b)
  (hcl : cs.length = n * 2) (hvl : vs.length = m * 2)
  (hcs : ∀ (j : Nat) v, cs[j]? = some v -> w.cell? ⟨b, j, none⟩ = some v) (hsp : ∀ j, j < (n + m) * 2 -> (w.cell? ⟨b, j, none⟩).isSome = true) (hfz : ∀ j, j < (n + m) * 2 -> w.frozen? ⟨b, j, none⟩ = false)
  (hvs : ∀ (j : Nat) v, vs[j]? = some v -> w.cell? ⟨vb, j, none⟩ = some v) (h1c : ∀ v ∈ cs, v.oneCell' = true) (h1v : ∀ v ∈ vs, v.oneCell' = true)
  (tA tB : TypeId) (kA kB : Nat) (hsa : w.shape? vb = some (tA, kA)) (hsb : w.shape? b = some (tB, kB)) (hkB : kB ≠ 0) (hfa : w.frozen? ⟨vb, 0, none⟩ = false) (hfe : w.frozen? ⟨vb, kA, none⟩ = false) :
  Calls Tryz.prog 168 #[.slice (some ⟨b, 0, none⟩) n c, .int .i64 i, .slice (some ⟨vb, 0, none⟩) m vc] w fun e w' =>
   e = .returned (.slice (some ⟨b, 0, none⟩) (n + m) c) /\ w' = (w.drew.setCells b ((i + m) * 2) (cs.drop (i * 2))).setCells b (i * 2) vs := by
 have hz1 : ¬ ((m : Int) = 0) := by omega
 have hz2 : ¬ ((i : Int) = (n : Int)) := by omega
 have hsz : (Tryz.prog.info? 99).map (·.size) = some 2 := by kernel_rfl
 have hov : ∀ lb cb, (callFunc 196 #[.slice (some ⟨vb, 0, none⟩) m vc, .slice (some ⟨b, (i + m) * 2, none⟩) lb cb]).run Tryz.prog w = .ok (.value (.bool false)) w := fun lb cb => by
  rw [run_callFunc_extern Tryz.func196 (by kernel_rfl) (by kernel_rfl) (by kernel_rfl) (e := Extern.SlicesOverlaps.overlaps #[85, 85] #[4]) (by kernel_rfl),
   Lib.run_overlaps_apart w 85 4 99 Tryz.underlying85 2 Tryz.sizeOf99 ⟨vb, 0, none⟩ ⟨b, (i + m) * 2, none⟩ m vc lb cb hvb tA tB kA kB hsa hsb hkB hfa hfe]
  rfl
 have hdl : (cs.drop (i * 2)).length = (n - i) * 2 := by rw [List.length_drop, hcl]; omega
 have mixed : Tryz.prog.follows .mixedOrders = true := mixed
 have hw1 : IntKind.i64.wrap ((i : Int) + (m : Int)) = (i : Int) + (m : Int) := by rw [IntKind.wrap_i64]; omega
 have hb1 : (0 : Int) <= (i : Int) + (m : Int) := by omega
 have hin : i <= n := by omega
 have htn : ((i : Int) + (m : Int)).toNat = i + m := by omega
 have hb2 : ¬ (c = i + m) := by omega
 have hb3 : (i : Int) <= (n : Int) + (m : Int) := by omega
 have hb4 : ¬ (c = i) := by omega
 have hcp1 : ∀ ty dc sc, (Builtin.copy_ #[85, 85] ty #[.slice (some ⟨b, (i + m) * 2, none⟩) (n + m - (i + m)) dc, .slice (some ⟨b, i * 2, none⟩) (n + m - i) sc]).run Tryz.prog w.drew = .ok (goInt (Nat.min (n + m - i) (n + m - (i + m)))) (w.drew.setCells b ((i + m) * 2) (cs.drop (i * 2))) := fun ty dc sc =>
  a1K 2 w.drew _ _ ty 99 b ((i + m) * 2) (n + m - (i + m)) dc ⟨b, i * 2, none⟩ (n + m - i) sc (cs.drop (i * 2)) Tryz.underlying85 hsz (by rw [hdl]; simp only [Nat.min_def]; split <;> omega)
   (fun j v hj => by rw [Addr.add_lit]; exact hcs (i * 2 + j) v (by rwa [List.getElem?_drop] at hj))
   (fun j hj => hsp _ (by omega)) (fun j hj => hfz _ (by omega)) (fun v hv => h1c v (List.mem_of_mem_drop hv))
 obtain ⟨W1, hW1⟩ : ∃ W1, W1 = w.drew.setCells b ((i + m) * 2) (cs.drop (i * 2)) := ⟨_, rfl⟩
 have hsp1 : ∀ k, k < (n + m) * 2 -> (W1.cell? ⟨b, k, none⟩).isSome = true := fun k hk => by
  rw [hW1]
  exact a3H b (cs.drop (i * 2)) ((i + m) * 2) w.drew (fun j hj => hsp _ (by omega)) _ (hsp k hk)
 have hcp2 : ∀ (W : World), (∀ x, W.cell? x = W1.cell? x) -> (∀ x, W.frozen? x = W1.frozen? x) -> ∀ ty dc, (Builtin.copy_ #[85, 85] ty #[.slice (some ⟨b, i * 2, none⟩) (n + m - i) dc, .slice (some ⟨vb, 0, none⟩) m vc]).run Tryz.prog W = .ok (goInt (Nat.min m (n + m - i))) (W.setCells b (i * 2) vs) := fun W hWc hWf ty dc =>
  a1K 2 W _ _ ty 99 b (i * 2) (n + m - i) dc ⟨vb, 0, none⟩ m vc vs Tryz.underlying85 hsz (by rw [hvl]; simp only [Nat.min_def]; split <;> omega)
   (fun j v hj => by
    rw [Addr.add_lit, Nat.zero_add, hWc, hW1, World.cell?_setCells_out b _ _ _ _ (fun h _ => absurd h hvb)]
    exact hvs j v hj)
   (fun j hj => by rw [hWc]; exact hsp1 _ (by omega)) (fun j hj => by rw [hWf, hW1, World.frozen?_setCells]; exact hfz _ (by omega)) h1v
 rw [<- hW1] at hcp1
 go_enter Tryz.func168, Tryz.ntmps168
 go_wp2_with (simp only [hov])
 go_region_law_o (refine step_copy_runI rfl _ _ 85 85 rfl _ _ (by simp [Act.eval, Act.put]) (by simp [Act.eval, Act.put]) (hcp1 _ _ _) ?_)
 go_wp2_with (at_builtin; refine wpList_copy_runI _ rfl _ _ 85 85 rfl _ _ rfl rfl (hcp2 _ (fun _ => rfl) (fun _ => rfl) _ _) ?_)
 go_ret
 first | exact ⟨rfl, rfl⟩ | exact ⟨rfl, by rw [hW1]⟩
set_option maxRecDepth 100000 in
theorem b6O (v1 v2 : Value) (base : Option Addr) (n c vb m vc : Nat) (w w' : World) (v' : Value) (hm : 0 < m) (h1 : v1 = .slice base n c) (hn : n <= c) (hb : base = none -> c = 0) (h2 : v2 = .slice (some ⟨vb, 0, none⟩) m vc)
  (hrun : (Builtin.append_ #[85, 85] 85 #[v1, v2]).run Tryz.prog w = .ok v' w') :
  Calls Tryz.prog 168 #[v1, .int .i64 n, v2] w fun e w1 => e = .returned v' /\ w1 = w' := by
 subst h1 h2
 have hz1 : ¬ ((m : Int) = 0) := by omega
 have mixed : Tryz.prog.follows .mixedOrders = true := mixed
 go_enter Tryz.func168, Tryz.ntmps168
 cases base with
 | none =>
  have h0 := hb rfl
  have h00 : n = 0 := by omega
  subst h0 h00
  go_wp2_with (at_builtin; refine Lib.wpList_append_run _ rfl _ _ _ _ rfl _ _ rfl rfl _ _ hrun ?_)
  go_ret
  exact ⟨rfl, rfl⟩
 | some a =>
  obtain ⟨ab, ao, asp⟩ := a
  go_wp2_with (at_builtin; refine Lib.wpList_append_run _ rfl _ _ _ _ rfl _ _ rfl rfl _ _ hrun ?_)
  all_goals (go_ret; exact ⟨rfl, rfl⟩)
set_option maxRecDepth 100000 in
theorem c3G (b n c i vb m vc : Nat) (cs vs : List Value) (w : World) (hi : i < n) (hm : 0 < m) (hnc : n <= c) (hroom : c < n + m) (hbig : (n + m) * 40 <= 140737488355328)
  (hcl : cs.length = n * 2) (hvl : vs.length = m * 2)
  (hcs : ∀ (j : Nat) v, cs[j]? = some v -> w.cell? ⟨b, j, none⟩ = some v)
  (hvs : ∀ (j : Nat) v, vs[j]? = some v -> w.cell? ⟨vb, j, none⟩ = some v) (h1c : ∀ v ∈ cs, v.oneCell' = true) (h1v : ∀ v ∈ vs, v.oneCell' = true) :
  Calls Tryz.prog 168 #[.slice (some ⟨b, 0, none⟩) n c, .int .i64 i, .slice (some ⟨vb, 0, none⟩) m vc] w fun e w' =>
   e = .returned (.slice (some ⟨w.heap.size, 0, none⟩) (n + m) (grownCap w (n + m) c 99)) /\
   w' = (((w.alloc (.cells ((cs.take (i * 2)).toArray ++ Builtin.zeroCells #[.string ⟨#[]⟩, .slice none 0 0] (n + m - i) ++ Builtin.zeroCells #[.string ⟨#[]⟩, .slice none 0 0] (grownCap w (n + m) c 99 - (n + m))) 99)).drew.setCells w.heap.size (i * 2) vs).drew).setCells w.heap.size ((i + m) * 2) (cs.drop (i * 2)) := by
 have mixed : Tryz.prog.follows .mixedOrders = true := mixed
 obtain ⟨i0, hi0, hz0, hzs, hzb⟩ : ∃ i0, Tryz.prog.info? 99 = some i0 /\ i0.zero = some (.agg #[.string ⟨#[]⟩, .slice none 0 0]) /\ i0.size = 2 /\ i0.bytes = 40 :=
  info_parts (show (Tryz.prog.info? 99).map (fun i => (i.zero, i.size, i.bytes)) = some (some (.agg #[.string ⟨#[]⟩, .slice none 0 0]), 2, 40) by kernel_rfl)
 have hz1 : ¬ ((m : Int) = 0) := by omega
 have hz2 : ¬ ((i : Int) = (n : Int)) := by omega
 have hz3 : (c : Int) < (n : Int) + (m : Int) := by omega
 have hsz : (Tryz.prog.info? 99).map (·.size) = some 2 := by rw [hi0]; simp [hzs]
 have hbw : b < w.heap.size := block_lt_of_cell (hcs 0 _ (List.getElem?_eq_getElem (by omega)))
 have hvw : vb < w.heap.size := block_lt_of_cell (hvs 0 _ (List.getElem?_eq_getElem (by omega)))
 have hkk : (n : Int) + (m : Int) - (i : Int) = ((n + m - i : Nat) : Int) := by omega
 have hik : i + (n + m - i) = n + m := by omega
 have hold : (Builtin.firstCells i0.size i (.slice (some ⟨b, 0, none⟩) i c)).run Tryz.prog w.drew = .ok (cs.take (i * 2)).toArray w.drew := by
  rw [hzs]
  exact run_firstCells_some w.drew 2 i ⟨b, 0, none⟩ i c (cs.take (i * 2)) (by rw [List.length_take]; omega) (fun j v hj => by
   rw [Addr.add_lit]
   rw [List.getElem?_take] at hj
   split at hj
   ·rw [Nat.zero_add]; exact hcs j v hj
   ·cases hj)
 have hrz : ∀ ty, (Builtin.append_ #[85, 3] ty #[.slice (some ⟨b, 0, none⟩) i c, .int .i64 ((n : Int) + (m : Int) - (i : Int))]).run Tryz.prog w =
   .ok (.slice (some ⟨w.heap.size, 0, none⟩) (n + m) (grownCap w (n + m) c 99)) (w.drew.alloc (.cells ((cs.take (i * 2)).toArray ++ Builtin.zeroCells #[.string ⟨#[]⟩, .slice none 0 0] (n + m - i) ++ Builtin.zeroCells #[.string ⟨#[]⟩, .slice none 0 0] (grownCap w (n + m) c 99 - (n + m))) 99)) := fun ty => by
  have h := Lib.run_append_grow_zeros w 85 3 ty 99 i0 _ .i64 .i64 Tryz.underlying85 Tryz.underlying3 hi0 hz0 (some ⟨b, 0, none⟩) i c (cs.take (i * 2)) hold (n + m - i) (by omega) (by omega) (by omega) (by omega) (by rw [hzb]; omega) (by rw [hzb, hik]; exact growslice_fits hroom hbig)
  rw [hik] at h
  rw [hkk]
  exact h
 obtain ⟨G, hG⟩ : ∃ G, G = grownCap w (n + m) c 99 := ⟨_, rfl⟩
 obtain ⟨ROW, hROW⟩ : ∃ ROW : Array Value, ROW = (cs.take (i * 2)).toArray ++ Builtin.zeroCells #[.string ⟨#[]⟩, .slice none 0 0] (n + m - i) ++ Builtin.zeroCells #[.string ⟨#[]⟩, .slice none 0 0] (G - (n + m)) := ⟨_, rfl⟩
 rw [<- hG] at hrz ⊢
 rw [<- hROW] at hrz ⊢
 have hRl : (n + m) * 2 <= ROW.size := by
  rw [hROW]
  simp [Builtin.zeroCells]
  omega
 obtain ⟨W1, hW1⟩ : ∃ W1, W1 = w.drew.alloc (.cells ROW 99) := ⟨_, rfl⟩
 rw [<- hW1] at hrz
 have hN : ∀ j, j < (n + m) * 2 -> (W1.cell? ⟨w.heap.size, j, none⟩).isSome = true := fun j hj => by
  rw [hW1, World.cell?_alloc_at (w := w.drew) ROW _ w.heap.size j rfl, Array.getElem?_eq_getElem (by omega)]; rfl
 have hNf : ∀ j, W1.frozen? ⟨w.heap.size, j, none⟩ = false := fun j => by rw [hW1]; exact World.frozen?_alloc_at (w := w.drew) ROW _ w.heap.size j rfl
 have hOb : ∀ j v, w.cell? ⟨b, j, none⟩ = some v -> W1.cell? ⟨b, j, none⟩ = some v := fun j v h => by rw [hW1, World.cell?_alloc_past (w := w.drew) _ b j hbw]; exact h
 have hOv : ∀ j v, w.cell? ⟨vb, j, none⟩ = some v -> W1.cell? ⟨vb, j, none⟩ = some v := fun j v h => by rw [hW1, World.cell?_alloc_past (w := w.drew) _ vb j hvw]; exact h
 have hcpA : ∀ (W : World), (∀ x, W.cell? x = W1.cell? x) -> (∀ x, W.frozen? x = W1.frozen? x) -> ∀ ty dc, (Builtin.copy_ #[85, 85] ty #[.slice (some ⟨w.heap.size, i * 2, none⟩) (n + m - i) dc, .slice (some ⟨vb, 0, none⟩) m vc]).run Tryz.prog W = .ok (goInt (Nat.min m (n + m - i))) (W.setCells w.heap.size (i * 2) vs) := fun W hWc hWf ty dc =>
  a1K 2 W _ _ ty 99 w.heap.size (i * 2) (n + m - i) dc ⟨vb, 0, none⟩ m vc vs Tryz.underlying85 hsz (by rw [hvl]; simp only [Nat.min_def]; split <;> omega)
   (fun j v hj => by rw [Addr.add_lit, Nat.zero_add, hWc]; exact hOv _ v (hvs j v hj))
   (fun j hj => by rw [hWc]; exact hN _ (by omega)) (fun j hj => by rw [hWf]; exact hNf _) h1v
 have hGn : n + m <= G := by rw [hG]; exact grownCap_ge w _ _ _
 have hG63 : G <= 9223372036854775807 := by
  have := grownCap_le_maxLen w (n + m) c 99 (by unfold maxLen; omega)
  rw [<- hG] at this
  unfold maxLen at this
  omega
 have hGi : ¬ (G = i) := by omega
 have hGim : ¬ (G = i + m) := by omega
 have hci : ¬ (c = i) := by omega
 have hbN : b ≠ w.heap.size := by omega
 have hdl : (cs.drop (i * 2)).length = (n - i) * 2 := by rw [List.length_drop, hcl]; omega
 have hcpB : ∀ (W : World), (∀ x, W.cell? x = (W1.setCells w.heap.size (i * 2) vs).cell? x) -> (∀ x, W.frozen? x = (W1.setCells w.heap.size (i * 2) vs).frozen? x) -> ∀ ty dc sc, (Builtin.copy_ #[85, 85] ty #[.slice (some ⟨w.heap.size, (i + m) * 2, none⟩) (n + m - (i + m)) dc, .slice (some ⟨b, i * 2, none⟩) (n - i) sc]).run Tryz.prog W = .ok (goInt (Nat.min (n - i) (n + m - (i + m)))) (W.setCells w.heap.size ((i + m) * 2) (cs.drop (i * 2))) := fun W hWc hWf ty dc sc =>
  a1K 2 W _ _ ty 99 w.heap.size ((i + m) * 2) (n + m - (i + m)) dc ⟨b, i * 2, none⟩ (n - i) sc (cs.drop (i * 2)) Tryz.underlying85 hsz (by rw [hdl]; simp only [Nat.min_def]; split <;> omega)
   (fun j v hj => by
    rw [Addr.add_lit, hWc, World.cell?_setCells_out _ _ _ _ _ (fun h _ => absurd h hbN)]
    exact hOb _ v (hcs (i * 2 + j) v (by rwa [List.getElem?_drop] at hj)))
   (fun j hj => by rw [hWc]; exact a3H w.heap.size vs (i * 2) W1 (fun t ht => hN _ (by omega)) _ (hN _ (by omega)))
   (fun j hj => by rw [hWf, World.frozen?_setCells]; exact hNf _) (fun v hv => h1c v (List.mem_of_mem_drop hv))
 subst hW1
 have hE1 : ∀ x, ((w.alloc (.cells ROW 99)).drew).cell? x = (w.drew.alloc (.cells ROW 99)).cell? x := fun x => rfl
 have hE2 : ∀ x, ((w.alloc (.cells ROW 99)).drew).frozen? x = (w.drew.alloc (.cells ROW 99)).frozen? x := fun x => rfl
 have hF1 : ∀ x, (((w.alloc (.cells ROW 99)).drew.setCells w.heap.size (i * 2) vs).drew).cell? x = ((w.drew.alloc (.cells ROW 99)).setCells w.heap.size (i * 2) vs).cell? x := fun x => rfl
 have hF2 : ∀ x, (((w.alloc (.cells ROW 99)).drew.setCells w.heap.size (i * 2) vs).drew).frozen? x = ((w.drew.alloc (.cells ROW 99)).setCells w.heap.size (i * 2) vs).frozen? x := fun x => rfl
 have hw1 : IntKind.i64.wrap ((i : Int) + (m : Int)) = (i : Int) + (m : Int) := by rw [IntKind.wrap_i64]; omega
 have hb1 : (0 : Int) <= (i : Int) + (m : Int) := by omega
 have hin : i <= n := by omega
 have htn : ((i : Int) + (m : Int)).toNat = i + m := by omega
 have hb3 : (i : Int) <= (n : Int) := by omega
 clear hkk hik hold hROW hG hRl
 go_enter Tryz.func168, Tryz.ntmps168
 go_wp2_with (first
  | (at_builtin; refine Lib.wpList_append_run _ rfl _ _ _ _ rfl _ _ rfl rfl _ _ (hrz _) ?_)
  | (at_builtin; refine wpList_copy_runI _ rfl _ _ 85 85 rfl _ _ rfl rfl (hcpA _ hE1 hE2 _ _) ?_)
  | (at_builtin; refine wpList_copy_runI _ rfl _ _ 85 85 rfl _ _ rfl rfl (hcpB _ (fun _ => rfl) (fun _ => rfl) _ _ _) ?_))
 go_region_law_o (refine step_copy_runI rfl _ _ 85 85 rfl (.slice (some ⟨w.heap.size, (i + m) * 2, none⟩) (n + m - (i + m)) (G - (i + m))) (.slice (some ⟨b, i * 2, none⟩) (n - i) (c - i)) (by simp [Act.eval, Act.put]) (by simp [Act.eval, Act.put]) (hcpB _ hF1 hF2 3 (G - (i + m)) (c - i)) ?_)
 go_wp2
 go_ret
 exact ⟨rfl, rfl⟩
end Vx
end Go.Proofs.YtonkagjdfpacmaaGreatDoor
namespace Go.Proofs.YtonkagjdfpacmaaGreatDoor
set_option maxHeartbeats 4000000
namespace Vx
open Go.RowKit
theorem c8I {c : Cx} {s : St} {a : Act} {w : World} {β : Nat -> Value} {fp : Nat -> List (Nat × Nat)} (S : SatI c s a w β fp) (hp : c.pins = []) {e k : Nat} {R : List (List D)} (h8 : s.m 8 = some (.own e k true R)) :
  ∃ a', SatI c ⟨fun _ => none, get? [(8, .own e k true R)]⟩ a' w β fp /\ RelL w (get? [(8, .own e k true R)]) β c [.own 8 k R] [β 8] := by
 have hb : BlkOk w (get? [(8, Blk.own e k true R)]) β c 8 (fp 8) (.own e k true R) := by
  obtain ⟨p1, p2, p3⟩ := S.mem 8 _ h8
  refine ⟨p1, p2, ?_⟩
  rcases p3 with p3 | ⟨b', cap, cs, f0, r1, r2, r3, r4, r5, r6, r7, r8⟩
  ·exact .inl p3
  ·exact .inr ⟨b', cap, cs, f0, r1, r2, r3, r4, r5, r6, r7, by simp⟩
 refine ⟨⟨Array.replicate c.n undef, []⟩, ⟨?_, ?_, ?_, ?_, ?_, S.fg, S.old, S.os, S.tape, S.output, S.size, rfl, by simp, by simp [hp]⟩, ?_⟩
 ·intro t g av h; cases h
 ·intro h blk hm; obtain ⟨rfl, rfl⟩ := get1 hm; exact hb
 ·intro h blk hm; obtain ⟨rfl, rfl⟩ := get1 hm; exact S.nodup 8 _ h8
 ·intro h h' blk blk' hm hm' hne; obtain ⟨rfl, rfl⟩ := get1 hm; obtain ⟨rfl, rfl⟩ := get1 hm'; exact absurd rfl hne
 ·intro h blk hm x hx; obtain ⟨rfl, rfl⟩ := get1 hm; exact S.free 8 _ h8 x hx
 ·exact a3A (h := 8) (fps := fp) rfl hb (S.nodup 8 _ h8) (fun h' blk' hm hne => by obtain ⟨rfl, rfl⟩ := get1 hm; exact absurd rfl hne) (S.free 8 _ h8)
def a2D (l : List FileD) (i : Nat) (f : FileD) : List FileD := l.take i ++ (f :: l.drop i)
theorem d1z (l : List FileD) (i : Nat) (f : FileD) : (a0a l).take i ++ (a0a [f] ++ (a0a l).drop i) = a0a (a2D l i f) := by simp [a0a, a2D, List.map_take, List.map_drop]
theorem a3E {w : World} {b : Nat} {cs : Array Value} {ty : Nat} {n : Nat} (h : w.heap[b]? = some (.cells cs ty (0, 0))) : ∀ (j : Nat) v, (cs.toList.take n)[j]? = some v -> w.cell? ⟨b, j, none⟩ = some v := by
 intro j v hj
 rw [World.cell_of h]
 rw [List.getElem?_take] at hj
 split at hj
 ·simpa using hj
 ·cases hj
theorem b4E {L olds news R : List Value} {i n : Nat} (hLl : (n + 1) * 2 <= L.length) (ho : olds.length = n * 2) (hn : news.length = 2) (hi : i <= n) (hL : L.take (i * 2) = olds.take (i * 2)) :
  (((L.take ((i + 1) * 2) ++ (olds.drop (i * 2) ++ R)).take (i * 2)) ++ (news ++ ((L.take ((i + 1) * 2) ++ (olds.drop (i * 2) ++ R)).drop (i * 2 + news.length)))).take ((n + 1) * 2) = olds.take (i * 2) ++ (news ++ olds.drop (i * 2)) := by
 have hl : (L.take ((i + 1) * 2)).length = (i + 1) * 2 := by rw [List.length_take]; omega
 have a1 : (L.take ((i + 1) * 2) ++ (olds.drop (i * 2) ++ R)).take (i * 2) = olds.take (i * 2) := by rw [List.take_append_of_le_length (by omega), List.take_take, Nat.min_eq_left (by omega), hL]
 have a2 : (L.take ((i + 1) * 2) ++ (olds.drop (i * 2) ++ R)).drop (i * 2 + news.length) = olds.drop (i * 2) ++ R := List.drop_left' (by omega)
 rw [a1, a2]
 rw [show olds.take (i * 2) ++ (news ++ (olds.drop (i * 2) ++ R)) = (olds.take (i * 2) ++ (news ++ olds.drop (i * 2))) ++ R by simp]
 exact List.take_left' (by simp only [List.length_append, List.length_take, List.length_drop]; omega)
theorem b2E {L olds news R : List Value} {i n m : Nat} (hLl : (n + 1) * 2 <= L.length) (ho : olds.length = n * 2) (hn : news.length = 2) (hi : i <= n) (hL : L.take (i * 2) = olds.take (i * 2)) :
  (((L.take (i * 2) ++ (news ++ L.drop m)).take ((i + 1) * 2)) ++ (olds.drop (i * 2) ++ R)).take ((n + 1) * 2) = olds.take (i * 2) ++ (news ++ olds.drop (i * 2)) := by
 have hl : (L.take (i * 2)).length = i * 2 := by rw [List.length_take]; omega
 have a1 : (L.take (i * 2) ++ (news ++ L.drop m)).take ((i + 1) * 2) = olds.take (i * 2) ++ news := by
  rw [<- List.append_assoc, hL]
  rw [hL] at hl
  exact List.take_left' (by rw [List.length_append]; omega)
 rw [a1]
 rw [show (olds.take (i * 2) ++ news) ++ (olds.drop (i * 2) ++ R) = (olds.take (i * 2) ++ (news ++ olds.drop (i * 2))) ++ R by simp]
 exact List.take_left' (by simp only [List.length_append, List.length_take, List.length_drop]; omega)
def cInsF : Con := { A := List FileD × Nat × FileD, X := Unit, n := 95, args := fun a => [.own 0 2 (a0a a.1), .int .i64 a.2.1, .own 1 2 (a0a [a.2.2])], boxes := fun _ => [], pre := fun a => a.2.1 <= a.1.length /\ a.1.length <= 1048576, post := fun _ _ => True, res := fun a _ => .own 8 2 (a0a (a2D a.1 a.2.1 a.2.2)), fin := fun a _ => [(8, .own 99 2 true (a0a (a2D a.1 a.2.1 a.2.2)))], owns := fun a => [(0, 99, 2, a0a a.1), (1, 99, 2, a0a [a.2.2])], mv := true }
theorem c6E : Has Tryz.prog 168 cInsF := by
 refine ⟨fun args w => Go.MuLone.run_callFunc_enter Tryz.func168 (by kernel_rfl) rfl args w, fun _ => ⟨(), trivial⟩, fun _ _ => rfl, ?_, trivial, .inl rfl⟩
 rintro ⟨l, i, f⟩ ⟨h1, h2⟩ c _ vs β fp hn hpin hlen hlen2 S
 replace h1 : i <= l.length := h1
 replace h2 : l.length <= 1048576 := h2
 have hp : c.pins = [] := hpin
 have hr := a4Z hlen S
 obtain ⟨v0, vs1, rfl, r0, hr⟩ := hr.uncons
 obtain ⟨v1, vs2, rfl, r1, hr⟩ := hr.uncons
 obtain ⟨v2, vs3, rfl, r2, hr⟩ := hr.uncons
 cases hr
 have m0 : (cInsF.start2 (l, i, f)).m 0 = some (.own 99 2 true (a0a l)) := rfl
 have m1 : (cInsF.start2 (l, i, f)).m 1 = some (.own 99 2 true (a0a [f])) := rfl
 have m8 : (cInsF.start2 (l, i, f)).m 8 = none := rfl
 have e0 : v0 = β 0 := by cases r0 with | own _ _ h3 _ => exact (h3 _ _ _ _ m0).1
 have e2 : v2 = β 1 := by cases r2 with | own _ _ h3 _ => exact (h3 _ _ _ _ m1).1
 have e1 : v1 = .int .i64 i := by cases r1; rfl
 subst e1
 obtain ⟨_, hR1, B1⟩ := S.mem 1 _ m1
 rcases B1 with ⟨_, hc, _⟩ | ⟨b1, cap1, cs1, f1, q1, q2, q3, q4, q5, q6, q7, _⟩
 ·simp [a0a] at hc
 have q7 := q7 rfl
 have hl1 : (a0a [f]).length = 1 := rfl
 rw [hl1] at q1 q3 q6
 have hm1 : (a0a [f]).flatten = a0k f := by simp [a0a]
 have fin : ∀ {v' : Value} {w' : World}, (∃ β' fp' a', SatI c ⟨fun _ => none, get? [(8, .own 99 2 true (a0a (a2D l i f)))]⟩ a' w' β' fp' /\ RelL w' (get? [(8, .own 99 2 true (a0a (a2D l i f)))]) β' c [.own 8 2 (a0a (a2D l i f))] [v']) ->
   ∃ x, cInsF.post (l, i, f) x /\ ∃ v, Ending.returned v' = Ending.returned v /\ ∃ β' fp' a', SatI c (cInsF.end_ (l, i, f) x) a' w' β' fp' /\ RelL w' (get? (cInsF.fin (l, i, f) x)) β' c [cInsF.res (l, i, f) x] [v] :=
  fun ⟨β', fp', a', g1, g2⟩ => ⟨(), trivial, _, rfl, β', fp', a', g1, g2⟩
 by_cases hin : i = l.length
 ·-- at the end
  have hap := b3u (P := Tryz.prog) a0f S (ty := 85) (d := 8) (K := fun av m => av = .own 8 2 (a0a l ++ a0a [f]) /\ m 8 = some (.own 99 2 true (a0a l ++ a0a [f]))) (t := 85) (t2 := 85) r0 r2 (by
   simp -implicitDefEqProofs [cInsF, apnd, tTab, a0M, AV.base, AV.moved, m0, m1, m8, TI.flat, a5X]
   omega)
  obtain ⟨v', w', av, m, β', fp', g1, ⟨rfl, hm8⟩, g3, g4⟩ := hap
  have hins : a0a l ++ a0a [f] = a0a (a2D l i f) := by subst hin; simp [a0a, a2D]
  have hlast := c8I g3 hp (e := 99) (k := 2) (R := a0a l ++ a0a [f]) hm8
  obtain ⟨a', s1, s2⟩ := hlast
  have hv : v' = β' 8 := by cases g4 with | own _ _ h3 _ => exact (h3 99 2 true (a0a l ++ a0a [f]) hm8).1
  rw [<- hv] at s2
  rw [hins] at s1 s2
  have hcall : Calls Tryz.prog 168 #[v0, .int .i64 i, v2] c.w0 fun e w1 => e = .returned v' /\ w1 = w' := by
   obtain ⟨_, _, B0⟩ := S.mem 0 _ m0
   subst hin
   rcases B0 with ⟨p1, p2, p3⟩ | ⟨b, cap, cs, f0, p1, p2, p3, p4, p5, p6, p7, _⟩
   ·have : l = [] := by cases l with | nil => rfl | cons => simp [a0a] at p2
    subst this
    exact b6O v0 v2 none 0 0 b1 1 cap1 c.w0 w' v' (by omega) (by rw [e0, p1]) (by omega) (by simp) (by rw [e2, q1]) g1
   ·rw [eFiles_length] at p1 p3
    exact b6O v0 v2 (some ⟨b, 0, none⟩) l.length cap b1 1 cap1 c.w0 w' v' (by omega) (by rw [e0, p1]) p3 (by simp) (by rw [e2, q1]) g1
  refine hcall.mono ?_
  rintro e w1 ⟨rfl, rfl⟩
  exact fin ⟨β', fp', a', s1, s2⟩
 ·have hlt : i < l.length := by omega
  obtain ⟨_, hR0, B0⟩ := S.mem 0 _ m0
  rcases B0 with ⟨_, p2, _⟩ | ⟨b, cap, cs, f0, p1, p2, p3, p4, p5, p6, p7, _⟩
  ·exfalso
   have : l.length = 0 := by rw [<- eFiles_length, p2]; rfl
   omega
  have p7 := p7 rfl
  rw [eFiles_length] at p1 p3 p6
  have hcsl : cs.toList.length = cap * 2 := by rw [Array.length_toList, p5]
  have hcsl1 : cs1.toList.length = cap1 * 2 := by rw [Array.length_toList, q5]
  have hcl : (cs.toList.take (l.length * 2)).length = l.length * 2 := by rw [List.length_take, hcsl]; omega
  have hvl : (cs1.toList.take (1 * 2)).length = 1 * 2 := by rw [List.length_take, hcsl1]; omega
  have hvb : b1 ≠ b := fun e => S.disj 0 1 _ _ m0 m1 (by decide) b (by simp [Ob, p1]) (by simp [Ob, q1, e])
  have hI := fun {w' : World} {b' cap' : Nat} {cs' : Array Value} hblk hcap hmax hsz hcells hb' hother hsize hos htape hout =>
   b9x (w' := w') (b' := b') (cap' := cap') (cs' := cs') (i := i) S hp m0 m1 (by rw [eFiles_length]; exact h1) (by rw [p7]; exact p6) (by rw [q7]; exact q6) hblk hcap hmax hsz hcells hb' hother hsize hos htape hout
  rw [eFiles_length, hl1] at hI
  rw [d1z] at hI
  have hother0 : ∀ x, (∀ n cc, β 0 ≠ .slice (some ⟨x, 0, none⟩) n cc) -> x ≠ b := fun x h e => h l.length cap (by rw [e]; exact p1)
  by_cases hroom : l.length + 1 <= cap
  ·have hcall := c0U b l.length cap i b1 1 cap1 (cs.toList.take (l.length * 2)) (cs1.toList.take (1 * 2)) c.w0 hlt (by omega) hroom (by unfold maxLen at p4; omega) hvb hcl hvl (a3E p2)
    (fun j hj => by rw [World.cell_of p2, Array.getElem?_eq_getElem (show j < cs.size by omega)]; rfl) (fun j hj => by simp [World.frozen?, p2]) (a3E q2) p6.oneCell q6.oneCell
    _ _ _ _ (by simp [World.shape?, q2]; exact ⟨rfl, rfl⟩) (by simp [World.shape?, p2]; exact ⟨rfl, rfl⟩) (by rw [p5]; omega) (by simp [World.frozen?, q2]) (by simp [World.frozen?, q2])
   rw [e0, e2, p1, q1]
   refine hcall.mono ?_
   rintro e w' ⟨rfl, rfl⟩
   have hcs : cs = cs.toList.toArray := by simp
   have hb0 : c.w0.drew.heap[b]? = some (.cells cs.toList.toArray 99 (0, 0)) := by rw [<- hcs]; exact p2
   have hdl : ((cs.toList.take (l.length * 2)).drop (i * 2)).length = (l.length - i) * 2 := by rw [List.length_drop, hcl]; omega
   obtain ⟨z1, z2, z3, z4, z5, z6⟩ := a1q b ((cs.toList.take (l.length * 2)).drop (i * 2)) ((i + 1) * 2) c.w0.drew cs.toList _ _ hb0 (by rw [hdl, hcsl]; omega)
   obtain ⟨y1, y2, y3, y4, y5, y6⟩ := a1q b (cs1.toList.take (1 * 2)) (i * 2) _ _ _ _ z1 (by rw [hvl]; simp; omega)
   refine fin (hI y1 hroom p4 ?_ ?_ (.inr ⟨_, _, p1⟩) (fun x _ hx => (y2 x (hother0 x hx)).trans (z2 x (hother0 x hx))) ?_ (y4.trans z4) (y5.trans z5) (y6.trans z6))
   ·simp only [List.size_toArray]; simp; omega
   ·rw [List.toList_toArray]
    exact b4E (by omega) hcl (by simpa using hvl) h1 (by rw [List.take_take, Nat.min_eq_left (by omega)])
   ·rw [y3, z3]; exact Nat.le_refl _
  ·have hcall := c3G b l.length cap i b1 1 cap1 (cs.toList.take (l.length * 2)) (cs1.toList.take (1 * 2)) c.w0 hlt (by omega) p3 (by omega) (by omega) hcl hvl (a3E p2) (a3E q2) p6.oneCell q6.oneCell
   rw [e0, e2, p1, q1]
   refine hcall.mono ?_
   rintro e w' ⟨rfl, rfl⟩
   have hGn : l.length + 1 <= grownCap c.w0 (l.length + 1) cap 99 := grownCap_ge c.w0 _ _ _
   have hGm := grownCap_le_maxLen c.w0 (l.length + 1) cap 99 (by unfold maxLen; omega)
   generalize grownCap c.w0 (l.length + 1) cap 99 = G at hGn hGm ⊢
   generalize hrow : ((cs.toList.take (l.length * 2)).take (i * 2)).toArray ++ Builtin.zeroCells #[.string ⟨#[]⟩, .slice none 0 0] (l.length + 1 - i) ++ Builtin.zeroCells #[.string ⟨#[]⟩, .slice none 0 0] (G - (l.length + 1)) = ROW
   have hrl : ROW.size = G * 2 := by
    rw [<- hrow]
    simp [Builtin.zeroCells]
    omega
   have hrt : ROW.toList.take (i * 2) = (cs.toList.take (l.length * 2)).take (i * 2) := by
    rw [<- hrow]
    simp only [Array.toList_append, List.append_assoc]
    rw [List.take_left' (by rw [List.length_take, hcl]; omega)]
   have hrl2 : ROW.toList.length = G * 2 := by rw [Array.length_toList, hrl]
   have hb0 : (c.w0.alloc (.cells ROW 99)).drew.heap[c.w0.heap.size]? = some (.cells ROW.toList.toArray 99 (0, 0)) := by
    have : ROW = ROW.toList.toArray := by simp
    rw [<- this]
    exact heap_alloc_new c.w0 _
   have hdl : ((cs.toList.take (l.length * 2)).drop (i * 2)).length = (l.length - i) * 2 := by rw [List.length_drop, hcl]; omega
   obtain ⟨z1, z2, z3, z4, z5, z6⟩ := a1q c.w0.heap.size (cs1.toList.take (1 * 2)) (i * 2) (c.w0.alloc (.cells ROW 99)).drew ROW.toList _ _ hb0 (by rw [hvl, hrl2]; omega)
   obtain ⟨y1, y2, y3, y4, y5, y6⟩ := a1q c.w0.heap.size ((cs.toList.take (l.length * 2)).drop (i * 2)) ((i + 1) * 2) ((c.w0.alloc (.cells ROW 99)).drew.setCells c.w0.heap.size (i * 2) (cs1.toList.take (1 * 2))).drew _ _ _ z1 (by
    rw [hdl]
    simp only [List.length_append, List.length_take, List.length_drop, hrl2, hcsl1]
    omega)
   refine fin (hI y1 hGn hGm ?_ ?_ (.inl (Nat.le_refl _)) (fun x hx _ => (y2 x (by omega)).trans ((z2 x (by omega)).trans (heap_alloc_old c.w0 _ hx))) ?_ (y4.trans z4) (y5.trans z5) (y6.trans z6))
   ·simp only [List.size_toArray, List.length_append, List.length_take, List.length_drop, hrl2, hcsl1, hcsl]
    omega
   ·rw [List.toList_toArray]
    exact b2E (by omega) hcl (by simpa using hvl) h1 hrt
   ·rw [y3]
    show _ <= (World.setCells _ _ _ _).heap.size
    rw [z3]
    show _ <= (c.w0.alloc _).heap.size
    simp
end Vx
end Go.Proofs.YtonkagjdfpacmaaGreatDoor
namespace Go.Proofs.YtonkagjdfpacmaaGreatDoor
set_option maxHeartbeats 4000000
namespace Vx
open Go.RowKit Go.Lib
set_option maxRecDepth 100000 in
theorem c0V (b n c i vb m vc : Nat) (cs vs : List Value) (w : World) (hi : i < n) (hm : 0 < m) (hroom : n + m <= c) (hc63 : c <= 9223372036854775807) (hvb : vb ≠ b)
  (hcl : cs.length = n * 2) (hvl : vs.length = m * 2)
  (hcs : ∀ (j : Nat) v, cs[j]? = some v -> w.cell? ⟨b, j, none⟩ = some v) (hsp : ∀ j, j < (n + m) * 2 -> (w.cell? ⟨b, j, none⟩).isSome = true) (hfz : ∀ j, j < (n + m) * 2 -> w.frozen? ⟨b, j, none⟩ = false)
  (hvs : ∀ (j : Nat) v, vs[j]? = some v -> w.cell? ⟨vb, j, none⟩ = some v) (h1c : ∀ v ∈ cs, v.oneCell' = true) (h1v : ∀ v ∈ vs, v.oneCell' = true)
  (tA tB : TypeId) (kA kB : Nat) (hsa : w.shape? vb = some (tA, kA)) (hsb : w.shape? b = some (tB, kB)) (hkB : kB ≠ 0) (hfa : w.frozen? ⟨vb, 0, none⟩ = false) (hfe : w.frozen? ⟨vb, kA, none⟩ = false) :
  Calls Tryz.prog 198 #[.slice (some ⟨b, 0, none⟩) n c, .int .i64 i, .slice (some ⟨vb, 0, none⟩) m vc] w fun e w' =>
   e = .returned (.slice (some ⟨b, 0, none⟩) (n + m) c) /\ w' = (w.drew.setCells b ((i + m) * 2) (cs.drop (i * 2))).setCells b (i * 2) vs := by
 have hz1 : ¬ ((m : Int) = 0) := by omega
 have hz2 : ¬ ((i : Int) = (n : Int)) := by omega
 have hsz : (Tryz.prog.info? 89).map (·.size) = some 2 := by kernel_rfl
 have hov : ∀ lb cb, (callFunc 221 #[.slice (some ⟨vb, 0, none⟩) m vc, .slice (some ⟨b, (i + m) * 2, none⟩) lb cb]).run Tryz.prog w = .ok (.value (.bool false)) w := fun lb cb => by
  rw [run_callFunc_extern Tryz.func221 (by kernel_rfl) (by kernel_rfl) (by kernel_rfl) (e := Extern.SlicesOverlaps.overlaps #[25, 25] #[4]) (by kernel_rfl),
   Lib.run_overlaps_apart w 25 4 89 Tryz.underlying25 2 Tryz.sizeOf89 ⟨vb, 0, none⟩ ⟨b, (i + m) * 2, none⟩ m vc lb cb hvb tA tB kA kB hsa hsb hkB hfa hfe]
  rfl
 have hdl : (cs.drop (i * 2)).length = (n - i) * 2 := by rw [List.length_drop, hcl]; omega
 have mixed : Tryz.prog.follows .mixedOrders = true := mixed
 have hw1 : IntKind.i64.wrap ((i : Int) + (m : Int)) = (i : Int) + (m : Int) := by rw [IntKind.wrap_i64]; omega
 have hb1 : (0 : Int) <= (i : Int) + (m : Int) := by omega
 have hin : i <= n := by omega
 have htn : ((i : Int) + (m : Int)).toNat = i + m := by omega
 have hb2 : ¬ (c = i + m) := by omega
 have hb3 : (i : Int) <= (n : Int) + (m : Int) := by omega
 have hb4 : ¬ (c = i) := by omega
 have hcp1 : ∀ ty dc sc, (Builtin.copy_ #[25, 25] ty #[.slice (some ⟨b, (i + m) * 2, none⟩) (n + m - (i + m)) dc, .slice (some ⟨b, i * 2, none⟩) (n + m - i) sc]).run Tryz.prog w.drew = .ok (goInt (Nat.min (n + m - i) (n + m - (i + m)))) (w.drew.setCells b ((i + m) * 2) (cs.drop (i * 2))) := fun ty dc sc =>
  a1K 2 w.drew _ _ ty 89 b ((i + m) * 2) (n + m - (i + m)) dc ⟨b, i * 2, none⟩ (n + m - i) sc (cs.drop (i * 2)) Tryz.underlying25 hsz (by rw [hdl]; simp only [Nat.min_def]; split <;> omega)
   (fun j v hj => by rw [Addr.add_lit]; exact hcs (i * 2 + j) v (by rwa [List.getElem?_drop] at hj))
   (fun j hj => hsp _ (by omega)) (fun j hj => hfz _ (by omega)) (fun v hv => h1c v (List.mem_of_mem_drop hv))
 obtain ⟨W1, hW1⟩ : ∃ W1, W1 = w.drew.setCells b ((i + m) * 2) (cs.drop (i * 2)) := ⟨_, rfl⟩
 have hsp1 : ∀ k, k < (n + m) * 2 -> (W1.cell? ⟨b, k, none⟩).isSome = true := fun k hk => by
  rw [hW1]
  exact a3H b (cs.drop (i * 2)) ((i + m) * 2) w.drew (fun j hj => hsp _ (by omega)) _ (hsp k hk)
 have hcp2 : ∀ (W : World), (∀ x, W.cell? x = W1.cell? x) -> (∀ x, W.frozen? x = W1.frozen? x) -> ∀ ty dc, (Builtin.copy_ #[25, 25] ty #[.slice (some ⟨b, i * 2, none⟩) (n + m - i) dc, .slice (some ⟨vb, 0, none⟩) m vc]).run Tryz.prog W = .ok (goInt (Nat.min m (n + m - i))) (W.setCells b (i * 2) vs) := fun W hWc hWf ty dc =>
  a1K 2 W _ _ ty 89 b (i * 2) (n + m - i) dc ⟨vb, 0, none⟩ m vc vs Tryz.underlying25 hsz (by rw [hvl]; simp only [Nat.min_def]; split <;> omega)
   (fun j v hj => by
    rw [Addr.add_lit, Nat.zero_add, hWc, hW1, World.cell?_setCells_out b _ _ _ _ (fun h _ => absurd h hvb)]
    exact hvs j v hj)
   (fun j hj => by rw [hWc]; exact hsp1 _ (by omega)) (fun j hj => by rw [hWf, hW1, World.frozen?_setCells]; exact hfz _ (by omega)) h1v
 rw [<- hW1] at hcp1
 go_enter Tryz.func198, Tryz.ntmps198
 go_wp2_with (simp only [hov])
 go_region_law_o (refine step_copy_runI rfl _ _ 25 25 rfl _ _ (by simp [Act.eval, Act.put]) (by simp [Act.eval, Act.put]) (hcp1 _ _ _) ?_)
 go_wp2_with (at_builtin; refine wpList_copy_runI _ rfl _ _ 25 25 rfl _ _ rfl rfl (hcp2 _ (fun _ => rfl) (fun _ => rfl) _ _) ?_)
 go_ret
 first | exact ⟨rfl, rfl⟩ | exact ⟨rfl, by rw [hW1]⟩
set_option maxRecDepth 100000 in
theorem b6P (v1 v2 : Value) (base : Option Addr) (n c vb m vc : Nat) (w w' : World) (v' : Value) (hm : 0 < m) (h1 : v1 = .slice base n c) (hn : n <= c) (hb : base = none -> c = 0) (h2 : v2 = .slice (some ⟨vb, 0, none⟩) m vc)
  (hrun : (Builtin.append_ #[25, 25] 25 #[v1, v2]).run Tryz.prog w = .ok v' w') :
  Calls Tryz.prog 198 #[v1, .int .i64 n, v2] w fun e w1 => e = .returned v' /\ w1 = w' := by
 subst h1 h2
 have hz1 : ¬ ((m : Int) = 0) := by omega
 have mixed : Tryz.prog.follows .mixedOrders = true := mixed
 go_enter Tryz.func198, Tryz.ntmps198
 cases base with
 | none =>
  have h0 := hb rfl
  have h00 : n = 0 := by omega
  subst h0 h00
  go_wp2_with (at_builtin; refine Lib.wpList_append_run _ rfl _ _ _ _ rfl _ _ rfl rfl _ _ hrun ?_)
  go_ret
  exact ⟨rfl, rfl⟩
 | some a =>
  obtain ⟨ab, ao, asp⟩ := a
  go_wp2_with (at_builtin; refine Lib.wpList_append_run _ rfl _ _ _ _ rfl _ _ rfl rfl _ _ hrun ?_)
  all_goals (go_ret; exact ⟨rfl, rfl⟩)
set_option maxRecDepth 100000 in
theorem c3H (b n c i vb m vc : Nat) (cs vs : List Value) (w : World) (hi : i < n) (hm : 0 < m) (hnc : n <= c) (hroom : c < n + m) (hbig : (n + m) * 24 <= 140737488355328)
  (hcl : cs.length = n * 2) (hvl : vs.length = m * 2)
  (hcs : ∀ (j : Nat) v, cs[j]? = some v -> w.cell? ⟨b, j, none⟩ = some v)
  (hvs : ∀ (j : Nat) v, vs[j]? = some v -> w.cell? ⟨vb, j, none⟩ = some v) (h1c : ∀ v ∈ cs, v.oneCell' = true) (h1v : ∀ v ∈ vs, v.oneCell' = true) :
  Calls Tryz.prog 198 #[.slice (some ⟨b, 0, none⟩) n c, .int .i64 i, .slice (some ⟨vb, 0, none⟩) m vc] w fun e w' =>
   e = .returned (.slice (some ⟨w.heap.size, 0, none⟩) (n + m) (grownCap w (n + m) c 89)) /\
   w' = (((w.alloc (.cells ((cs.take (i * 2)).toArray ++ Builtin.zeroCells #[.string ⟨#[]⟩, .int .i64 0] (n + m - i) ++ Builtin.zeroCells #[.string ⟨#[]⟩, .int .i64 0] (grownCap w (n + m) c 89 - (n + m))) 89)).drew.setCells w.heap.size (i * 2) vs).drew).setCells w.heap.size ((i + m) * 2) (cs.drop (i * 2)) := by
 have mixed : Tryz.prog.follows .mixedOrders = true := mixed
 obtain ⟨i0, hi0, hz0, hzs, hzb⟩ : ∃ i0, Tryz.prog.info? 89 = some i0 /\ i0.zero = some (.agg #[.string ⟨#[]⟩, .int .i64 0]) /\ i0.size = 2 /\ i0.bytes = 24 :=
  info_parts (show (Tryz.prog.info? 89).map (fun i => (i.zero, i.size, i.bytes)) = some (some (.agg #[.string ⟨#[]⟩, .int .i64 0]), 2, 24) by kernel_rfl)
 have hz1 : ¬ ((m : Int) = 0) := by omega
 have hz2 : ¬ ((i : Int) = (n : Int)) := by omega
 have hz3 : (c : Int) < (n : Int) + (m : Int) := by omega
 have hsz : (Tryz.prog.info? 89).map (·.size) = some 2 := by rw [hi0]; simp [hzs]
 have hbw : b < w.heap.size := block_lt_of_cell (hcs 0 _ (List.getElem?_eq_getElem (by omega)))
 have hvw : vb < w.heap.size := block_lt_of_cell (hvs 0 _ (List.getElem?_eq_getElem (by omega)))
 have hkk : (n : Int) + (m : Int) - (i : Int) = ((n + m - i : Nat) : Int) := by omega
 have hik : i + (n + m - i) = n + m := by omega
 have hold : (Builtin.firstCells i0.size i (.slice (some ⟨b, 0, none⟩) i c)).run Tryz.prog w.drew = .ok (cs.take (i * 2)).toArray w.drew := by
  rw [hzs]
  exact run_firstCells_some w.drew 2 i ⟨b, 0, none⟩ i c (cs.take (i * 2)) (by rw [List.length_take]; omega) (fun j v hj => by
   rw [Addr.add_lit]
   rw [List.getElem?_take] at hj
   split at hj
   ·rw [Nat.zero_add]; exact hcs j v hj
   ·cases hj)
 have hrz : ∀ ty, (Builtin.append_ #[25, 3] ty #[.slice (some ⟨b, 0, none⟩) i c, .int .i64 ((n : Int) + (m : Int) - (i : Int))]).run Tryz.prog w =
   .ok (.slice (some ⟨w.heap.size, 0, none⟩) (n + m) (grownCap w (n + m) c 89)) (w.drew.alloc (.cells ((cs.take (i * 2)).toArray ++ Builtin.zeroCells #[.string ⟨#[]⟩, .int .i64 0] (n + m - i) ++ Builtin.zeroCells #[.string ⟨#[]⟩, .int .i64 0] (grownCap w (n + m) c 89 - (n + m))) 89)) := fun ty => by
  have h := Lib.run_append_grow_zeros w 25 3 ty 89 i0 _ .i64 .i64 Tryz.underlying25 Tryz.underlying3 hi0 hz0 (some ⟨b, 0, none⟩) i c (cs.take (i * 2)) hold (n + m - i) (by omega) (by omega) (by omega) (by omega) (by rw [hzb]; omega) (by rw [hzb, hik]; exact growslice_fits hroom hbig)
  rw [hik] at h
  rw [hkk]
  exact h
 obtain ⟨G, hG⟩ : ∃ G, G = grownCap w (n + m) c 89 := ⟨_, rfl⟩
 obtain ⟨ROW, hROW⟩ : ∃ ROW : Array Value, ROW = (cs.take (i * 2)).toArray ++ Builtin.zeroCells #[.string ⟨#[]⟩, .int .i64 0] (n + m - i) ++ Builtin.zeroCells #[.string ⟨#[]⟩, .int .i64 0] (G - (n + m)) := ⟨_, rfl⟩
 rw [<- hG] at hrz ⊢
 rw [<- hROW] at hrz ⊢
 have hRl : (n + m) * 2 <= ROW.size := by
  rw [hROW]
  simp [Builtin.zeroCells]
  omega
 obtain ⟨W1, hW1⟩ : ∃ W1, W1 = w.drew.alloc (.cells ROW 89) := ⟨_, rfl⟩
 rw [<- hW1] at hrz
 have hN : ∀ j, j < (n + m) * 2 -> (W1.cell? ⟨w.heap.size, j, none⟩).isSome = true := fun j hj => by
  rw [hW1, World.cell?_alloc_at (w := w.drew) ROW _ w.heap.size j rfl, Array.getElem?_eq_getElem (by omega)]; rfl
 have hNf : ∀ j, W1.frozen? ⟨w.heap.size, j, none⟩ = false := fun j => by rw [hW1]; exact World.frozen?_alloc_at (w := w.drew) ROW _ w.heap.size j rfl
 have hOb : ∀ j v, w.cell? ⟨b, j, none⟩ = some v -> W1.cell? ⟨b, j, none⟩ = some v := fun j v h => by rw [hW1, World.cell?_alloc_past (w := w.drew) _ b j hbw]; exact h
 have hOv : ∀ j v, w.cell? ⟨vb, j, none⟩ = some v -> W1.cell? ⟨vb, j, none⟩ = some v := fun j v h => by rw [hW1, World.cell?_alloc_past (w := w.drew) _ vb j hvw]; exact h
 have hcpA : ∀ (W : World), (∀ x, W.cell? x = W1.cell? x) -> (∀ x, W.frozen? x = W1.frozen? x) -> ∀ ty dc, (Builtin.copy_ #[25, 25] ty #[.slice (some ⟨w.heap.size, i * 2, none⟩) (n + m - i) dc, .slice (some ⟨vb, 0, none⟩) m vc]).run Tryz.prog W = .ok (goInt (Nat.min m (n + m - i))) (W.setCells w.heap.size (i * 2) vs) := fun W hWc hWf ty dc =>
  a1K 2 W _ _ ty 89 w.heap.size (i * 2) (n + m - i) dc ⟨vb, 0, none⟩ m vc vs Tryz.underlying25 hsz (by rw [hvl]; simp only [Nat.min_def]; split <;> omega)
   (fun j v hj => by rw [Addr.add_lit, Nat.zero_add, hWc]; exact hOv _ v (hvs j v hj))
   (fun j hj => by rw [hWc]; exact hN _ (by omega)) (fun j hj => by rw [hWf]; exact hNf _) h1v
 have hGn : n + m <= G := by rw [hG]; exact grownCap_ge w _ _ _
 have hG63 : G <= 9223372036854775807 := by
  have := grownCap_le_maxLen w (n + m) c 89 (by unfold maxLen; omega)
  rw [<- hG] at this
  unfold maxLen at this
  omega
 have hGi : ¬ (G = i) := by omega
 have hGim : ¬ (G = i + m) := by omega
 have hci : ¬ (c = i) := by omega
 have hbN : b ≠ w.heap.size := by omega
 have hdl : (cs.drop (i * 2)).length = (n - i) * 2 := by rw [List.length_drop, hcl]; omega
 have hcpB : ∀ (W : World), (∀ x, W.cell? x = (W1.setCells w.heap.size (i * 2) vs).cell? x) -> (∀ x, W.frozen? x = (W1.setCells w.heap.size (i * 2) vs).frozen? x) -> ∀ ty dc sc, (Builtin.copy_ #[25, 25] ty #[.slice (some ⟨w.heap.size, (i + m) * 2, none⟩) (n + m - (i + m)) dc, .slice (some ⟨b, i * 2, none⟩) (n - i) sc]).run Tryz.prog W = .ok (goInt (Nat.min (n - i) (n + m - (i + m)))) (W.setCells w.heap.size ((i + m) * 2) (cs.drop (i * 2))) := fun W hWc hWf ty dc sc =>
  a1K 2 W _ _ ty 89 w.heap.size ((i + m) * 2) (n + m - (i + m)) dc ⟨b, i * 2, none⟩ (n - i) sc (cs.drop (i * 2)) Tryz.underlying25 hsz (by rw [hdl]; simp only [Nat.min_def]; split <;> omega)
   (fun j v hj => by
    rw [Addr.add_lit, hWc, World.cell?_setCells_out _ _ _ _ _ (fun h _ => absurd h hbN)]
    exact hOb _ v (hcs (i * 2 + j) v (by rwa [List.getElem?_drop] at hj)))
   (fun j hj => by rw [hWc]; exact a3H w.heap.size vs (i * 2) W1 (fun t ht => hN _ (by omega)) _ (hN _ (by omega)))
   (fun j hj => by rw [hWf, World.frozen?_setCells]; exact hNf _) (fun v hv => h1c v (List.mem_of_mem_drop hv))
 subst hW1
 have hE1 : ∀ x, ((w.alloc (.cells ROW 89)).drew).cell? x = (w.drew.alloc (.cells ROW 89)).cell? x := fun x => rfl
 have hE2 : ∀ x, ((w.alloc (.cells ROW 89)).drew).frozen? x = (w.drew.alloc (.cells ROW 89)).frozen? x := fun x => rfl
 have hF1 : ∀ x, (((w.alloc (.cells ROW 89)).drew.setCells w.heap.size (i * 2) vs).drew).cell? x = ((w.drew.alloc (.cells ROW 89)).setCells w.heap.size (i * 2) vs).cell? x := fun x => rfl
 have hF2 : ∀ x, (((w.alloc (.cells ROW 89)).drew.setCells w.heap.size (i * 2) vs).drew).frozen? x = ((w.drew.alloc (.cells ROW 89)).setCells w.heap.size (i * 2) vs).frozen? x := fun x => rfl
 have hw1 : IntKind.i64.wrap ((i : Int) + (m : Int)) = (i : Int) + (m : Int) := by rw [IntKind.wrap_i64]; omega
 have hb1 : (0 : Int) <= (i : Int) + (m : Int) := by omega
 have hin : i <= n := by omega
 have htn : ((i : Int) + (m : Int)).toNat = i + m := by omega
 have hb3 : (i : Int) <= (n : Int) := by omega
 clear hkk hik hold hROW hG hRl
 go_enter Tryz.func198, Tryz.ntmps198
 go_wp2_with (first
  | (at_builtin; refine Lib.wpList_append_run _ rfl _ _ _ _ rfl _ _ rfl rfl _ _ (hrz _) ?_)
  | (at_builtin; refine wpList_copy_runI _ rfl _ _ 25 25 rfl _ _ rfl rfl (hcpA _ hE1 hE2 _ _) ?_)
  | (at_builtin; refine wpList_copy_runI _ rfl _ _ 25 25 rfl _ _ rfl rfl (hcpB _ (fun _ => rfl) (fun _ => rfl) _ _ _) ?_))
 go_region_law_o (refine step_copy_runI rfl _ _ 25 25 rfl (.slice (some ⟨w.heap.size, (i + m) * 2, none⟩) (n + m - (i + m)) (G - (i + m))) (.slice (some ⟨b, i * 2, none⟩) (n - i) (c - i)) (by simp [Act.eval, Act.put]) (by simp [Act.eval, Act.put]) (hcpB _ hF1 hF2 3 (G - (i + m)) (c - i)) ?_)
 go_wp2
 go_ret
 exact ⟨rfl, rfl⟩
def a1N (l : List HeadD) (i : Nat) (f : HeadD) : List HeadD := l.take i ++ (f :: l.drop i)
theorem d1A (l : List HeadD) (i : Nat) (f : HeadD) : (a0c l).take i ++ (a0c [f] ++ (a0c l).drop i) = a0c (a1N l i f) := by simp [a0c, a1N, List.map_take, List.map_drop]
def cInsH : Con := { A := List HeadD × Nat × HeadD, X := Unit, n := 95, args := fun a => [.own 0 2 (a0c a.1), .int .i64 a.2.1, .own 1 2 (a0c [a.2.2])], boxes := fun _ => [], pre := fun a => a.2.1 <= a.1.length /\ a.1.length <= 1048576, post := fun _ _ => True, res := fun a _ => .own 8 2 (a0c (a1N a.1 a.2.1 a.2.2)), fin := fun a _ => [(8, .own 89 2 true (a0c (a1N a.1 a.2.1 a.2.2)))], owns := fun a => [(0, 89, 2, a0c a.1), (1, 89, 2, a0c [a.2.2])], mv := true }
theorem c6F : Has Tryz.prog 198 cInsH := by
 refine ⟨fun args w => Go.MuLone.run_callFunc_enter Tryz.func198 (by kernel_rfl) rfl args w, fun _ => ⟨(), trivial⟩, fun _ _ => rfl, ?_, trivial, .inl rfl⟩
 rintro ⟨l, i, f⟩ ⟨h1, h2⟩ c _ vs β fp hn hpin hlen hlen2 S
 replace h1 : i <= l.length := h1
 replace h2 : l.length <= 1048576 := h2
 have hp : c.pins = [] := hpin
 have hr := a4Z hlen S
 obtain ⟨v0, vs1, rfl, r0, hr⟩ := hr.uncons
 obtain ⟨v1, vs2, rfl, r1, hr⟩ := hr.uncons
 obtain ⟨v2, vs3, rfl, r2, hr⟩ := hr.uncons
 cases hr
 have m0 : (cInsH.start2 (l, i, f)).m 0 = some (.own 89 2 true (a0c l)) := rfl
 have m1 : (cInsH.start2 (l, i, f)).m 1 = some (.own 89 2 true (a0c [f])) := rfl
 have m8 : (cInsH.start2 (l, i, f)).m 8 = none := rfl
 have e0 : v0 = β 0 := by cases r0 with | own _ _ h3 _ => exact (h3 _ _ _ _ m0).1
 have e2 : v2 = β 1 := by cases r2 with | own _ _ h3 _ => exact (h3 _ _ _ _ m1).1
 have e1 : v1 = .int .i64 i := by cases r1; rfl
 subst e1
 obtain ⟨_, hR1, B1⟩ := S.mem 1 _ m1
 rcases B1 with ⟨_, hc, _⟩ | ⟨b1, cap1, cs1, f1, q1, q2, q3, q4, q5, q6, q7, _⟩
 ·simp [a0c] at hc
 have q7 := q7 rfl
 have hl1 : (a0c [f]).length = 1 := rfl
 rw [hl1] at q1 q3 q6
 have hm1 : (a0c [f]).flatten = a1d f := by simp [a0c]
 have fin : ∀ {v' : Value} {w' : World}, (∃ β' fp' a', SatI c ⟨fun _ => none, get? [(8, .own 89 2 true (a0c (a1N l i f)))]⟩ a' w' β' fp' /\ RelL w' (get? [(8, .own 89 2 true (a0c (a1N l i f)))]) β' c [.own 8 2 (a0c (a1N l i f))] [v']) ->
   ∃ x, cInsH.post (l, i, f) x /\ ∃ v, Ending.returned v' = Ending.returned v /\ ∃ β' fp' a', SatI c (cInsH.end_ (l, i, f) x) a' w' β' fp' /\ RelL w' (get? (cInsH.fin (l, i, f) x)) β' c [cInsH.res (l, i, f) x] [v] :=
  fun ⟨β', fp', a', g1, g2⟩ => ⟨(), trivial, _, rfl, β', fp', a', g1, g2⟩
 by_cases hin : i = l.length
 ·-- at the end
  have hap := b3u (P := Tryz.prog) a0f S (ty := 25) (d := 8) (K := fun av m => av = .own 8 2 (a0c l ++ a0c [f]) /\ m 8 = some (.own 89 2 true (a0c l ++ a0c [f]))) (t := 25) (t2 := 25) r0 r2 (by
   simp -implicitDefEqProofs [cInsH, show a0c [f] = [a1d f] from rfl, a1d, a8T, a7q, apnd, tTab, a0M, AV.base, AV.moved, m0, m1, m8, TI.flat, a5X]
   omega)
  obtain ⟨v', w', av, m, β', fp', g1, ⟨rfl, hm8⟩, g3, g4⟩ := hap
  have hins : a0c l ++ a0c [f] = a0c (a1N l i f) := by subst hin; simp [a0c, a1N]
  have hlast := c8I g3 hp (e := 89) (k := 2) (R := a0c l ++ a0c [f]) hm8
  obtain ⟨a', s1, s2⟩ := hlast
  have hv : v' = β' 8 := by cases g4 with | own _ _ h3 _ => exact (h3 89 2 true (a0c l ++ a0c [f]) hm8).1
  rw [<- hv] at s2
  rw [hins] at s1 s2
  have hcall : Calls Tryz.prog 198 #[v0, .int .i64 i, v2] c.w0 fun e w1 => e = .returned v' /\ w1 = w' := by
   obtain ⟨_, _, B0⟩ := S.mem 0 _ m0
   subst hin
   rcases B0 with ⟨p1, p2, p3⟩ | ⟨b, cap, cs, f0, p1, p2, p3, p4, p5, p6, p7, _⟩
   ·have : l = [] := by cases l with | nil => rfl | cons => simp [a0c] at p2
    subst this
    exact b6P v0 v2 none 0 0 b1 1 cap1 c.w0 w' v' (by omega) (by rw [e0, p1]) (by omega) (by simp) (by rw [e2, q1]) g1
   ·rw [eHeads_length] at p1 p3
    exact b6P v0 v2 (some ⟨b, 0, none⟩) l.length cap b1 1 cap1 c.w0 w' v' (by omega) (by rw [e0, p1]) p3 (by simp) (by rw [e2, q1]) g1
  refine hcall.mono ?_
  rintro e w1 ⟨rfl, rfl⟩
  exact fin ⟨β', fp', a', s1, s2⟩
 ·have hlt : i < l.length := by omega
  obtain ⟨_, hR0, B0⟩ := S.mem 0 _ m0
  rcases B0 with ⟨_, p2, _⟩ | ⟨b, cap, cs, f0, p1, p2, p3, p4, p5, p6, p7, _⟩
  ·exfalso
   have : l.length = 0 := by rw [<- eHeads_length, p2]; rfl
   omega
  have p7 := p7 rfl
  rw [eHeads_length] at p1 p3 p6
  have hcsl : cs.toList.length = cap * 2 := by rw [Array.length_toList, p5]
  have hcsl1 : cs1.toList.length = cap1 * 2 := by rw [Array.length_toList, q5]
  have hcl : (cs.toList.take (l.length * 2)).length = l.length * 2 := by rw [List.length_take, hcsl]; omega
  have hvl : (cs1.toList.take (1 * 2)).length = 1 * 2 := by rw [List.length_take, hcsl1]; omega
  have hvb : b1 ≠ b := fun e => S.disj 0 1 _ _ m0 m1 (by decide) b (by simp [Ob, p1]) (by simp [Ob, q1, e])
  have hI := fun {w' : World} {b' cap' : Nat} {cs' : Array Value} hblk hcap hmax hsz hcells hb' hother hsize hos htape hout =>
   b9x (w' := w') (b' := b') (cap' := cap') (cs' := cs') (i := i) S hp m0 m1 (by rw [eHeads_length]; exact h1) (by rw [p7]; exact p6) (by rw [q7]; exact q6) hblk hcap hmax hsz hcells hb' hother hsize hos htape hout
  rw [eHeads_length, hl1] at hI
  rw [d1A] at hI
  have hother0 : ∀ x, (∀ n cc, β 0 ≠ .slice (some ⟨x, 0, none⟩) n cc) -> x ≠ b := fun x h e => h l.length cap (by rw [e]; exact p1)
  by_cases hroom : l.length + 1 <= cap
  ·have hcall := c0V b l.length cap i b1 1 cap1 (cs.toList.take (l.length * 2)) (cs1.toList.take (1 * 2)) c.w0 hlt (by omega) hroom (by unfold maxLen at p4; omega) hvb hcl hvl (a3E p2)
    (fun j hj => by rw [World.cell_of p2, Array.getElem?_eq_getElem (show j < cs.size by omega)]; rfl) (fun j hj => by simp [World.frozen?, p2]) (a3E q2) p6.oneCell q6.oneCell
    _ _ _ _ (by simp [World.shape?, q2]; exact ⟨rfl, rfl⟩) (by simp [World.shape?, p2]; exact ⟨rfl, rfl⟩) (by rw [p5]; omega) (by simp [World.frozen?, q2]) (by simp [World.frozen?, q2])
   rw [e0, e2, p1, q1]
   refine hcall.mono ?_
   rintro e w' ⟨rfl, rfl⟩
   have hcs : cs = cs.toList.toArray := by simp
   have hb0 : c.w0.drew.heap[b]? = some (.cells cs.toList.toArray 89 (0, 0)) := by rw [<- hcs]; exact p2
   have hdl : ((cs.toList.take (l.length * 2)).drop (i * 2)).length = (l.length - i) * 2 := by rw [List.length_drop, hcl]; omega
   obtain ⟨z1, z2, z3, z4, z5, z6⟩ := a1q b ((cs.toList.take (l.length * 2)).drop (i * 2)) ((i + 1) * 2) c.w0.drew cs.toList _ _ hb0 (by rw [hdl, hcsl]; omega)
   obtain ⟨y1, y2, y3, y4, y5, y6⟩ := a1q b (cs1.toList.take (1 * 2)) (i * 2) _ _ _ _ z1 (by rw [hvl]; simp; omega)
   refine fin (hI y1 hroom p4 ?_ ?_ (.inr ⟨_, _, p1⟩) (fun x _ hx => (y2 x (hother0 x hx)).trans (z2 x (hother0 x hx))) ?_ (y4.trans z4) (y5.trans z5) (y6.trans z6))
   ·simp only [List.size_toArray]; simp; omega
   ·rw [List.toList_toArray]
    exact b4E (by omega) hcl (by simpa using hvl) h1 (by rw [List.take_take, Nat.min_eq_left (by omega)])
   ·rw [y3, z3]; exact Nat.le_refl _
  ·have hcall := c3H b l.length cap i b1 1 cap1 (cs.toList.take (l.length * 2)) (cs1.toList.take (1 * 2)) c.w0 hlt (by omega) p3 (by omega) (by omega) hcl hvl (a3E p2) (a3E q2) p6.oneCell q6.oneCell
   rw [e0, e2, p1, q1]
   refine hcall.mono ?_
   rintro e w' ⟨rfl, rfl⟩
   have hGn : l.length + 1 <= grownCap c.w0 (l.length + 1) cap 89 := grownCap_ge c.w0 _ _ _
   have hGm := grownCap_le_maxLen c.w0 (l.length + 1) cap 89 (by unfold maxLen; omega)
   generalize grownCap c.w0 (l.length + 1) cap 89 = G at hGn hGm ⊢
   generalize hrow : ((cs.toList.take (l.length * 2)).take (i * 2)).toArray ++ Builtin.zeroCells #[.string ⟨#[]⟩, .int .i64 0] (l.length + 1 - i) ++ Builtin.zeroCells #[.string ⟨#[]⟩, .int .i64 0] (G - (l.length + 1)) = ROW
   have hrl : ROW.size = G * 2 := by
    rw [<- hrow]
    simp [Builtin.zeroCells]
    omega
   have hrt : ROW.toList.take (i * 2) = (cs.toList.take (l.length * 2)).take (i * 2) := by
    rw [<- hrow]
    simp only [Array.toList_append, List.append_assoc]
    rw [List.take_left' (by rw [List.length_take, hcl]; omega)]
   have hrl2 : ROW.toList.length = G * 2 := by rw [Array.length_toList, hrl]
   have hb0 : (c.w0.alloc (.cells ROW 89)).drew.heap[c.w0.heap.size]? = some (.cells ROW.toList.toArray 89 (0, 0)) := by
    have : ROW = ROW.toList.toArray := by simp
    rw [<- this]
    exact heap_alloc_new c.w0 _
   have hdl : ((cs.toList.take (l.length * 2)).drop (i * 2)).length = (l.length - i) * 2 := by rw [List.length_drop, hcl]; omega
   obtain ⟨z1, z2, z3, z4, z5, z6⟩ := a1q c.w0.heap.size (cs1.toList.take (1 * 2)) (i * 2) (c.w0.alloc (.cells ROW 89)).drew ROW.toList _ _ hb0 (by rw [hvl, hrl2]; omega)
   obtain ⟨y1, y2, y3, y4, y5, y6⟩ := a1q c.w0.heap.size ((cs.toList.take (l.length * 2)).drop (i * 2)) ((i + 1) * 2) ((c.w0.alloc (.cells ROW 89)).drew.setCells c.w0.heap.size (i * 2) (cs1.toList.take (1 * 2))).drew _ _ _ z1 (by
    rw [hdl]
    simp only [List.length_append, List.length_take, List.length_drop, hrl2, hcsl1]
    omega)
   refine fin (hI y1 hGn hGm ?_ ?_ (.inl (Nat.le_refl _)) (fun x hx _ => (y2 x (by omega)).trans ((z2 x (by omega)).trans (heap_alloc_old c.w0 _ hx))) ?_ (y4.trans z4) (y5.trans z5) (y6.trans z6))
   ·simp only [List.size_toArray, List.length_append, List.length_take, List.length_drop, hrl2, hcsl1, hcsl]
    omega
   ·rw [List.toList_toArray]
    exact b2E (by omega) hcl (by simpa using hvl) h1 hrt
   ·rw [y3]
    show _ <= (World.setCells _ _ _ _).heap.size
    rw [z3]
    show _ <= (c.w0.alloc _).heap.size
    simp
end Vx
end Go.Proofs.YtonkagjdfpacmaaGreatDoor
namespace Go.Proofs.YtonkagjdfpacmaaGreatDoor
set_option maxHeartbeats 4000000
namespace Vx
open Go.RowKit
set_option maxRecDepth 8000
theorem b2x (b : HeadD) (p : Str) (x : Int) : (a0c [b] = [[D.str p, D.int .i64 x]]) = (b = ⟨p, x⟩) := by
 obtain ⟨q, y⟩ := b
 simp -implicitDefEqProofs [a0c, a1d]
theorem b8l (b : HeadD) (p : Str) (x : Int) : ([[D.str p, D.int .i64 x]] = a0c [b]) = (b = ⟨p, x⟩) := by
 rw [<- b2x]; exact propext ⟨Eq.symm, Eq.symm⟩
def gtB (a b : Str) : Bool := !Go.Op.bytesLess a b && !decide (a = b)
def a1Y (t : List HeadD) (p : Str) : Nat -> Nat
 | 0 => 0
 | k + 1 => if gtB (t.getD k default).name p then a1Y t p k else k + 1
theorem c0M (t : List HeadD) : ∀ x : List D, x ∈ a0c t -> ∀ d : D, d ∈ x -> match d with | D.sl _ _ _ => False | _ => True := by
 intro x hx d hd
 simp only [a0c, List.mem_map] at hx
 obtain ⟨h, _, rfl⟩ := hx
 simp only [a1d, List.mem_cons, List.not_mem_nil, or_false] at hd
 rcases hd with rfl | rfl <;> trivial
def a6u (t : List HeadD) (f : HeadD) : List HeadD := a1N t (a1Y t f.name t.length) f
theorem c3J (t : List HeadD) (p : Str) : ∀ k, a1Y t p k <= k := by
 intro k
 induction k with
 | zero => exact Nat.le_refl _
 | succ k ih => unfold a1Y; split <;> omega
def a7D : Con := .fn 30 (List HeadD × HeadD) (fun a => [.sl true 2 (a0c a.1), .agg [.str a.2.name, .int .i64 a.2.at_]]) (fun a => a.1.length <= 1048576) (fun a => .own 8 2 (a0c (a6u a.1 a.2))) (fun a => a2N 8 (a6u a.1 a.2))
theorem b3Z : Has Tryz.prog 169 a7D := by
 refine a0d mixed a0f (HasL.cons c6F HasL.nil) [0, 1, 3, 4, 5] ((fun a n (_ : Nat) => (fun a _ => ⟨Nat, fun k => ⟨[(0, true, .sl true 2 (a0c a.1)), (3, true, .ptr 10 0), (4, true, .nil), (5, true, .int .i64 k)], [(10, .box 89 [.str a.2.name, .int .i64 a.2.at_])]⟩, fun k => k <= a.1.length /\ a1Y a.1 a.2.name k = a1Y a.1 a.2.name a.1.length, fun k => k⟩) a n)) [] Tryz.func169 (by unfold Tryz.f169; rfl) (fun _ => ⟨(), trivial⟩) ?_
 intro a ha
 obtain ⟨t, f⟩ := a
 replace ha : t.length <= 1048576 := ha
 have g1 : ∀ k, 0 < k -> (h : k - 1 < t.length) -> gtB t[k - 1].name f.name = true -> a1Y t f.name (k - 1) = a1Y t f.name k := fun k h0 h hb => by
  obtain ⟨j, rfl⟩ : ∃ j, k = j + 1 := ⟨k - 1, by omega⟩
  simp only [Nat.add_sub_cancel] at h hb ⊢
  rw [a1Y, if_pos (by simp -implicitDefEqProofs [List.getD_eq_getElem?_getD, h, hb])]
 have g2 : ∀ k, 0 < k -> (h : k - 1 < t.length) -> gtB t[k - 1].name f.name = false -> a1Y t f.name k = k := fun k h0 h hb => by
  obtain ⟨j, rfl⟩ : ∃ j, k = j + 1 := ⟨k - 1, by omega⟩
  simp only [Nat.add_sub_cancel] at h hb
  rw [a1Y, if_neg (by simp -implicitDefEqProofs [List.getD_eq_getElem?_getD, h, hb])]
 have hfl := c0M t
 simp -implicitDefEqProofs [a7D, cInsH, Con.fn, tTab, b2x, b8l]
 try dsimp only
 have hfin : ∀ k, a1Y t f.name k = a1Y t f.name t.length -> a1Y t f.name k = k -> a6u t f = a1N t k f := fun k h1 h2 => by unfold a6u; rw [<- h1, h2]
 refine fun _ => ⟨⟨t.length, rfl, Nat.le_refl _, rfl⟩, fun k hk hp => ⟨fun h0 => ⟨⟨by omega, by omega⟩, fun _ _ => ⟨⟨by omega, by omega⟩, fun _ _ => ?_⟩⟩, fun h0 => ?_⟩⟩
 ·have hlt : k - 1 < t.length := by omega
  simp -implicitDefEqProofs [hlt, a1d, D.asStr]
  refine ⟨fun hb hn => ⟨⟨by omega, by omega⟩, fun _ _ => ⟨k - 1, by omega, ⟨by omega, by rw [g1 k h0 hlt (by simp -implicitDefEqProofs [gtB, hb, hn]), hp]⟩, by omega⟩⟩, fun hx => ?_⟩
  have e := hfin k hp (g2 k h0 hlt (by cases hq : Go.Op.bytesLess t[k - 1].name f.name with
   | true => simp -implicitDefEqProofs [gtB, hq]
   | false => simp -implicitDefEqProofs [gtB, hx hq]))
  exact ⟨hfl, ⟨by omega, by omega⟩, t, k, f, ⟨rfl, rfl, rfl⟩, ⟨rfl, rfl⟩, ⟨by omega, by omega⟩, e, e.symm⟩
 ·subst h0
  have e := hfin 0 hp rfl
  exact ⟨hfl, ⟨by omega, by omega⟩, t, 0, f, ⟨rfl, rfl, rfl⟩, ⟨rfl, rfl⟩, ⟨by omega, by omega⟩, e, e.symm⟩
def srt (l : List Str) : Prop := l.Pairwise fun a b => a < b
theorem b7E (l : List Str) (s x : Str) : x ∈ putS l s ↔ x = s \/ x ∈ l := by
 induction l with
 | nil => simp -implicitDefEqProofs [putS]
 | cons y l ih =>
  unfold putS
  split
  ·simp only [List.mem_cons, ih]
   constructor
   ·rintro (h | h | h) <;> simp -implicitDefEqProofs [h]
   ·rintro (h | h | h) <;> simp -implicitDefEqProofs [h]
  ·split
   ·rename_i h
    subst h
    simp only [List.mem_cons]
    constructor
    ·intro h; exact .inr h
    ·rintro (h | h)
     ·exact .inl h
     ·exact h
   ·simp only [List.mem_cons]
theorem c7M {l : List Str} (h : srt l) (s : Str) : srt (putS l s) := by
 induction l with
 | nil => simp -implicitDefEqProofs [putS, srt]
 | cons y l ih =>
  obtain ⟨h1, h2⟩ := List.pairwise_cons.1 h
  unfold putS
  rw [a2X]
  split
  ·rename_i hl
   have hl : y < s := by simpa using hl
   refine List.pairwise_cons.2 ⟨fun z hz => ?_, ih h2⟩
   rcases (b7E l s z).1 hz with rfl | hz
   ·exact hl
   ·exact h1 z hz
  ·rename_i hl
   have hl : ¬ y < s := by simpa using hl
   split
   ·exact h
   ·rename_i hn
    have hs := a5a y s hl hn
    refine List.pairwise_cons.2 ⟨fun z hz => ?_, h⟩
    rcases List.mem_cons.1 hz with rfl | hz
    ·exact hs
    ·exact a4m hs (h1 z hz)
theorem b0m (t : List FileD) : ∀ {l : List Str}, srt l -> srt (a1s l t) /\ ∀ x, x ∈ a1s l t ↔ x ∈ l \/ x ∈ t.map (·.path) := by
 induction t with
 | nil => intro l h; exact ⟨h, fun x => by simp -implicitDefEqProofs [a1s]⟩
 | cons f t ih =>
  intro l h
  obtain ⟨h1, h2⟩ := ih (c7M h f.path)
  refine ⟨h1, fun x => ?_⟩
  show x ∈ a1s (putS l f.path) t ↔ _
  rw [h2, b7E, List.map_cons, List.mem_cons]
  constructor
  ·rintro ((h | h) | h) <;> simp -implicitDefEqProofs [h]
  ·rintro (h | h | h) <;> simp -implicitDefEqProofs [h]
theorem b3g (o a b : List FileD) : srt (a0P o a b) /\ ∀ x, x ∈ a0P o a b ↔ x ∈ (o ++ a ++ b).map (·.path) := by
 obtain ⟨h1, h2⟩ := b0m o (l := []) .nil
 obtain ⟨h3, h4⟩ := b0m a h1
 obtain ⟨h5, h6⟩ := b0m b h3
 refine ⟨h5, fun x => ?_⟩
 show x ∈ a1s (a1s (a1s [] o) a) b ↔ _
 rw [h6, h4, h2]
 simp -implicitDefEqProofs [or_assoc]
theorem c5m : ∀ {l m : List Str}, srt l -> srt m -> (∀ x, x ∈ l ↔ x ∈ m) -> l = m
 | [], [], _, _, _ => rfl
 | [], y :: m, _, _, h => absurd ((h y).2 (by simp)) (by simp)
 | x :: l, [], _, _, h => absurd ((h x).1 (by simp)) (by simp)
 | x :: l, y :: m, hl, hm, h => by
  obtain ⟨l1, l2⟩ := List.pairwise_cons.1 hl
  obtain ⟨m1, m2⟩ := List.pairwise_cons.1 hm
  have e : x = y := by
   rcases List.mem_cons.1 ((h x).1 (by simp)) with e | hx
   ·exact e
   ·rcases List.mem_cons.1 ((h y).2 (by simp)) with e | hy
    ·exact e.symm
    ·exact absurd (l1 y hy) (a4l (m1 x hx))
  subst e
  congr 1
  refine c5m l2 m2 fun z => ?_
  have hz := h z
  simp only [List.mem_cons] at hz
  constructor
  ·intro q
   rcases hz.1 (.inr q) with rfl | q2
   ·exact absurd (l1 z q) (a2T z)
   ·exact q2
  ·intro q
   rcases hz.2 (.inr q) with rfl | q2
   ·exact absurd (m1 z q) (a2T z)
   ·exact q2
theorem c3I (l : List HeadD) (f : HeadD) (hp : l.Pairwise fun a b => Go.Op.bytesLess a.name b.name = true) : ∀ k, k <= l.length -> (∀ i, a1Y l f.name k <= i -> i < k -> gtB (l.getD i default).name f.name = true) /\ (0 < a1Y l f.name k -> gtB (l.getD (a1Y l f.name k - 1) default).name f.name = false) := by
 intro k
 induction k with
 | zero => intro _; exact ⟨fun i h1 h2 => by omega, fun h => by simp -implicitDefEqProofs [a1Y] at h⟩
 | succ k ih =>
  intro hk
  unfold a1Y
  split
  ·rename_i h
   obtain ⟨h1, h2⟩ := ih (by omega)
   refine ⟨fun i h3 h4 => ?_, h2⟩
   rcases Nat.lt_or_ge i k with h5 | h5
   ·exact h1 i h3 h5
   ·have : i = k := by omega
    subst this; exact h
  ·rename_i h
   exact ⟨fun i h3 h4 => by omega, fun _ => by simpa using h⟩
theorem c3t (n : Str) (a : Int) : ∀ (l X : List HeadD) (k : Nat), k <= l.length -> (∀ i, i < k -> Go.Op.bytesLess (l.getD i default).name n = true) -> (∀ i, k <= i -> i < l.length -> Go.Op.bytesLess (l.getD i default).name n = false /\ ¬ (l.getD i default).name = n) ->
  l.foldl (a1J n a) (X, false) = if k < l.length then (X ++ l.take k ++ [⟨n, a⟩] ++ l.drop k, true) else (X ++ l, false)
 | [], X, k, hk, _, _ => by simp
 | g :: l, X, 0, _, _, h2 => by
  have hg := h2 0 (by omega) (by simp)
  have hg1 : Go.Op.bytesLess g.name n = false /\ ¬ g.name = n := by simpa using hg
  have e : a1J n a (X, false) g = (X ++ [⟨n, a⟩] ++ [g], true) := by unfold a1J; simp -implicitDefEqProofs [hg1]
  have e2 : l.filter (fun g => decide (g.name ≠ n)) = l := by
   rw [List.filter_eq_self]
   intro z hz
   obtain ⟨i, hi, rfl⟩ := List.getElem_of_mem hz
   have := h2 (i + 1) (by omega) (by simp; omega)
   simp -implicitDefEqProofs [List.getD_eq_getElem?_getD, hi] at this
   simp -implicitDefEqProofs [this.2]
  rw [List.foldl_cons, e, b0O, e2]; simp
 | g :: l, X, k + 1, hk, h1, h2 => by
  have hg := h1 0 (by omega)
  have hg : Go.Op.bytesLess g.name n = true := by simpa using hg
  have hn : ¬ g.name = n := fun e => by rw [e, a5R] at hg; cases hg
  have e : a1J n a (X, false) g = (X ++ [g], false) := by unfold a1J; simp -implicitDefEqProofs [hg, hn]
  rw [List.foldl_cons, e, c3t n a l (X ++ [g]) k (by simpa using hk) (fun i hi => by have := h1 (i + 1) (by omega); simpa using this) (fun i h3 h4 => by have := h2 (i + 1) (by omega) (by simp; omega); simpa using this)]
  by_cases hc : k < l.length
  ·simp -implicitDefEqProofs [hc]
  ·simp -implicitDefEqProofs [hc]
theorem b6G {l : List HeadD} {n : Str} {a : Int} (hl : ∀ i, 0 < i -> i < l.length -> Go.Op.bytesLess (l.getD (i - 1) default).name (l.getD i default).name = true) (hn : ∀ h ∈ l, ¬ h.name = n) :
  hSet l n a = a6u l ⟨n, a⟩ := by
 have hp := a8U hl
 obtain ⟨h1, h2⟩ := c3I l ⟨n, a⟩ hp l.length (Nat.le_refl _)
 have hk := c3J l n l.length
 unfold a6u
 generalize hkk : a1Y l (⟨n, a⟩ : HeadD).name l.length = k at h1 h2 ⊢
 have hk : k <= l.length := by rw [<- hkk]; exact hk
 have hne : ∀ i (hi : i < l.length), ¬ (l.getD i default).name = n := fun i hi => by
  have := hn l[i] (List.getElem_mem hi)
  simpa [List.getD_eq_getElem?_getD, hi] using this
 have hlt : ∀ i j, (hij : i < j) -> (hj : j < l.length) -> Go.Op.bytesLess (l.getD i default).name (l.getD j default).name = true := fun i j hij hj => by
  have := List.pairwise_iff_getElem.1 hp i j (by omega) hj hij
  simpa [List.getD_eq_getElem?_getD, hj, (show i < l.length by omega)] using this
 have b1 : ∀ i, i < k -> Go.Op.bytesLess (l.getD i default).name n = true := fun i hi => by
  have q := h2 (by omega)
  have q : Go.Op.bytesLess (l.getD (k - 1) default).name n = true := by
   unfold gtB at q
   simp only [Bool.and_eq_false_iff, Bool.not_eq_false', decide_eq_true_eq] at q
   rcases q with q | q
   ·exact q
   ·exact absurd q (hne (k - 1) (by omega))
  rcases Nat.lt_or_ge i (k - 1) with h3 | h3
  ·exact a9a (hlt i (k - 1) h3 (by omega)) q
  ·have : i = k - 1 := by omega
   rw [this]; exact q
 have b2 : ∀ i, k <= i -> i < l.length -> Go.Op.bytesLess (l.getD i default).name n = false /\ ¬ (l.getD i default).name = n := fun i h3 h4 => by
  have q := h1 i h3 h4
  unfold gtB at q
  simp only [Bool.and_eq_true, Bool.not_eq_true', decide_eq_false_iff_not] at q
  exact q
 unfold hSet hL
 rw [c3t n a l [] k hk b1 b2]
 by_cases hc : k < l.length
 ·simp -implicitDefEqProofs [hc, a1N]
 ·have : k = l.length := by omega
  subst this
  simp -implicitDefEqProofs [a1N]
def owI (r : RepoD) : Inv := ⟨Nat, fun i => ⟨[(2, true, .ptr 12 0), (3, true, .ptr 11 0), (12, true, .sl true 3 (a0e r.commits)), (13, true, .int .i64 r.commits.length), (14, true, .int .i64 i)], [(12, b0C), (11, .box 27 [.own 13 3 (a0e (r.commits.take i)), .own 14 2 (a0c r.heads)]), (13, .own 87 3 true (a0e (r.commits.take i))), (14, .own 89 2 true (a0c r.heads))]⟩, fun i => i <= r.commits.length, fun i => r.commits.length - i⟩
def a5i : Con := .fn 35 RepoD (fun r => [a1g r]) rpSz (fun r => .agg [.own 8 3 (a0e r.commits), .own 9 2 (a0c r.heads)]) (fun r => a2y 8 r.commits ++ a2N 9 r.heads)
theorem a3J : Has Tryz.prog 69 a5i := by
 refine a0d mixed a0f (HasL.cons a2C HasL.nil) [0, 1, 2, 3, 5, 12, 13, 14] ((fun a n (_ : Nat) => (fun r _ => owI r) a n)) [30] Tryz.func69 (by unfold Tryz.f69; rfl) (fun _ => ⟨(), trivial⟩) ?_
 intro (r : RepoD) hr
 obtain ⟨h1, h2, h3⟩ : r.commits.length <= 1048576 /\ (∀ c ∈ r.commits, cmSz c) /\ r.heads.length <= 1048576 := hr
 simp (maxSteps := 8000000) -implicitDefEqProofs [a5i, a2U, Con.fn, tTab, owI, a0J]
 try dsimp only
 refine ⟨c8B r.heads, ⟨by omega, by omega⟩, fun _ => ⟨⟨0, ⟨rfl, .inl rfl⟩, Nat.zero_le _⟩, fun t ht => ⟨fun hlt => ⟨hlt, fun _ => ?_⟩, fun hge => by rw [List.take_of_length_le hge]; exact ⟨rfl, rfl⟩⟩⟩⟩
 have e : r.commits.take (t + 1) = r.commits.take t ++ [r.commits[t]] := a0p hlt
 have hc := h2 _ (List.getElem_mem hlt)
 have qq : Option.map a0K r.commits[t]? = some (a0K r.commits[t]) := by simp -implicitDefEqProofs [hlt]
 have hm : min t r.commits.length = t := by omega
 rw [qq, hm]
 generalize r.commits[t] = c at *
 simp -implicitDefEqProofs [a0K]
 exact ⟨c8C _, ⟨by have := hc.1; omega, by have := hc.1; omega⟩, hc.2, ⟨by omega, by omega⟩, ⟨by omega, by omega⟩, fun _ _ => ⟨t + 1, ⟨by omega, by rw [e, a1U], by rw [e, a1U]⟩, by omega, by omega⟩⟩
def ptL (l : List HeadD) (n : Str) (a : Int) : List HeadD := if l.any (fun h => decide (h.name = n)) then l.set (l.findIdx fun h => decide (h.name = n)) ⟨n, a⟩ else a6u l ⟨n, a⟩
theorem c9U {l : List HeadD} {n : Str} {a : Int} {i : Nat} (hi : i < l.length) (hb : ∀ j (hj : j < l.length), j < i -> ¬ l[j].name = n) (h : l[i].name = n) : ptL l n a = l.set i ⟨n, a⟩ := by
 have e : l.findIdx (fun h => decide (h.name = n)) = i := by
  rw [List.findIdx_eq hi]
  exact ⟨by simpa using h, fun j hj => by simpa using hb j (by omega) hj⟩
 unfold ptL
 rw [if_pos (List.any_eq_true.2 ⟨l[i], List.getElem_mem hi, by simpa using h⟩), e]
theorem c7H {l : List HeadD} {n : Str} {a : Int} (hb : ∀ j (hj : j < l.length), ¬ l[j].name = n) : ptL l n a = a6u l ⟨n, a⟩ := by
 unfold ptL
 rw [if_neg]
 simp only [List.any_eq_true, decide_eq_true_eq, not_exists, not_and]
 intro x hx
 obtain ⟨j, hj, rfl⟩ := List.getElem_of_mem hx
 exact hb j hj
def a3T (r : RepoD) : List (Nat × Nat × Nat × List (List D)) := [(0, 87, 3, a0e r.commits), (1, 89, 2, a0c r.heads)]
def poI (r : RepoD) (n : Str) (a : Int) : Inv := ⟨Nat, fun i => ⟨[(1, true, .str n), (2, true, .int .i64 a), (3, true, .ptr 10 0), (6, true, .ptr 12 0), (10, true, .int .i64 r.heads.length), (11, true, .int .i64 i)], [(12, b0C), (10, .box 27 [.own 13 3 (a0e r.commits), .own 14 2 (a0c r.heads)]), (13, .own 87 3 true (a0e r.commits)), (14, .own 89 2 true (a0c r.heads))]⟩, fun i => i <= r.heads.length /\ ∀ j (hj : j < r.heads.length), j < i -> ¬ r.heads[j].name = n, fun i => r.heads.length - i⟩
def a7Q : Con := { A := RepoD × Str × Int, X := Unit, n := 38, args := fun a => [.agg [.own 0 3 (a0e a.1.commits), .own 1 2 (a0c a.1.heads)], .str a.2.1, .int .i64 a.2.2], boxes := fun _ => [], pre := fun a => a.1.heads.length <= 1048576, post := fun _ _ => True, res := fun a _ => .agg [.own 8 3 (a0e a.1.commits), .own 9 2 (a0c (ptL a.1.heads a.2.1 a.2.2))], fin := fun a _ => a2y 8 a.1.commits ++ a2N 9 (ptL a.1.heads a.2.1 a.2.2), owns := fun a => a3T a.1, mv := true }
theorem a7w : Has Tryz.prog 129 a7Q := by
 refine a0d mixed a0f (HasL.cons b3Z HasL.nil) [0, 1, 2, 3, 6, 7, 10, 11] ((fun a n (_ : Nat) => (fun a _ => poI a.1 a.2.1 a.2.2) a n)) [] Tryz.func129 (by unfold Tryz.f129; rfl) (fun _ => ⟨(), trivial⟩) ?_
 intro a ha
 obtain ⟨r, n, b⟩ := a
 replace ha : r.heads.length <= 1048576 := ha
 simp (maxSteps := 8000000) -implicitDefEqProofs [a7Q, a3T, a7D, Con.fn, tTab, poI]
 try dsimp only
 refine fun _ t ht hb => ⟨fun hlt => ⟨hlt, fun _ => ?_⟩, fun hge => ?_⟩
 ·have qq : Option.map a1d r.heads[t]? = some (a1d r.heads[t]) := by simp -implicitDefEqProofs [hlt]
  have hh := c9U (a := b) hlt hb
  have hb2 : ¬ r.heads[t].name = n -> ∀ (j : Nat) (hj : j < r.heads.length), j < t + 1 -> ¬ r.heads[j].name = n := fun h j hj hjt => by
   by_cases e : j = t
   ·subst e; exact h
   ·exact hb j hj (by omega)
  rw [qq]
  generalize r.heads[t] = f at *
  simp -implicitDefEqProofs [a1d]
  refine ⟨fun h => ⟨hlt, fun _ => ⟨hlt, ?_, ?_⟩⟩, fun h => ⟨⟨by omega, by omega⟩, fun _ _ => ⟨t + 1, by omega, ⟨by omega, hb2 h⟩, by omega⟩⟩⟩
  ·rw [hh h, <- h, <- a4s]
  ·rw [hh h, <- h, <- a4s]
 ·have e := c7H (a := b) fun j hj => hb j hj (by omega)
  exact ⟨r.heads, ⟨n, b⟩, ⟨rfl, rfl, rfl⟩, ha, e, e.symm⟩
def a6T : Con := { A := RepoD × RepoD, X := Unit, n := 12, args := fun a => [a1g a.1, .agg [.own 0 3 (a0e a.2.commits), .own 1 2 (a0c a.2.heads)]], boxes := fun _ => [], pre := fun a => rpSz a.1 /\ a4B a.2, post := fun _ _ => True, res := fun a _ => .tup [.agg [.own 8 3 (a0e (if a0E a.2 then a.2 else a.1).commits), .own 9 2 (a0c (if a0E a.2 then a.2 else a.1).heads)], .bool (a0E a.2)], fin := fun a _ => a2y 8 (if a0E a.2 then a.2 else a.1).commits ++ a2N 9 (if a0E a.2 then a.2 else a.1).heads, owns := fun a => a3T a.2, mv := true }
theorem a6e : Has Tryz.prog 128 a6T := by
 refine a0d mixed a0f (HasL.cons a3J (HasL.cons a5w HasL.nil)) [0, 1, 2, 3, 4, 5] ((fun a n (_ : Nat) => (fun _ => a0F) a n)) [] Tryz.func128 (by unfold Tryz.f128; rfl) (fun _ => ⟨(), trivial⟩) ?_
 intro a ha
 obtain ⟨r, x⟩ := a
 obtain ⟨h1, h2⟩ : rpSz r /\ a4B x := ha
 simp (maxSteps := 8000000) -implicitDefEqProofs [a6T, a3T, a5i, a5F, Con.fn, tTab, a0J]
 try dsimp only
 refine ⟨h2, fun h => ⟨h1, ?_⟩, fun h => ?_⟩
 ·rw [if_neg (by simp -implicitDefEqProofs [h])]; exact ⟨⟨⟨rfl, rfl⟩, h⟩, rfl, rfl⟩
 ·rw [if_pos h]; exact ⟨⟨⟨rfl, rfl⟩, h⟩, rfl, rfl⟩
def cmL (r : RepoD) (n : Str) (c : CommitD) : RepoD := ⟨r.commits ++ [c], ptL r.heads n r.commits.length⟩
def a9U (a : RepoD × Str × Str × List FileD × List Int) : List (Nat × Nat × Nat × List (List D)) := [(0, 87, 3, a0e a.1.commits), (1, 89, 2, a0c a.1.heads), (2, 3, 1, a0g a.2.2.2.2)]
def a7M : Con := { A := RepoD × Str × Str × List FileD × List Int, X := Unit, n := 28, args := fun a => [.agg [.own 0 3 (a0e a.1.commits), .own 1 2 (a0c a.1.heads)], .str a.2.1, .str a.2.2.1, .sl true 2 (a0a a.2.2.2.1), .own 2 1 (a0g a.2.2.2.2)], boxes := fun _ => [], pre := fun a => a.1.heads.length <= 1048576 /\ a.1.commits.length <= 1048576 /\ a.2.2.2.1.length <= 1048576 /\ ∀ f ∈ a.2.2.2.1, f.text.length <= 1048576, post := fun _ _ => True, res := fun a _ => .agg [.own 8 3 (a0e (cmL a.1 a.2.1 ⟨a.2.2.2.2, a.2.2.1, a.2.2.2.1⟩).commits), .own 9 2 (a0c (cmL a.1 a.2.1 ⟨a.2.2.2.2, a.2.2.1, a.2.2.2.1⟩).heads)], fin := fun a _ => a2y 8 (cmL a.1 a.2.1 ⟨a.2.2.2.2, a.2.2.1, a.2.2.2.1⟩).commits ++ a2N 9 (cmL a.1 a.2.1 ⟨a.2.2.2.2, a.2.2.1, a.2.2.2.1⟩).heads, owns := a9U, mv := true }
theorem a8O : Has Tryz.prog 133 a7M := by
 refine a0d mixed a0f (HasL.cons a2C (HasL.cons a7w HasL.nil)) [0, 1, 2, 3, 4, 5, 10] ((fun a n (_ : Nat) => (fun _ => a0F) a n)) [18] Tryz.func133 (by unfold Tryz.f133; rfl) (fun _ => ⟨(), trivial⟩) ?_
 intro a ha
 obtain ⟨r, n, w, t, P⟩ := a
 obtain ⟨h1, h2, h3, h4⟩ : r.heads.length <= 1048576 /\ r.commits.length <= 1048576 /\ t.length <= 1048576 /\ ∀ f ∈ t, f.text.length <= 1048576 := ha
 simp (maxSteps := 8000000) -implicitDefEqProofs [a7M, a9U, a3T, a7Q, a2U, Con.fn, tTab, a0J]
 try dsimp only
 have sn : a0e r.commits ++ [[D.sl 3 1 (a0g P), D.str w, D.sl 99 2 (a0a t)]] = a0e (r.commits ++ [⟨P, w, t⟩]) := a1U _ _ _ _
 rw [sn]
 exact ⟨⟨h3, h4⟩, ⟨by omega, by omega⟩, fun _ => ⟨by omega, fun _ => ⟨⟨r.commits ++ [⟨P, w, t⟩], r.heads⟩, n, _, ⟨⟨rfl, rfl⟩, rfl, rfl⟩, ⟨rfl, rfl⟩, h1, ⟨rfl, rfl⟩, rfl, rfl⟩⟩⟩
theorem b4B {k : Nat} {l : List HeadD} (h : a1T k l = true) : ∀ i, 0 < i -> i < l.length -> Go.Op.bytesLess (l.getD (i - 1) default).name (l.getD i default).name = true := fun i h3 h4 => by
 have := ((a2v _ _).1 h).2 i h4
 unfold okHd at this
 simp only [Bool.and_eq_true, Bool.or_eq_true, decide_eq_true_eq] at this
 rcases this.2 with h5 | h5
 ·omega
 ·exact h5
theorem d0i (n : Str) (a : Int) : ∀ (l : List HeadD), (l.Pairwise fun a b => Go.Op.bytesLess a.name b.name = true) -> (∃ x ∈ l, x.name = n) -> l.set (l.findIdx fun h => decide (h.name = n)) ⟨n, a⟩ = l.map (hAt n a) := by
 intro l
 induction l with
 | nil => rintro _ ⟨_, h, _⟩; cases h
 | cons g l ih =>
  intro hp hx
  obtain ⟨hp1, hp2⟩ := List.pairwise_cons.1 hp
  by_cases hg : g.name = n
  ·have hne : ∀ z ∈ l, ¬ z.name = n := fun z hz hc => by
    have := hp1 z hz
    rw [hg, hc, a5R] at this
    cases this
   have e3 : l.map (hAt n a) = l := by
    have : l.map (hAt n a) = l.map id := List.map_congr_left fun z hz => by simp -implicitDefEqProofs [hAt, hne z hz]
    rw [this]; simp
   simp -implicitDefEqProofs [List.findIdx_cons, hg, e3, hAt]
  ·obtain ⟨z, hz, hzn⟩ := hx
   have hz : z ∈ l := by
    rcases List.mem_cons.1 hz with rfl | hz
    ·exact absurd hzn hg
    ·exact hz
   have := ih hp2 ⟨z, hz, hzn⟩
   simp -implicitDefEqProofs [List.findIdx_cons, hg, this, hAt]
theorem b7A {k : Nat} {l : List HeadD} {n : Str} {a : Int} (h : a1T k l = true) : ptL l n a = hSet l n a := by
 have hs := b4B h
 unfold ptL
 split
 ·rename_i hn
  have hn : ∃ x ∈ l, x.name = n := by simpa using hn
  rw [b1M hs hn]
  exact d0i n a l (a8U hs) hn
 ·rename_i hn
  have hn : ∀ h ∈ l, ¬ h.name = n := by simpa using hn
  exact (b6G hs hn).symm
theorem b9k {n m : Str} {a : Int} : ∀ {l : List HeadD} (k : Nat), (∀ h ∈ l, ¬ h.name = n) -> atL (a1N l k ⟨n, a⟩) m = if n = m then a else atL l m
 | [], k, _ => by
  have e : a1N [] k (⟨n, a⟩ : HeadD) = [⟨n, a⟩] := by simp -implicitDefEqProofs [a1N]
  rw [e]; rfl
 | g :: l, 0, h => by
  have e : a1N (g :: l) 0 (⟨n, a⟩ : HeadD) = ⟨n, a⟩ :: g :: l := by simp -implicitDefEqProofs [a1N]
  rw [e]; rfl
 | g :: l, k + 1, h => by
  have e : a1N (g :: l) (k + 1) (⟨n, a⟩ : HeadD) = g :: a1N l k ⟨n, a⟩ := by simp -implicitDefEqProofs [a1N]
  rw [e]
  have ih := b9k (n := n) (m := m) (a := a) (l := l) k fun x hx => h x (by simp -implicitDefEqProofs [hx])
  show (if g.name = m then g.at_ else atL (a1N l k ⟨n, a⟩) m) = if n = m then a else if g.name = m then g.at_ else atL l m
  rw [ih]
  by_cases h1 : g.name = m
  ·have : ¬ n = m := fun e => h g (by simp) (h1.trans e.symm)
   simp -implicitDefEqProofs [h1, this]
  ·simp -implicitDefEqProofs [h1]
theorem b3v {n m : Str} {a : Int} : ∀ {l : List HeadD}, (∃ h ∈ l, h.name = n) -> atL (l.map (hAt n a)) m = if n = m then a else atL l m
 | [], h => by obtain ⟨_, h, _⟩ := h; cases h
 | g :: l, h => by
  have e : atL ((g :: l).map (hAt n a)) m = if (hAt n a g).name = m then (hAt n a g).at_ else atL (l.map (hAt n a)) m := rfl
  have e2 : atL (g :: l) m = if g.name = m then g.at_ else atL l m := rfl
  rw [e, e2]
  by_cases hg : g.name = n
  ·have e3 : hAt n a g = ⟨n, a⟩ := by unfold hAt; rw [if_pos hg]
   rw [e3]
   by_cases hm : n = m
   ·simp -implicitDefEqProofs [hm]
   ·simp only [hm, if_false]
    have : ¬ g.name = m := fun e => hm (hg.symm.trans e)
    simp only [this, if_false]
    by_cases hx : ∃ h ∈ l, h.name = n
    ·rw [b3v hx, if_neg hm]
    ·have e4 : l.map (hAt n a) = l := by
      have : l.map (hAt n a) = l.map id := List.map_congr_left fun z hz => by
       have : ¬ z.name = n := fun e => hx ⟨z, hz, e⟩
       simp -implicitDefEqProofs [hAt, this]
      rw [this]; simp
     rw [e4]
  ·have e3 : hAt n a g = g := by unfold hAt; rw [if_neg hg]
   rw [e3]
   obtain ⟨z, hz, hzn⟩ := h
   have hz : z ∈ l := by
    rcases List.mem_cons.1 hz with rfl | hz
    ·exact absurd hzn hg
    ·exact hz
   rw [b3v ⟨z, hz, hzn⟩]
   by_cases h1 : g.name = m
   ·have : ¬ n = m := fun e => hg (h1.trans e.symm)
    simp -implicitDefEqProofs [h1, this]
   ·simp -implicitDefEqProofs [h1]
theorem a6E {k : Nat} {l : List HeadD} {n m : Str} {a : Int} (h : a1T k l = true) : atL (hSet l n a) m = if n = m then a else atL l m := by
 have hs := b4B h
 by_cases hn : ∃ x ∈ l, x.name = n
 ·rw [b1M hs hn, b3v hn]
 ·have hn : ∀ x ∈ l, ¬ x.name = n := fun x hx e => hn ⟨x, hx, e⟩
  rw [b6G hs hn]
  unfold a6u
  exact b9k _ hn
def parB (r : RepoD) : Prop := ∀ i, i < r.commits.length -> ∀ p ∈ (r.commits.getD i default).parents, 0 <= p /\ p < (i : Int)
theorem c5f {r : RepoD} (h : a0v r = true) : parB r := by
 intro i hi p hp
 have h1 := ((a0V r).1 h).1 i hi
 unfold okCS at h1
 simp only [Bool.and_eq_true, List.all_eq_true, List.mem_range] at h1
 obtain ⟨k, hk, rfl⟩ := List.getElem_of_mem hp
 have h2 := h1.1 k hk
 unfold oneP inN at h2
 simp only [Bool.and_eq_true, decide_eq_true_eq] at h2
 have e : (r.commits.getD i default).parents.getD k 0 = (r.commits.getD i default).parents[k] := by rw [List.getD_eq_getElem?_getD, List.getElem?_eq_getElem hk]; rfl
 rw [e] at h2
 omega
inductive Rch (r : RepoD) (a : Nat) : Nat -> Prop
 | refl : Rch r a a
 | step {x : Nat} {p : Int} : Rch r a x -> p ∈ (r.commits.getD x default).parents -> Rch r a p.toNat
theorem Rch.trans {r : RepoD} {a b c : Nat} (h1 : Rch r a b) (h2 : Rch r b c) : Rch r a c := by
 induction h2 with
 | refl => exact h1
 | step _ hp ih => exact ih.step hp
theorem c3n {l : List CommitD} {x : Nat} (h : l.length <= x) : (l.getD x default).parents = [] := by
 rw [List.getD_eq_getElem?_getD, List.getElem?_eq_none h]; rfl
theorem Rch.le {r : RepoD} {a x : Nat} (hp : parB r) (h : Rch r a x) : x <= a := by
 induction h with
 | refl => omega
 | @step x p _ hq ih =>
  rcases Nat.lt_or_ge x r.commits.length with h1 | h1
  ·have := hp x h1 p hq; omega
  ·rw [c3n h1] at hq; cases hq
theorem Rch.more {r : RepoD} {cs : List CommitD} {hs : List HeadD} (hp : parB r) {a x : Nat} (ha : a < r.commits.length) : Rch ⟨r.commits ++ cs, hs⟩ a x ↔ Rch r a x := by
 have key : ∀ x, x < r.commits.length -> ((r.commits ++ cs).getD x default) = r.commits.getD x default := fun x hx => by
  simp -implicitDefEqProofs [List.getD_eq_getElem?_getD, List.getElem?_append_left hx]
 constructor
 ·intro h
  have : Rch r a x := by
   induction h with
   | refl => exact .refl
   | @step x p _ hq ih =>
    have hle := ih.le hp
    have hq : p ∈ ((r.commits ++ cs).getD x default).parents := hq
    rw [key x (by omega)] at hq
    exact ih.step hq
  exact this
 ·intro h
  induction h with
  | refl => exact .refl
  | @step x p h0 hq ih =>
   have hle := h0.le hp
   refine ih.step ?_
   show p ∈ ((r.commits ++ cs).getD x default).parents
   rw [key x (by omega)]
   exact hq
def b3F : Con := .fn 36 (List Str × List Str × List Str) (fun a => [.sl true 1 (a0b a.1), .sl true 1 (a0b a.2.1), .sl true 1 (a0b a.2.2)]) (fun a => a.1.length <= 1048576 /\ a.2.1.length <= 1048576 /\ a.2.2.length <= 1048576) (fun a => .agg [.bool (a1b a.1 a.2.1 a.2.2).clash, .own 8 1 (a0b (a1b a.1 a.2.1 a.2.2).lines), .own 9 1 (a0b (a1b a.1 a.2.1 a.2.2).old), .own 10 1 (a0b (a1b a.1 a.2.1 a.2.2).one), .own 11 1 (a0b (a1b a.1 a.2.1 a.2.2).two)]) (fun a => a2a 8 (a1b a.1 a.2.1 a.2.2).lines ++ a2a 9 (a1b a.1 a.2.1 a.2.2).old ++ a2a 10 (a1b a.1 a.2.1 a.2.2).one ++ a2a 11 (a1b a.1 a.2.1 a.2.2).two)
theorem c1q : Has Tryz.prog 268 b3F := by
 refine a0d mixed a0f (HasL.cons b2O HasL.nil) [0, 1, 2, 6, 7] ((fun a n (_ : Nat) => (fun _ => a0F) a n)) [] Tryz.func268 (by unfold Tryz.f268; rfl) (fun _ => ⟨(), trivial⟩) ?_
 intro a ha
 obtain ⟨o, a, b⟩ := a
 obtain ⟨h1, h2, h3⟩ : o.length <= 1048576 /\ a.length <= 1048576 /\ b.length <= 1048576 := ha
 simp -implicitDefEqProofs [b3F, b0H, Con.fn, tTab]
 try dsimp only
 have f : ∀ (t : List Str), ∀ x ∈ a0b t, ∀ d ∈ x, match d with | .sl _ _ _ => False | _ => True := fun t => (eStrs_flat t).mpr trivial
 have e1 : a = o -> a1b o a b = ⟨false, b, [], [], []⟩ := fun h => by unfold a1b; rw [if_pos (.inl h)]
 have e2 : a = b -> a1b o a b = ⟨false, b, [], [], []⟩ := fun h => by unfold a1b; rw [if_pos (.inr h)]
 have e3 : ¬ a = o -> ¬ a = b -> b = o -> a1b o a b = ⟨false, a, [], [], []⟩ := fun h h' h2 => by unfold a1b; rw [if_neg (by simp -implicitDefEqProofs [h, h']), if_pos h2]
 have e4 : ¬ a = o -> ¬ a = b -> ¬ b = o -> a1b o a b = ⟨true, [], o, a, b⟩ := fun h h' h2 => by unfold a1b; rw [if_neg (by simp -implicitDefEqProofs [h, h']), if_neg h2]
 refine ⟨a, o, ⟨rfl, rfl⟩, fun h => ⟨fun _ => ?_, fun h' => absurd h h'⟩, fun h => ⟨a, b, ⟨rfl, rfl⟩, fun h2 => ?_, fun h2 => ⟨b, o, ⟨rfl, rfl⟩, fun h3 => ?_, fun h3 => ?_⟩⟩⟩
 ·rw [e1 h]; exact ⟨f b, ⟨by omega, by omega⟩, ⟨rfl, rfl, rfl, rfl, rfl⟩, rfl, rfl, rfl, rfl⟩
 ·rw [e2 h2]; exact ⟨f b, ⟨by omega, by omega⟩, ⟨rfl, rfl, rfl, rfl, rfl⟩, rfl, rfl, rfl, rfl⟩
 ·rw [e3 h h2 h3]; exact ⟨f a, ⟨by omega, by omega⟩, ⟨rfl, rfl, rfl, rfl, rfl⟩, rfl, rfl, rfl, rfl⟩
 ·rw [e4 h h2 h3]; exact ⟨f o, ⟨by omega, by omega⟩, f a, ⟨by omega, by omega⟩, f b, ⟨by omega, by omega⟩, ⟨rfl, rfl, rfl, rfl, rfl⟩, rfl, rfl, rfl, rfl⟩
theorem a4z {l : List PartD} {p : PartD} (h : p.clash = false) (h' : p.lines = []) : put3 l p = l := by unfold put3; rw [if_pos ⟨h, h'⟩]
theorem a8d {m : List PartD} {q p : PartD} (h : q.clash = false) (h' : p.clash = false) (hx : ¬ p.lines = []) : put3 (m ++ [q]) p = m ++ [⟨q.clash, q.lines ++ p.lines, q.old, q.one, q.two⟩] := by unfold put3; rw [if_neg (by simp -implicitDefEqProofs [hx])]; simp -implicitDefEqProofs [h, h']
theorem a8e {m : List PartD} {q p : PartD} (h : q.clash = true) (hx : ¬ (p.clash = false /\ p.lines = [])) : put3 (m ++ [q]) p = m ++ [q] ++ [p] := by unfold put3; rw [if_neg hx]; simp -implicitDefEqProofs [h]
theorem a8f {l : List PartD} {p : PartD} (h : p.clash = true) : put3 l p = l ++ [p] := by
 unfold put3; rw [if_neg (by simp -implicitDefEqProofs [h])]
 split
 ·simp -implicitDefEqProofs [h]
 ·rfl
theorem a4A {p : PartD} (h : ¬ (p.clash = false /\ p.lines = [])) : put3 [] p = [p] := by unfold put3; rw [if_neg h]; simp
def l3A : (List PartD × PartD) ⊕ (List PartD × List Str) -> List PartD
 | .inl a => a.1
 | .inr a => a.1
def l3P : (List PartD × PartD) ⊕ (List PartD × List Str) -> PartD
 | .inl a => a.2
 | .inr a => ⟨false, a.2, [], [], []⟩
def b2Q : (List PartD × PartD) ⊕ (List PartD × List Str) -> List AV
 | .inl a => [.own 0 5 (a0w a.1), .agg [.bool a.2.clash, .own 1 1 (a0b a.2.lines), .own 2 1 (a0b a.2.old), .own 3 1 (a0b a.2.one), .own 4 1 (a0b a.2.two)]]
 | .inr a => [.own 0 5 (a0w a.1), .agg [.bool false, .own 1 1 (a0b a.2), .nil, .nil, .nil]]
def b2R : (List PartD × PartD) ⊕ (List PartD × List Str) -> List (Nat × Nat × Nat × List (List D))
 | .inl a => [(0, 237, 5, a0w a.1), (1, 9, 1, a0b a.2.lines), (2, 9, 1, a0b a.2.old), (3, 9, 1, a0b a.2.one), (4, 9, 1, a0b a.2.two)]
 | .inr a => [(0, 237, 5, a0w a.1), (1, 9, 1, a0b a.2)]
def b2p : Con := { A := (List PartD × PartD) ⊕ (List PartD × List Str), X := Unit, n := 53, args := b2Q, boxes := fun _ => [], pre := fun a => (l3A a).length <= 1048576 /\ (∀ q ∈ l3A a, q.lines.length <= 1073741824) /\ (l3P a).lines.length <= 1073741824, post := fun _ _ => True, res := fun a _ => .own 8 5 (a0w (put3 (l3A a) (l3P a))), fin := fun a _ => b1S 8 (put3 (l3A a) (l3P a)), owns := b2R, mv := true }
theorem c4e : Has Tryz.prog 267 b2p := by
 refine a0d mixed a0f HasL.nil [0, 1, 3, 4, 5] ((fun a n (_ : Nat) => (fun _ => a0F) a n)) [12287, 12333] Tryz.func267 (by unfold Tryz.f267; rfl) (fun _ => ⟨(), trivial⟩) ?_
 intro a ha
 rcases a with ⟨l, p⟩ | ⟨l, x⟩
 ·obtain ⟨h1, h2, h3⟩ : l.length <= 1048576 /\ (∀ q ∈ l, q.lines.length <= 1073741824) /\ p.lines.length <= 1073741824 := ha
  simp -implicitDefEqProofs [b2p, b2Q, b2R, l3A, l3P, Con.fn, tTab]
  try dsimp only
  have f : ∀ (t : List Str), ∀ x ∈ a0b t, ∀ d ∈ x, match d with | .sl _ _ _ => False | _ => True := fun t => (eStrs_flat t).mpr trivial
  have sn : ∀ k : List PartD, a0w k ++ [[D.bool p.clash, D.sl 9 1 (a0b p.lines), D.sl 9 1 (a0b p.old), D.sl 9 1 (a0b p.one), D.sl 9 1 (a0b p.two)]] = a0w (k ++ [p]) := fun k => by simp -implicitDefEqProofs [a0w, a1P]
  rw [sn]
  rcases List.eq_nil_or_concat l with rfl | ⟨m, q, rfl⟩
  ·simp
   repeat' (first | intro _ | apply And.intro)
   all_goals first | omega | (cases (Eq.trans (Eq.symm ‹p.clash = true›) ‹p.clash = false›)) | exact f _ | exact f _ _ (by assumption) _ (by assumption) | exact a4z (by first | assumption | rfl) (by assumption) | exact (a4z (by first | assumption | rfl) (by assumption)).symm | exact a4A (by simp_all) | exact (a4A (by simp_all)).symm | (rw [a8d (by assumption) (by first | assumption | rfl) (by assumption)]; simp -implicitDefEqProofs [a0w, a1P, a0b]) | (rw [a8f (by assumption)]; simp) | (rw [a8e (by assumption) (by simp_all)]; simp)
  ·have he : ∀ r, (a0w m ++ [r])[m.length]? = some r := fun r => by rw [List.getElem?_append_right (by simp)]; simp
   have hs : ∀ r, (a0w (m ++ [q])).set m.length r = a0w m ++ [r] := fun r => by simp -implicitDefEqProofs [a0w]
   have hq : (m ++ [q])[m.length]? = some q := by simp
   have hql := h2 q (by simp)
   have ee : ∀ r r', (a0w m ++ [r] = a0w (m ++ [r'])) = (r = a1P r') := fun r r' => by simp -implicitDefEqProofs [a0w]
   have h1 : m.length + 1 <= 1048576 := by simpa using h1
   simp -implicitDefEqProofs [he, hs, a1P, D.asBool, D.asRows]
   repeat' (first | intro _ | apply And.intro)
   all_goals first | omega | (cases (Eq.trans (Eq.symm ‹p.clash = true›) ‹p.clash = false›)) | exact f _ | exact f _ _ (by assumption) _ (by assumption) | exact a4z (by first | assumption | rfl) (by assumption) | exact (a4z (by first | assumption | rfl) (by assumption)).symm | exact a4A (by simp_all) | exact (a4A (by simp_all)).symm | (rw [a8d (by assumption) (by first | assumption | rfl) (by assumption)]; simp -implicitDefEqProofs [a0w, a1P, a0b]) | (rw [a8f (by assumption)]; simp) | (rw [a8e (by assumption) (by simp_all)]; simp)
 ·obtain ⟨h1, h2, h3⟩ : l.length <= 1048576 /\ (∀ q ∈ l, q.lines.length <= 1073741824) /\ x.length <= 1073741824 := ha
  simp -implicitDefEqProofs [b2p, b2Q, b2R, l3A, l3P, Con.fn, tTab]
  try dsimp only
  have f : ∀ (t : List Str), ∀ x ∈ a0b t, ∀ d ∈ x, match d with | .sl _ _ _ => False | _ => True := fun t => (eStrs_flat t).mpr trivial
  have sn : ∀ k : List PartD, a0w k ++ [[D.bool false, D.sl 9 1 (a0b x), D.sl 9 1 [], D.sl 9 1 [], D.sl 9 1 []]] = a0w (k ++ [⟨false, x, [], [], []⟩]) := fun k => by simp -implicitDefEqProofs [a0w, a1P]
  rw [sn]
  rcases List.eq_nil_or_concat l with rfl | ⟨m, q, rfl⟩
  ·simp
   repeat' (first | intro _ | apply And.intro)
   all_goals first | omega | (cases (Eq.trans (Eq.symm ‹p.clash = true›) ‹p.clash = false›)) | exact f _ | exact f _ _ (by assumption) _ (by assumption) | exact a4z (by first | assumption | rfl) (by assumption) | exact (a4z (by first | assumption | rfl) (by assumption)).symm | exact a4A (by simp_all) | exact (a4A (by simp_all)).symm | (rw [a8d (by assumption) (by first | assumption | rfl) (by assumption)]; simp -implicitDefEqProofs [a0w, a1P, a0b]) | (rw [a8f (by assumption)]; simp) | (rw [a8e (by assumption) (by simp_all)]; simp)
  ·have he : ∀ r, (a0w m ++ [r])[m.length]? = some r := fun r => by rw [List.getElem?_append_right (by simp)]; simp
   have hs : ∀ r, (a0w (m ++ [q])).set m.length r = a0w m ++ [r] := fun r => by simp -implicitDefEqProofs [a0w]
   have hq : (m ++ [q])[m.length]? = some q := by simp
   have hql := h2 q (by simp)
   have ee : ∀ r r', (a0w m ++ [r] = a0w (m ++ [r'])) = (r = a1P r') := fun r r' => by simp -implicitDefEqProofs [a0w]
   have h1 : m.length + 1 <= 1048576 := by simpa using h1
   simp -implicitDefEqProofs [he, hs, a1P, D.asBool, D.asRows]
   repeat' (first | intro _ | apply And.intro)
   all_goals first | omega | (cases (Eq.trans (Eq.symm ‹p.clash = true›) ‹p.clash = false›)) | exact f _ | exact f _ _ (by assumption) _ (by assumption) | exact a4z (by first | assumption | rfl) (by assumption) | exact (a4z (by first | assumption | rfl) (by assumption)).symm | exact a4A (by simp_all) | exact (a4A (by simp_all)).symm | (rw [a8d (by assumption) (by first | assumption | rfl) (by assumption)]; simp -implicitDefEqProofs [a0w, a1P, a0b]) | (rw [a8f (by assumption)]; simp) | (rw [a8e (by assumption) (by simp_all)]; simp)
theorem b7m (o a : List Str) : a0g (mt o a 0) ++ [[D.int .i64 (a.length : Int)]] = a0g (mtE o a) := by simp -implicitDefEqProofs [mtE, a0g, eInt]
def l3oI (o a b : List Str) : Inv := ⟨Nat, fun i => ⟨[(0, true, .sl true 1 (a0b o)), (1, true, .sl true 1 (a0b a)), (2, true, .sl true 1 (a0b b)), (6, true, .nil), (7, true, .own 9 5 (a0w (run3 o a b i).out)), (8, true, .own 10 1 (a0g (mtE o a))), (9, true, .own 11 1 (a0g (mtE o b))), (10, true, .int .i64 (run3 o a b i).io), (11, true, .int .i64 (run3 o a b i).ia), (12, true, .int .i64 (run3 o a b i).ib), (13, true, .int .i64 i)], [(9, .own 237 5 true (a0w (run3 o a b i).out)), (10, .own 3 1 true (a0g (mtE o a))), (11, .own 3 1 true (a0g (mtE o b)))]⟩, fun i => i <= o.length + 1, fun i => o.length + 1 - i⟩
def c0l : Con := .fn 93 (List Str × List Str × List Str) (fun a => [.sl true 1 (a0b a.1), .sl true 1 (a0b a.2.1), .sl true 1 (a0b a.2.2)]) (fun a => a.1.length <= 100000 /\ a.2.1.length <= 100000 /\ a.2.2.length <= 100000) (fun a => .own 8 5 (a0w (of3 a.1 a.2.1 a.2.2))) (fun a => b1S 8 (of3 a.1 a.2.1 a.2.2))
theorem c6R : Has Tryz.prog 249 c0l := by
 refine a0d mixed a0f (HasL.cons b8G (HasL.cons c1q (HasL.cons c4e HasL.nil))) [0, 1, 2, 6, 7, 8, 9, 10, 11, 12, 13] ((fun a n (_ : Nat) => (fun a _ => l3oI a.1 a.2.1 a.2.2) a n)) [] Tryz.func249 (by unfold Tryz.f249; rfl) (fun _ => ⟨(), trivial⟩) ?_
 intro a ha
 obtain ⟨o, a, b⟩ := a
 obtain ⟨h1, h2, h3⟩ : o.length <= 100000 /\ a.length <= 100000 /\ b.length <= 100000 := ha
 simp (maxSteps := 4000000) -implicitDefEqProofs [c0l, b1x, b3F, b2p, b2Q, b2R, l3A, l3P, Con.fn, tTab, l3oI, Sum.exists]
 try dsimp only
 have ea := b7m o a
 have eb := b7m o b
 have la := a6J o a
 have lb := a6J o b
 have m1 := a7Z o a 0
 have m2 := a7Z o b 0
 refine ⟨o, a, ⟨rfl, rfl⟩, ⟨by omega, by omega⟩, fun _ => ⟨⟨by omega, by omega⟩, o, b, ⟨rfl, rfl⟩, ⟨by omega, by omega⟩, fun _ => ⟨⟨by omega, by omega⟩, ⟨0, ⟨⟨rfl, ea.symm, eb.symm, rfl, rfl, rfl, rfl⟩, rfl, ea, eb⟩, Nat.zero_le _⟩, fun t ht hla => ⟨fun hlt => ?_, fun hge => ?_⟩⟩⟩⟩
 ·have ok := a8b o a b t ht
  have st : run3 o a b (t + 1) = a6A o a b ((mtE o a).getD t 0) ((mtE o b).getD t 0) t (run3 o a b t) := rfl
  obtain ⟨k1, k2, k3, k4, k5, k6, k7⟩ := ok
  have ga : (mtE o a).getD t 0 = (mtE o a)[t]'(by omega) := by simp -implicitDefEqProofs [List.getD_eq_getElem?_getD, List.getElem?_eq_getElem (show t < (mtE o a).length by omega)]
  have gb : (mtE o b).getD t 0 = (mtE o b)[t]'(by omega) := by simp -implicitDefEqProofs [List.getD_eq_getElem?_getD, List.getElem?_eq_getElem (show t < (mtE o b).length by omega)]
  have k4 := a7L (l := mtE o a) (by omega) k4
  have k5 := a7L (l := mtE o b) (by omega) k5
  have oa : (mtE o a)[t]? = some ((mtE o a)[t]'(by omega)) := List.getElem?_eq_getElem (by omega)
  have ob : (mtE o b)[t]? = some ((mtE o b)[t]'(by omega)) := List.getElem?_eq_getElem (by omega)
  rw [ga, gb] at st
  rw [oa, ob]
  generalize (mtE o a)[t]'(by omega) = x at *
  generalize (mtE o b)[t]'(by omega) = y at *
  generalize run3 o a b t = S at *
  obtain ⟨io, ia, ib, out⟩ := S
  simp only at k1 k2 k3 k4 k5 k6 k7
  simp -implicitDefEqProofs [eInt, D.asInt, hlt, la, lb, a0m, a0q]
  have skip : x < 0 \/ y < 0 -> run3 o a b (t + 1) = ⟨io, ia, ib, out⟩ := fun h => by rw [st]; unfold a6A; rw [if_pos h]
  have p1 : (List.take (t - io) (List.drop io o)) = (o.take t).drop io := (List.drop_take).symm
  have p2 : (List.take (x.toNat - ia) (List.drop ia a)) = (a.take x.toNat).drop ia := (List.drop_take).symm
  have p3 : (List.take (y.toNat - ib) (List.drop ib b)) = (b.take y.toNat).drop ib := (List.drop_take).symm
  rw [p1, p2, p3]
  refine ⟨by omega, fun _ => ⟨fun hx => ⟨⟨by omega, by omega⟩, fun _ _ => ⟨t + 1, by rw [skip (.inl hx)]; exact ⟨⟨⟨rfl, rfl, rfl, rfl, by omega⟩, rfl⟩, by omega, by omega⟩⟩⟩, fun hx => ⟨by omega, fun _ => ⟨fun hy => ⟨⟨by omega, by omega⟩, fun _ _ => ⟨t + 1, by rw [skip (.inr hy)]; exact ⟨⟨⟨rfl, rfl, rfl, rfl, by omega⟩, rfl⟩, by omega, by omega⟩⟩⟩, fun hy => ?_⟩⟩⟩⟩
  have st2 : run3 o a b (t + 1) = ⟨t + 1, x.toNat + 1, y.toNat + 1, if t < o.length then put3 (put3 out (a1b ((o.take t).drop io) ((a.take x.toNat).drop ia) ((b.take y.toNat).drop ib))) ⟨false, [o.getD t []], [], [], []⟩ else put3 out (a1b ((o.take t).drop io) ((a.take x.toNat).drop ia) ((b.take y.toNat).drop ib))⟩ := by rw [st]; unfold a6A; rw [if_neg (by omega)]
  have l1 : ((o.take t).drop io).length <= 100000 := by simp; omega
  have l2 : ((a.take x.toNat).drop ia).length <= 100000 := by simp; omega
  have l3 : ((b.take y.toNat).drop ib).length <= 100000 := by simp; omega
  have pl := b1h ((o.take t).drop io) ((a.take x.toNat).drop ia) ((b.take y.toNat).drop ib)
  refine ⟨⟨k1, by omega⟩, fun _ _ => ⟨by omega, fun _ => ⟨⟨by omega, by omega⟩, fun _ _ => ⟨by omega, fun _ => ⟨⟨by omega, by omega⟩, fun _ _ => ⟨_, _, _, ⟨rfl, rfl, rfl⟩, ⟨by omega, by omega, by omega⟩, out, a1b _ _ _, ⟨rfl, rfl, rfl, rfl, rfl, rfl⟩, ⟨rfl, rfl, rfl, rfl, rfl⟩, ?_, ?_⟩⟩⟩⟩⟩⟩
  ·rintro q1 q2 (⟨rfl, rfl⟩ | ⟨rfl, rfl⟩ | ⟨rfl, rfl⟩ | ⟨rfl, rfl⟩ | ⟨rfl, rfl⟩) <;> simp
  have pl2 := a9f out (a1b ((o.take t).drop io) ((a.take x.toNat).drop ia) ((b.take y.toNat).drop ib))
  have pb := b0R (p := a1b ((o.take t).drop io) ((a.take x.toNat).drop ia) ((b.take y.toNat).drop ib)) k7
  generalize a1b ((o.take t).drop io) ((a.take x.toNat).drop ia) ((b.take y.toNat).drop ib) = p at *
  refine ⟨⟨by omega, fun q hq => by have := k7 q hq; omega, by omega⟩, fun _ => ⟨fun hto => ?_, fun hto => ?_⟩⟩
  ·have go : o.getD t [] = o[t] := by simp -implicitDefEqProofs [List.getD_eq_getElem?_getD, hto]
   rw [if_pos hto, go] at st2
   simp -implicitDefEqProofs [hto, eStr, D.asStr]
   refine ⟨put3 out p, [o[t]], ⟨rfl, rfl⟩, ⟨rfl, rfl⟩, ?_, ⟨by omega, fun q hq => by have := pb q hq; omega, by simp⟩, ⟨by omega, by omega⟩, fun _ _ => ⟨by omega, fun _ => ⟨⟨by omega, by omega⟩, fun _ _ => ⟨by omega, fun _ => ⟨⟨by omega, by omega⟩, fun _ _ => ⟨⟨by omega, by omega⟩, fun _ _ => ⟨t + 1, ?_⟩⟩⟩⟩⟩⟩⟩
   ·rintro q1 q2 (⟨rfl, rfl⟩ | ⟨rfl, rfl⟩) <;> simp
   ·rw [st2]
    exact ⟨⟨⟨rfl, by simp, by simp; omega, by simp; omega, by omega⟩, rfl⟩, by omega, by omega⟩
  ·rw [if_neg (by omega)] at st2
   refine ⟨⟨by omega, by omega⟩, fun _ _ => ⟨by omega, fun _ => ⟨⟨by omega, by omega⟩, fun _ _ => ⟨by omega, fun _ => ⟨⟨by omega, by omega⟩, fun _ _ => ⟨⟨by omega, by omega⟩, fun _ _ => ⟨t + 1, ?_⟩⟩⟩⟩⟩⟩⟩
   rw [st2]
   exact ⟨⟨⟨rfl, by simp, by simp; omega, by simp; omega, by omega⟩, rfl⟩, by omega, by omega⟩
 ·have : t = o.length + 1 := by omega
  subst this
  exact ⟨rfl, rfl⟩
def a1m (l : List PartD) (i : Nat) : List Str := (l.take i).flatMap (·.lines)
def b3G : Con := .fn 29 (List PartD) (fun l => [.sl true 5 (a0w l)]) (fun l => l.length <= 1048576 /\ ∀ q ∈ l, q.lines.length <= 1048576) (fun l => .tup [.sl false 1 (a0b (a1W l).1), .bool (a1W l).2]) (fun _ => [])
theorem c1r : Has Tryz.prog 248 b3G := by
 refine a0d mixed a0f (HasL.cons b1P HasL.nil) [0, 2, 3, 4, 5] ((fun a n (_ : Nat) => (fun l _ => ⟨Nat, fun i => ⟨[(0, true, .sl true 5 (a0w l)), (2, true, .nil), (3, true, .bool false), (4, true, .own 9 1 (a0b (a1m l i))), (5, true, .int .i64 i)], [(9, .own 9 1 true (a0b (a1m l i)))]⟩, fun i => i <= l.length /\ (l.take i).any (·.clash) = false, fun i => l.length - i⟩) a n)) [] Tryz.func248 (by unfold Tryz.f248; rfl) (fun _ => ⟨(), trivial⟩) ?_
 intro (l : List PartD) ha
 obtain ⟨h1, h2⟩ : l.length <= 1048576 /\ ∀ q ∈ l, q.lines.length <= 1048576 := ha
 simp -implicitDefEqProofs [b3G, b2o, Con.fn, tTab]
 try dsimp only
 have hl0 : ∀ i, i <= l.length -> (a1m l i).length <= i * 1048576 := fun i => by
  induction i with
  | zero => intro _; simp -implicitDefEqProofs [a1m]
  | succ i ih =>
   intro h
   have e : a1m l (i + 1) = a1m l i ++ l[i].lines := by unfold a1m; rw [a0p (show i < l.length by omega), List.flatMap_append]; simp
   have := h2 l[i] (List.getElem_mem _)
   have := ih (by omega)
   rw [e, List.length_append]; clear e; omega
 have f : ∀ (t : List Str), ∀ x ∈ a0b t, ∀ d ∈ x, match d with | .sl _ _ _ => False | _ => True := fun t => (eStrs_flat t).mpr trivial
 have hn0 : (∃ q ∈ l, q.clash = true) -> a1W l = ([], false) := fun ⟨q, h, h'⟩ => by unfold a1W; rw [if_pos (by simp; exact ⟨q, h, h'⟩)]
 have hn1 : (∀ q ∈ l, q.clash = false) -> a1f (a1m l l.length) = false -> a1W l = ([], false) := fun h h' => by
  unfold a1W a1m at *; rw [List.take_length] at h'; rw [if_neg (by simp; exact h), if_neg (by simp -implicitDefEqProofs [h'])]
 have hn2 : (∀ q ∈ l, q.clash = false) -> a1f (a1m l l.length) = true -> a1W l = (a1m l l.length, true) := fun h h' => by
  unfold a1W a1m at *; rw [List.take_length] at *; rw [if_neg (by simp; exact h), if_pos h']
 refine ⟨⟨0, ⟨⟨rfl, rfl⟩, rfl⟩, Nat.zero_le _, by simp⟩, fun t ht hc _ => ⟨fun hlt => ⟨hlt, fun _ => ?_⟩, fun hge => ?_⟩⟩
 ·have e : a1m l (t + 1) = a1m l t ++ l[t].lines := by unfold a1m; rw [a0p hlt, List.flatMap_append]; simp
  have q1 := h2 l[t] (List.getElem_mem hlt)
  have q2 := hl0 t ht
  have q3 : l[t] ∈ l := List.getElem_mem hlt
  have q4 : ∀ x ∈ l.take (t + 1), x ∈ l.take t \/ x = l[t] := fun x hx => by rw [a0p hlt] at hx; exact (List.mem_append.1 hx).imp id (fun h => List.mem_singleton.1 h)
  have qq : Option.map a1P l[t]? = some (a1P l[t]) := by simp -implicitDefEqProofs [hlt]
  rw [qq]
  generalize l[t] = q at *
  simp -implicitDefEqProofs [a1P, D.asBool, D.asRows]
  refine ⟨fun h => by rw [hn0 ⟨q, q3, h⟩]; exact ⟨rfl, rfl⟩, fun h => ⟨hlt, fun _ => ⟨f _, ⟨by omega, by omega⟩, ⟨by omega, by omega⟩, fun _ _ => ⟨t + 1, ⟨⟨by rw [e, a0i], by omega⟩, by rw [e, a0i]⟩, ⟨by omega, fun x hx => (q4 x hx).elim (hc x) (fun hx => hx ▸ h)⟩, by omega⟩⟩⟩⟩
 ·have : t = l.length := by omega
  subst this
  rw [List.take_length] at hc
  exact ⟨fun h => by rw [hn1 hc h]; exact ⟨rfl, rfl⟩, fun h => by rw [hn2 hc h]; exact ⟨rfl, rfl⟩⟩
def iniT (n w i : Nat) : List (List Int) := List.replicate i (List.replicate w 0) ++ List.replicate (n - i) []
theorem b1N {n w i : Nat} (h : i <= n) : (iniT n w i).length = n := by simp -implicitDefEqProofs [iniT]; omega
theorem c3F (n w : Nat) : a1a (iniT n w 0) = List.replicate n [D.sl 3 1 []] := by simp -implicitDefEqProofs [iniT, a1a, eRow]
theorem b6M (n w : Nat) : iniT n w n = List.replicate n (List.replicate w 0) := by simp -implicitDefEqProofs [iniT]
theorem b6N {n w i : Nat} (h : i < n) : (a1a (iniT n w i)).set i [D.sl 3 1 (List.replicate w [D.int .i64 0])] = a1a (iniT n w (i + 1)) := by
 have e : (iniT n w i).set i (List.replicate w 0) = iniT n w (i + 1) := by
  apply List.ext_getElem
  ·rw [List.length_set, b1N (by omega), b1N (by omega)]
  ·intro k h1 h2
   rw [List.getElem_set]
   simp only [iniT, List.getElem_append, List.length_replicate, List.getElem_replicate]
   by_cases hk : i = k
   ·subst hk; simp
   ·rw [if_neg hk]
    by_cases h3 : k < i
    ·rw [dif_pos h3, dif_pos (by omega)]
    ·rw [dif_neg h3, dif_neg (by omega)]
 rw [<- e]
 simp -implicitDefEqProofs [a1a, List.map_set, eRow, a0g, eInt]
def lcA (a b : List Str) : Inv := ⟨Nat, fun i => ⟨[(0, true, .sl true 1 (a0b a)), (1, true, .sl true 1 (a0b b)), (4, true, .nil), (5, true, .own 9 1 (a1a (iniT (a.length + 1) (b.length + 1) i))), (14, true, .int .i64 (a.length + 1 : Nat)), (15, true, .int .i64 i)], [(9, .own 84 1 true (a1a (iniT (a.length + 1) (b.length + 1) i)))]⟩, fun i => i <= a.length + 1, fun i => a.length + 1 - i⟩
def lcB (a b : List Str) : Inv := ⟨Nat, fun p => ⟨[(0, true, .sl true 1 (a0b a)), (1, true, .sl true 1 (a0b b)), (4, true, .nil), (5, true, .own 9 1 (a1a (tabF a b p (b.length + 1)))), (7, true, .int .i64 ((p : Int) - 1))], [(9, .own 84 1 true (a1a (tabF a b p (b.length + 1))))]⟩, fun p => p <= a.length, fun p => p⟩
def lcC (a b : List Str) (g : Nat) : Inv := ⟨Nat, fun q => ⟨[(0, true, .sl true 1 (a0b a)), (1, true, .sl true 1 (a0b b)), (4, true, .nil), (5, true, .own 9 1 (a1a (tabF a b g q))), (7, true, .int .i64 ((g : Int) - 1)), (8, true, .int .i64 ((q : Int) - 1))], [(9, .own 84 1 true (a1a (tabF a b g q)))]⟩, fun q => q <= b.length /\ 0 < g /\ g <= a.length, fun q => q⟩
def b5I (a b : List Str) (n g : Nat) : Inv := if n = 3 then lcA a b else if n = 8 then lcB a b else lcC a b g
theorem c9w (a b g) : b5I a b 3 g = lcA a b := rfl
theorem c9x (a b g) : b5I a b 8 g = lcB a b := rfl
theorem c6W (a b g) : b5I a b 11 g = lcC a b g := rfl
def c0n : Con := .fn 89 (List Str × List Str) (fun a => [.sl true 1 (a0b a.1), .sl true 1 (a0b a.2)]) (fun a => a.1.length <= 1048576 /\ a.2.length <= 1048576) (fun a => .own 8 1 (a1a (tabF a.1 a.2 0 0))) (fun a => [(8, .own 84 1 true (a1a (tabF a.1 a.2 0 0)))])
theorem c6X : Has Tryz.prog 279 c0n := by
 refine a0d mixed a0f HasL.nil [0, 1, 4, 5, 6, 7, 8, 14, 15] (fun a => b5I a.1 a.2) [] Tryz.func279 (by unfold Tryz.f279; rfl) (fun _ => ⟨(), trivial⟩) ?_
 intro a ha
 obtain ⟨a, b⟩ := a
 obtain ⟨h1, h2⟩ : a.length <= 1048576 /\ b.length <= 1048576 := ha
 simp (maxSteps := 4000000) [c0n, Con.fn, tTab, c9w, c9x, c6W, lcA, lcB, lcC]
 try dsimp only
 refine fun _ => ⟨by omega, fun _ _ => ⟨by omega, fun _ _ _ _ => ⟨⟨0, ⟨⟨c3F _ _, rfl⟩, (c3F _ _).symm⟩, Nat.zero_le _⟩, fun i hi => ⟨fun hlt _ => ⟨by omega, fun _ _ => ⟨by omega, fun _ _ _ => ⟨by rw [b1N hi]; omega, fun hx => ⟨hx, by omega, fun _ _ => ⟨i + 1, ⟨⟨(b6N (by omega)).symm, by omega⟩, b6N (by omega)⟩, by omega, by omega⟩⟩⟩⟩⟩, fun hge _ => ⟨by omega, fun _ _ => ⟨⟨a.length, ⟨⟨?_, rfl⟩, ?_⟩, Nat.le_refl _⟩, fun p hp => ⟨fun h1p _ => ⟨by omega, fun _ _ => ⟨p, ⟨b.length, ⟨⟨?_, rfl, rfl⟩, ?_⟩, Nat.le_refl _, by omega, hp⟩, fun q hq hg hga => ⟨fun hq1 => ?_, fun hq0 => ⟨by omega, fun _ _ => ⟨p - 1, ⟨⟨?_, by omega⟩, ?_⟩, by omega, by omega⟩⟩⟩⟩⟩, fun hp0 => ?_⟩⟩⟩⟩⟩⟩⟩
 ·rw [show i = a.length + 1 by omega, b6M, a7y rfl]
 ·rw [show i = a.length + 1 by omega, b6M, a7y rfl]
 ·rw [b0W]
 ·rw [b0W]
 ·obtain ⟨T, hT⟩ : ∃ T, T = tabF a b p q := ⟨_, rfl⟩
  have t1 := @b0X a b p q
  have t2 := a5b (a := a) (b := b) (p := p) (q := q) (r := p) (by omega)
  have t3 := a5b (a := a) (b := b) (p := p) (q := q) (r := p - 1) (by omega)
  have t4 : a[p - 1]? = some a[p - 1] := List.getElem?_eq_getElem (by omega)
  have t5 : b[q - 1]? = some b[q - 1] := List.getElem?_eq_getElem (by omega)
  have u1 := @a4n a b p q p
  have u2 := @a4n a b p q (p - 1)
  have u3 : (tabR a b p q p)[q]? = some (lcs (a.drop p) (b.drop q)) := by rw [a3s (by omega), if_pos (by omega)]
  have u4 : (tabR a b p q p)[q - 1]? = some (lcs (a.drop p) (b.drop (q - 1))) := by rw [a3s (by omega), if_pos (by omega)]
  have u5 : (tabR a b p q (p - 1))[q]? = some (lcs (a.drop (p - 1)) (b.drop q)) := by rw [a3s (by omega), if_pos (by omega)]
  have v1 := a7Y (a.drop p) (b.drop q)
  have v2 := a7Y (a.drop p) (b.drop (q - 1))
  have v3 := a7Y (a.drop (p - 1)) (b.drop q)
  have v4 : (a.drop p).length <= a.length := by simp
  have v5 : (a.drop (p - 1)).length <= a.length := by simp
  have w1 := b9O (a := a) (b := b) (p := p) (q := q) hg hga (by omega) hq
  have w2 := b7c (a := a) (b := b) (p := p) (q := q) hg hga (by omega) hq
  rw [<- hT] at t1 t2 t3 w1 ⊢
  clear hT
  generalize lcs (a.drop p) (b.drop q) = L11 at *
  generalize lcs (a.drop p) (b.drop (q - 1)) = L10 at *
  generalize lcs (a.drop (p - 1)) (b.drop q) = L01 at *
  generalize tabR a b p q p = rB at *
  generalize tabR a b p q (p - 1) = rA at *
  simp -implicitDefEqProofs [t1, t2, t3, t4, t5, u1, u2, u3, u4, u5, eInt, eStr, D.asStr, eRow, D.asRows, D.asInt, and_assoc]
  have fin : ∀ v, v = lcs (a.drop (p - 1)) (b.drop (q - 1)) -> ∃ t', a1a (tabF a b p t') = (a1a T).set (p - 1) [D.sl 3 1 ((a0g rA).set (q - 1) [D.int .i64 v])] /\ (t' : Int) = q - 1 /\ (a1a T).set (p - 1) [D.sl 3 1 ((a0g rA).set (q - 1) [D.int .i64 v])] = a1a (tabF a b p t') /\ t' <= b.length /\ 0 < p /\ p <= a.length /\ t' < q :=
   fun v hv => ⟨q - 1, (w1 v hv).symm, by omega, w1 v hv, by omega, hg, hga, by omega⟩
  have fin1 := fun h => fin (L11 + 1) (by rw [w2, if_pos h])
  have fin2 := fun (h : ¬ a[p - 1] = b[q - 1]) => fin (if L10 < L01 then L01 else L10) (by rw [w2, if_neg h]; split <;> split <;> omega)
  clear w1 w2 fin
  repeat' (first | intro _ | apply And.intro)
  all_goals first | omega | exact fin1 (by assumption) | exact fin2 (by assumption)
 ·rw [show q = 0 by omega, a9l (by omega)]
 ·rw [show q = 0 by omega, a9l (by omega)]
 ·rw [show p = 0 by omega, b7R]; exact ⟨rfl, rfl⟩
def maI (a b : List Str) : Inv := ⟨Nat × Nat × List Int, fun t => ⟨[(0, true, .sl true 1 (a0b a)), (1, true, .sl true 1 (a0b b)), (4, true, .nil), (5, true, .own 9 1 (a1a (tabF a b 0 0))), (6, true, .own 10 1 (a0g t.2.2)), (8, true, .int .i64 t.2.1), (7, true, .int .i64 t.1)], [(9, .own 84 1 true (a1a (tabF a b 0 0))), (10, .own 3 1 true (a0g t.2.2))]⟩,
 fun t => t.1 <= a.length /\ t.2.1 <= b.length /\ t.2.2.length = t.1 /\ t.2.2 ++ mt (a.drop t.1) (b.drop t.2.1) t.2.1 = mt a b 0, fun t => (a.length - t.1) + (b.length - t.2.1)⟩
def b3M : Con := .fn 72 (List Str × List Str) (fun a => [.sl true 1 (a0b a.1), .sl true 1 (a0b a.2)]) (fun a => a.1.length <= 1048576 /\ a.2.length <= 1048576) (fun a => .own 8 1 (a0g (mt a.1 a.2 0))) (fun a => a5K 8 (mt a.1 a.2 0))
theorem c1H : Has Tryz.prog 275 b3M := by
 refine a0d mixed a0f (HasL.cons c6X HasL.nil) [0, 1, 4, 5, 6, 7, 8] ((fun a n (_ : Nat) => (fun a _ => maI a.1 a.2) a n)) [] Tryz.func275 (by unfold Tryz.f275; rfl) (fun _ => ⟨(), trivial⟩) ?_
 intro a ha
 obtain ⟨a, b⟩ := a
 obtain ⟨h1, h2⟩ : a.length <= 1048576 /\ b.length <= 1048576 := ha
 simp (maxSteps := 4000000) [b3M, c0n, Con.fn, tTab, maI]
 try dsimp only
 refine ⟨a, b, ⟨rfl, rfl⟩, ⟨h1, h2⟩, ⟨0, 0, [], ⟨⟨rfl, rfl, rfl, rfl⟩, rfl, rfl⟩, Nat.zero_le _, Nat.zero_le _, rfl, by simp⟩, fun i k out hi hk hl hm _ => ⟨fun hlt => ?_, fun hge => ?_⟩⟩
 ·have t1 := @b0X a b 0 0
  have t2 := a5b (a := a) (b := b) (p := 0) (q := 0) (r := i) (by omega)
  have t3 := a5b (a := a) (b := b) (p := 0) (q := 0) (r := i + 1) (by omega)
  have u1 := @a4n a b 0 0 i
  have u2 := @a4n a b 0 0 (i + 1)
  have t4 : a[i]? = some a[i] := List.getElem?_eq_getElem hlt
  have m0 := c4E (a := a) (b := b) (i := i) (k := k) hlt
  rcases Nat.lt_or_ge k b.length with hkb | hkb
  ·have t5 : b[k]? = some b[k] := List.getElem?_eq_getElem hkb
   have u3 : (tabR a b 0 0 (i + 1))[k]? = some (lcs (a.drop (i + 1)) (b.drop k)) := by rw [a3s (by omega), if_pos (by omega)]
   have u4 : (tabR a b 0 0 i)[k + 1]? = some (lcs (a.drop i) (b.drop (k + 1))) := by rw [a3s (by omega), if_pos (by omega)]
   have m1 := b9C (a := a) (b := b) (i := i) (k := k) hlt hkb
   generalize tabF a b 0 0 = T at *
   generalize tabR a b 0 0 i = rA at *
   generalize tabR a b 0 0 (i + 1) = rB at *
   generalize lcs (a.drop (i + 1)) (b.drop k) = L1 at *
   generalize lcs (a.drop i) (b.drop (k + 1)) = L2 at *
   have g1 : ¬ (k : Int) = b.length := by omega
   have g3 : ¬ b.length <= k := by omega
   obtain ⟨_, u6⟩ := List.getElem?_eq_some_iff.1 u4
   simp -implicitDefEqProofs [hkb, g1, g3, t1, t2, t3, t4, t5, u1, u2, u3, u4, u6, eInt, eStr, D.asStr, eRow, D.asRows, D.asInt, and_assoc]
   refine ⟨hlt, fun _ => ⟨fun e => ⟨by omega, by omega, by omega, by omega, fun _ _ => ⟨by omega, by omega, fun _ _ => ⟨i + 1, k + 1, out ++ [(k : Int)], a4K _ _, by omega, by omega, (a4K _ _).symm, by omega, by omega, by simp -implicitDefEqProofs [hl], ?_, by omega⟩⟩⟩, fun e => ⟨by omega, by omega, fun _ _ => ⟨by omega, hlt, fun _ _ => ⟨by omega, fun _ => ⟨by omega, fun _ => ⟨by omega, by omega, fun _ _ => ⟨by omega, fun _ => ⟨fun c => ⟨by omega, by omega, by omega, by omega, fun _ _ => ⟨i + 1, k, out ++ [-1], a4K _ _, by omega, by omega, (a4K _ _).symm, by omega, by omega, by simp -implicitDefEqProofs [hl], ?_, by omega⟩⟩, fun c => ⟨by omega, by omega, fun _ _ => ⟨i, k + 1, by omega, by omega, by omega, by omega, hl, ?_, by omega⟩⟩⟩⟩⟩⟩⟩⟩⟩⟩⟩
   ·rw [<- hm, m1, if_pos e]; simp
   ·rw [<- hm, m1, if_neg e, if_pos c]; simp
   ·rw [<- hm, m1, if_neg e, if_neg (by omega)]
  ·have g1 : ¬ k < b.length := by omega
   have g2 : (k : Int) = b.length := by omega
   simp -implicitDefEqProofs [hkb, g1, g2, t4, eStr, D.asStr, and_assoc]
   refine ⟨by omega, by omega, by omega, by omega, fun _ _ => ⟨i + 1, k, out ++ [-1], a4K _ _, by omega, by omega, (a4K _ _).symm, by omega, by omega, by simp -implicitDefEqProofs [hl], ?_, by omega⟩⟩
   rw [<- hm, m0 (by omega)]; simp
 ·rw [List.drop_eq_nil_of_le hge, mt, List.append_nil] at hm
  exact ⟨hm.symm, hm⟩
def lnP (l : List Str) : PartD := ⟨false, l, [], [], []⟩
def b7H (a : List Str × List PartD) : List (Nat × Blk) := [(0, .box 242 [.own 8 5 (a0w (put3 a.2 (lnP a.1)))]), (8, .own 237 5 true (a0w (put3 a.2 (lnP a.1))))]
def b1E : Con := { A := List Str × List PartD, X := Unit, n := 36, args := fun a => [.sl true 1 (a0b a.1), .ptr 0 0], boxes := fun a => [(0, 242, [.own 1 5 (a0w a.2)])], pre := fun a => a.1.length <= 1073741824 /\ a.2.length <= 1048576 /\ ∀ q ∈ a.2, q.lines.length <= 1073741824, post := fun _ _ => True, res := fun _ _ => .tup [], fin := fun a _ => b7H a, owns := fun a => [(1, 237, 5, a0w a.2)], nob := false, mv := true }
theorem b8Z : Has Tryz.prog 276 b1E := by
 refine a0d mixed a0f HasL.nil [0, 1, 3] ((fun a n (_ : Nat) => (fun _ => a0F) a n)) [12287, 12321, 16409, 16410] Tryz.func276 (by unfold Tryz.f276; rfl) (fun _ => ⟨(), trivial⟩) ?_
 intro a ha
 obtain ⟨x, l⟩ := a
 obtain ⟨h1, h2, h3⟩ : x.length <= 1073741824 /\ l.length <= 1048576 /\ ∀ q ∈ l, q.lines.length <= 1073741824 := ha
 simp -implicitDefEqProofs [b1E, b7H, Con.fn, tTab]
 try dsimp only
 have f : ∀ (t : List Str), ∀ x ∈ a0b t, ∀ d ∈ x, match d with | .sl _ _ _ => False | _ => True := fun t => (eStrs_flat t).mpr trivial
 have sn : ∀ k : List PartD, a0w k ++ [[D.bool false, D.sl 9 1 (a0b x), D.sl 9 1 [], D.sl 9 1 [], D.sl 9 1 []]] = a0w (k ++ [lnP x]) := fun k => by simp -implicitDefEqProofs [a0w, a1P, lnP]
 rw [sn]
 have hlc : (lnP x).clash = false := rfl
 have hll : (lnP x).lines = x := rfl
 have e0 : x = [] -> put3 l (lnP x) = l := fun h => a4z hlc (by rw [hll]; exact h)
 rcases List.eq_nil_or_concat l with rfl | ⟨m, q, rfl⟩
 ·have e4 : ¬ x = [] -> put3 [] (lnP x) = [lnP x] := fun h => a4A (by rw [hll]; simp -implicitDefEqProofs [h])
  clear hll hlc
  simp
  repeat' (first | intro _ | apply And.intro)
  all_goals first | omega | exact f _ | exact f _ _ (by assumption) _ (by assumption) | exact e0 (by assumption) | exact (e0 (by assumption)).symm | exact e4 (by assumption) | exact (e4 (by assumption)).symm
 ·have he : ∀ r, (a0w m ++ [r])[m.length]? = some r := fun r => by rw [List.getElem?_append_right (by simp)]; simp
  have hs : ∀ r, (a0w (m ++ [q])).set m.length r = a0w m ++ [r] := fun r => by simp -implicitDefEqProofs [a0w]
  have hq : (m ++ [q])[m.length]? = some q := by simp
  have hql := h3 q (by simp)
  have ee : ∀ r r', (a0w m ++ [r] = a0w (m ++ [r'])) = (r = a1P r') := fun r r' => by simp -implicitDefEqProofs [a0w]
  have h2 : m.length + 1 <= 1048576 := by simpa using h2
  have e1 : q.clash = false -> ¬ x = [] -> put3 (m ++ [q]) (lnP x) = m ++ [⟨q.clash, q.lines ++ x, q.old, q.one, q.two⟩] := fun h h' => a8d h hlc (by rw [hll]; exact h')
  have e2 : q.clash = true -> ¬ x = [] -> put3 (m ++ [q]) (lnP x) = m ++ [q] ++ [lnP x] := fun h h' => a8e h (by rw [hll]; simp -implicitDefEqProofs [h'])
  clear hll hlc
  rw [List.concat_eq_append] at e0
  simp -implicitDefEqProofs [he, hs, a1P, D.asBool, D.asRows]
  repeat' (first | intro _ | apply And.intro)
  all_goals first | omega | exact f _ | exact f _ _ (by assumption) _ (by assumption) | exact e0 (by assumption) | exact (e0 (by assumption)).symm | (rw [e1 (by assumption) (by assumption)]; simp -implicitDefEqProofs [a0w, a1P, a0b]; done) | (rw [e2 (by assumption) (by assumption)]; simp; done)
end Vx
end Go.Proofs.YtonkagjdfpacmaaGreatDoor
/-
  DERIVED: THE SHELF's CONTRACTS AT THIS DUMP, IN PLAIN WORDS (tools/lay-plain.mjs out of 'YtonkagjdfpacmaaGreatDoorShelf.lean', which tools/lay-shelf.mjs wrote): THE SAME DECLARATIONS UNDER THE SAME NAMES: 'import', 'namespace', 'open', 'def', 'theorem' AND NOTHING ELSE: no command of the shelf's: FOR A HAND-IN. Each laying: the table of numbers ('.._ren') and one theorem, a field a fact of the dump's own or the kernel's comparison; each contract: ONE APPLICATION.
-/
namespace Go.Proofs
open Go.Shelf
def Tryz.laysSort_ren : Go.Shelf.Ren := ⟨fun | 190 => 223 | 125 => 241 | 258 => 240 | 128 => 262 | 129 => 231 | 302 => 253 | 303 => 254 | 304 => 255 | 305 => 256 | 306 => 257 | 307 => 258 | 308 => 259 | 309 => 260 | 310 => 261 | 333 => 269 | 329 => 270 | 330 => 271 | 334 => 272 | 335 => 273 | 336 => 274 | 344 => 278 | n => n, fun | 31 => 36 | 9 => 9 | 3 => 3 | 46 => 157 | 0 => 0 | 51 => 156 | 53 => 201 | 4 => 4 | 183 => 252 | 182 => 251 | 131 => 256 | 5 => 5 | 218 => 264 | 222 => 268 | 228 => 272 | 229 => 273 | n => n, fun | n => n⟩
theorem Tryz.laysSort : Go.Proofs.Lays.n190 Tryz.prog Tryz.laysSort_ren := {
  mixed := by kernel_rfl
  f125 := Tryz.func241.trans (congrArg some (by kernel_rfl))
  f128 := Tryz.func262.trans (congrArg some (by kernel_rfl))
  f129 := Tryz.func231.trans (congrArg some (by kernel_rfl))
  f190 := Tryz.func223.trans (congrArg some (by kernel_rfl))
  f258 := Tryz.func240.trans (congrArg some (by kernel_rfl))
  f302 := Tryz.func253.trans (congrArg some (by kernel_rfl))
  f303 := Tryz.func254.trans (congrArg some (by kernel_rfl))
  f304 := Tryz.func255.trans (congrArg some (by kernel_rfl))
  f305 := Tryz.func256.trans (congrArg some (by kernel_rfl))
  f306 := Tryz.func257.trans (congrArg some (by kernel_rfl))
  f307 := Tryz.func258.trans (congrArg some (by kernel_rfl))
  f308 := Tryz.func259.trans (congrArg some (by kernel_rfl))
  f309 := Tryz.func260.trans (congrArg some (by kernel_rfl))
  f310 := Tryz.func261.trans (congrArg some (by kernel_rfl))
  f329 := Tryz.func270.trans (congrArg some (by kernel_rfl))
  f330 := Tryz.func271.trans (congrArg some (by kernel_rfl))
  f333 := Tryz.func269.trans (congrArg some (by kernel_rfl))
  f334 := Tryz.func272.trans (congrArg some (by kernel_rfl))
  f335 := Tryz.func273.trans (congrArg some (by kernel_rfl))
  f336 := Tryz.func274.trans (congrArg some (by kernel_rfl))
  f344 := Tryz.func278.trans (congrArg some (by kernel_rfl))
  t0 := Tryz.underlying0
  a0 := Tryz.isAgg0
  z0 := Tryz.sizeOf0
  v0 := Tryz.zeroValue0
  t3 := Tryz.underlying3
  a3 := Tryz.isAgg3
  z3 := Tryz.sizeOf3
  v3 := Tryz.zeroValue3
  t4 := Tryz.underlying4
  a4 := Tryz.isAgg4
  z4 := Tryz.sizeOf4
  v4 := Tryz.zeroValue4
  t5 := Tryz.underlying5
  a5 := Tryz.isAgg5
  z5 := Tryz.sizeOf5
  v5 := Tryz.zeroValue5
  t9 := Tryz.underlying9
  a9 := Tryz.isAgg9
  z9 := Tryz.sizeOf9
  v9 := Tryz.zeroValue9
  t31 := Tryz.underlying36
  a31 := Tryz.isAgg36
  z31 := Tryz.sizeOf36
  v31 := Tryz.zeroValue36
  t46 := Tryz.underlying157
  a46 := Tryz.isAgg157
  z46 := Tryz.sizeOf157
  v46 := Tryz.zeroValue157
  t51 := Tryz.underlying156
  a51 := Tryz.isAgg156
  z51 := Tryz.sizeOf156
  v51 := Tryz.zeroValue156
  t53 := Tryz.underlying201
  a53 := Tryz.isAgg201
  z53 := Tryz.sizeOf201
  v53 := Tryz.zeroValue201
  t131 := Tryz.underlying256
  a131 := Tryz.isAgg256
  z131 := Tryz.sizeOf256
  v131 := Tryz.zeroValue256
  t182 := Tryz.underlying251
  a182 := Tryz.isAgg251
  z182 := Tryz.sizeOf251
  v182 := Tryz.zeroValue251
  t183 := Tryz.underlying252
  a183 := Tryz.isAgg252
  z183 := Tryz.sizeOf252
  v183 := Tryz.zeroValue252
  t218 := Tryz.underlying264
  a218 := Tryz.isAgg264
  z218 := Tryz.sizeOf264
  v218 := Tryz.zeroValue264
  t222 := Tryz.underlying268
  a222 := Tryz.isAgg268
  z222 := Tryz.sizeOf268
  v222 := Tryz.zeroValue268
  t228 := Tryz.underlying272
  a228 := Tryz.isAgg272
  z228 := Tryz.sizeOf272
  v228 := Tryz.zeroValue272
  t229 := Tryz.underlying273
  a229 := Tryz.isAgg273
  z229 := Tryz.sizeOf273
  v229 := Tryz.zeroValue273 }
def Tryz.laysCompact_ren : Go.Shelf.Ren := ⟨fun | 194 => 224 | n => n, fun | 31 => 36 | 9 => 9 | 3 => 3 | 4 => 4 | 0 => 0 | n => n, fun | n => n⟩
theorem Tryz.laysCompact : Go.Proofs.Lays.n194 Tryz.prog Tryz.laysCompact_ren := {
  mixed := by kernel_rfl
  f194 := Tryz.func224.trans (congrArg some (by kernel_rfl))
  t0 := Tryz.underlying0
  a0 := Tryz.isAgg0
  z0 := Tryz.sizeOf0
  v0 := Tryz.zeroValue0
  t3 := Tryz.underlying3
  a3 := Tryz.isAgg3
  z3 := Tryz.sizeOf3
  v3 := Tryz.zeroValue3
  t4 := Tryz.underlying4
  a4 := Tryz.isAgg4
  z4 := Tryz.sizeOf4
  v4 := Tryz.zeroValue4
  t9 := Tryz.underlying9
  a9 := Tryz.isAgg9
  z9 := Tryz.sizeOf9
  v9 := Tryz.zeroValue9
  t31 := Tryz.underlying36
  a31 := Tryz.isAgg36
  z31 := Tryz.sizeOf36
  v31 := Tryz.zeroValue36 }
end Go.Proofs
namespace Go.Proofs.YtonkagjdfpacmaaGreatDoor
set_option maxHeartbeats 4000000
namespace Vx
open Go.RowKit Go.Sort
theorem b3b {j : Nat} {v : Value} {c : Cx} {s : St} {a : Act} {w w' : World} {β : Nat -> Value} {fp : Nat -> List (Nat × Nat)} (S : SatI c s a w β fp) {e k : Nat} {R : List (List D)} {f : List (Nat × Nat)}
  (hpin : ∀ p ∈ c.pins, v = p.2 /\ p.1 = j) (hb : BlkOk w' (get? [(j, Blk.own e k true R)]) (fun _ => v) c j f (.own e k true R)) (hnd : (Ob (fun _ => v) j f (.own e k true R)).Nodup) (hfree : ∀ x ∈ Ob (fun _ => v) j f (.own e k true R), ¬ c.G x)
  (hG : ∀ b, c.G b -> w'.heap[b]? = w.heap[b]?) (hsize : w.heap.size <= w'.heap.size) (hos : w'.os = w.os) (htape : w'.tape = w.tape) (hout : w'.output = w.output) :
  ∃ β' fp' a', SatI c ⟨fun _ => none, get? [(j, .own e k true R)]⟩ a' w' β' fp' /\ RelL w' (get? [(j, .own e k true R)]) β' c [.own j k R] [v] := by
 refine ⟨fun _ => v, fun _ => f, ⟨Array.replicate c.n undef, []⟩, ⟨?_, ?_, ?_, ?_, ?_, S.fg, fun b hb => ⟨(S.old b hb).1, (hG b hb).trans (S.old b hb).2⟩, hos.trans S.os, htape.trans S.tape, hout.trans S.output, Nat.le_trans S.size hsize, rfl, by simp, fun p hp => ?_⟩, ?_⟩
 ·intro t g av h; cases h
 ·intro h blk hm; obtain ⟨rfl, rfl⟩ := get1 hm; exact hb
 ·intro h blk hm; obtain ⟨rfl, rfl⟩ := get1 hm; exact hnd
 ·intro h h' blk blk' hm hm' hne; obtain ⟨rfl, rfl⟩ := get1 hm; obtain ⟨rfl, rfl⟩ := get1 hm'; exact absurd rfl hne
 ·intro h blk hm x hx; obtain ⟨rfl, rfl⟩ := get1 hm; exact hfree x hx
 ·obtain ⟨h1, h2⟩ := hpin p hp
  exact ⟨h1, by rw [h2]; simp [get?]⟩
 ·exact a3A (h := j) (fps := fun _ => f) (by simp [get?]) hb hnd (fun h' blk' hm hne => by obtain ⟨rfl, rfl⟩ := get1 hm; exact absurd rfl hne) hfree
theorem b4j {q : Bool} {w : World} : ∀ {l : List Str}, (∀ s ∈ l, s.length <= maxLen) -> RdL q w (a0b l).flatten (l.map encStr) []
 | [], _ => .nil
 | s :: l, h => .str (h s (by simp)) (b4j fun x hx => h x (by simp [hx]))
theorem a7J {q : Bool} {w : World} : ∀ {l : List Str} {vs f}, RdL q w (a0b l).flatten vs f -> vs = l.map encStr /\ f = [] /\ ∀ s ∈ l, s.length <= maxLen
 | [], vs, f, h => by cases h; exact ⟨rfl, rfl, by simp⟩
 | s :: l, vs, f, h => by
  cases h with
  | str h1 h2 =>
   obtain ⟨rfl, rfl, h3⟩ := a7J (l := l) h2
   exact ⟨rfl, rfl, by simpa using ⟨h1, h3⟩⟩
theorem c5b {w : World} {n b : Nat} {d : List Str} {os : Array Obj} {cs : Array Value} {e : Nat} {fr : Nat × Nat} (hb : w.heap[b]? = some (.cells cs e fr)) :
  (grow (putRow encStr (Sort.ahead w n) b 0 d.toArray) os).heap[b]? = some (.cells (putCells encStr 0 d.toArray cs) e fr) /\
  (∀ x, x < w.heap.size -> x ≠ b -> (grow (putRow encStr (Sort.ahead w n) b 0 d.toArray) os).heap[x]? = w.heap[x]?) /\ w.heap.size <= (grow (putRow encStr (Sort.ahead w n) b 0 d.toArray) os).heap.size /\
  (putCells encStr 0 d.toArray cs).size = cs.size /\ ∀ k, k <= d.length -> k <= cs.size -> (putCells encStr 0 d.toArray cs).toList.take k = (d.take k).map encStr := by
 have hlt : b < w.heap.size := (Array.getElem?_eq_some_iff.1 hb).1
 refine ⟨?_, fun x hx hne => ?_, ?_, by simp [putCells], fun k hk hk2 => ?_⟩
 ·simp only [grow, putRow, mapBlock, Sort.ahead]
  rw [Array.getElem?_append_left (by simpa using hlt), Array.getElem?_modify, if_pos rfl, hb]
  rfl
 ·simp only [grow, putRow, mapBlock, Sort.ahead]
  rw [Array.getElem?_append_left (by simpa using hx), Array.getElem?_modify, if_neg (Ne.symm hne)]
 ·simp [grow, putRow, mapBlock, Sort.ahead]
 ·apply List.ext_getElem
  ·simp [putCells]; omega
  ·intro i h1 h2
   have hi : i < d.length := by simp at h2; omega
   simp only [List.getElem_take, List.getElem_map, putCells, Array.getElem_toList, Array.getElem_mapIdx]
   rw [if_pos (by simp; omega)]
   simp [hi]
def a3d (l : List Str) : List Str := l.mergeSort fun x y => decide (x <= y)
def cSortS : Con := { A := List Str, X := Unit, n := 11, args := fun l => [.own 0 1 (a0b l)], boxes := fun _ => [], pre := fun l => l.length <= 1048576, post := fun _ _ => True, res := fun _ _ => .tup [], fin := fun l _ => [(0, .own 9 1 true (a0b (a3d l)))], owns := fun l => [(0, 9, 1, a0b l)], lends := [0], mv := true }
theorem a7x (l : List Str) : (a3d l).length = l.length := by simp [a3d]
theorem b4W (l : List Str) (x : Str) : x ∈ a3d l ↔ x ∈ l := by simp [a3d]
theorem c5k : Has Tryz.prog 223 cSortS := by
 refine ⟨fun args w => Go.MuLone.run_callFunc_enter Tryz.func223 (by kernel_rfl) rfl args w, fun _ => ⟨(), trivial⟩, fun _ _ => rfl, ?_, trivial, .inl rfl⟩
 intro (l : List Str) (h1 : l.length <= 1048576) c _ vs β fp hn hpin hlen hlen2 S
 have hp : c.pins = [(0, β 0)] := hpin
 have hr := a4Z hlen S
 obtain ⟨v0, vs1, rfl, r0, hr⟩ := hr.uncons
 cases hr
 have m0 : (cSortS.start2 l).m 0 = some (.own 9 1 true (a0b l)) := rfl
 have e0 : v0 = β 0 := by cases r0 with | own _ _ h3 _ => exact (h3 _ _ _ _ m0).1
 subst e0
 have hnd := S.nodup 0 _ m0
 have hfr := S.free 0 _ m0
 have hGlt : ∀ b, c.G b -> b < c.w0.heap.size := fun b hG => (S.old b hG).1
 have fin : ∀ {w' : World}, (∃ β' fp' a', SatI c ⟨fun _ => none, get? [(0, .own 9 1 true (a0b (a3d l)))]⟩ a' w' β' fp' /\ RelL w' (get? [(0, .own 9 1 true (a0b (a3d l)))]) β' c [.own 0 1 (a0b (a3d l))] [β 0]) ->
   ∃ x, cSortS.post l x /\ ∃ v, Ending.returned (.tuple #[]) = Ending.returned v /\ ∃ β' fp' a', SatI c (cSortS.end_ l x) a' w' β' fp' /\ RelL w' (get? (cSortS.fin l x)) β' c [cSortS.res l x] [v] :=
  fun ⟨β', fp', a', g1, g2⟩ => ⟨(), trivial, _, rfl, β', fp', a', g1, .tup .lnil .lnil⟩
 obtain ⟨_, _, B0⟩ := S.mem 0 _ m0
 rcases B0 with ⟨q1, q2, q3⟩ | ⟨b, cap, cs, f0, q1, q2, q3, q4, q5, q6, q7, _⟩
 ·have hl : l = [] := by simpa using q2
  subst hl
  rw [q1]
  refine (Any.slices_Sort_string_none Tryz.laysSort none 0 c.w0).mono ?_
  rintro e w' ⟨rfl, rfl⟩
  have := b3b (w' := c.w0) (j := 0) (v := β 0) (f := []) (e := 9) (k := 1) (R := []) S (by rw [hp]; intro p hp; simp at hp; subst hp; exact ⟨rfl, rfl⟩) ⟨by omega, by simp, .inl ⟨q1, rfl, rfl⟩⟩ (by simp [Ob, q1]) (by simp [Ob, q1]) (fun _ _ => rfl) (Nat.le_refl _) rfl rfl rfl
  exact fin (by simpa [a3d] using this)
 ·rw [eStrs_length] at q1 q3 q6
  obtain ⟨u1, u2, u3⟩ := a7J q6
  have q7 := q7 rfl
  rw [u2] at q7
  have hlt : b < c.w0.heap.size := (Array.getElem?_eq_some_iff.1 q2).1
  have hH : Holds encStr c.w0 b 0 l.toArray := by
   intro j hj
   have hj : j < l.length := by simpa using hj
   have hjc : j < cs.size := by omega
   constructor
   ·have : (cs.toList.take (l.length * 1))[j]? = some (encStr l[j]) := by rw [u1]; simp [hj]
    rw [List.getElem?_take, if_pos (by omega)] at this
    simp only [World.cell?, q2]
    simpa [hj] using this
   ·simp [World.frozen?, q2]
  rw [q1]
  refine (Any.slices_Sort_string Tryz.laysSort b 0 cap l c.w0 hH hlt (by omega)).mono ?_
  rintro e w' ⟨rfl, n, os, rfl⟩
  obtain ⟨z1, z2, z3, z4, z5⟩ := c5b (n := n) (d := a3d l) (os := os) q2
  have hob : Ob β 0 (fp 0) (.own 9 1 true (a0b l)) = [b] := by simp [Ob, q1, q7]
  rw [hob] at hfr
  have := b3b (j := 0) (v := β 0) (f := []) (e := 9) (k := 1) (R := a0b (a3d l)) (w' := grow (putRow encStr (Sort.ahead c.w0 n) b 0 (a3d l).toArray) os) S (by rw [hp]; intro p hp; simp at hp; subst hp; exact ⟨rfl, rfl⟩)
   ⟨by omega, by simp [a0b, eStr], .inr ⟨b, cap, putCells encStr 0 (a3d l).toArray cs, [], by rw [eStrs_length, a7x]; exact q1, z1, by rw [eStrs_length, a7x]; exact q3, q4, by rw [z4]; exact q5, by
    rw [eStrs_length, Nat.mul_one, z5 _ (Nat.le_refl _) (by rw [a7x]; omega), List.take_length]
    exact b4j fun s hs => u3 s ((b4W l s).1 hs), fun _ => rfl, by simp⟩⟩
   (by simp [Ob, q1]) (by simpa [Ob, q1] using hfr) (fun x hG => z2 x (hGlt x hG) fun e => by subst e; exact hfr x (by simp) hG) z3 rfl rfl rfl
  rw [q1] at this fin
  exact fin this
theorem c3k {w : World} {m : Nat -> Option Blk} {β : Nat -> Value} {c : Cx} {h b cap : Nat} {cells : Array Value} {C : List Str} (hv : β h = .slice (some ⟨b, 0, none⟩) C.length cap) (hw : w.heap[b]? = some (.cells cells 9 (0, 0))) (hcap : C.length <= cap) (q4 : cap <= maxLen) (q5 : cells.size = cap * 1)
  (htk : cells.toList.take C.length = C.map encStr) (hu : ∀ s ∈ C, s.length <= maxLen) : BlkOk w m β c h [] (.own 9 1 true (a0b C)) := by
 refine ⟨by omega, by simp [a0b, eStr], .inr ⟨b, cap, cells, [], ?_, hw, ?_, q4, q5, ?_, fun _ => rfl, by simp⟩⟩
 ·rw [eStrs_length]; exact hv
 ·rw [eStrs_length]; exact hcap
 ·rw [eStrs_length, Nat.mul_one, htk]
  exact b4j hu
def cCompactS : Con := { A := List Str, X := Unit, n := 61, args := fun l => [.own 0 1 (a0b l)], boxes := fun _ => [], pre := fun l => l.length <= 1048576, post := fun _ _ => True, res := fun l _ => .own 8 1 (a0b (Lib.compact l)), fin := fun l _ => [(8, .own 9 1 true (a0b (Lib.compact l)))], owns := fun l => [(0, 9, 1, a0b l)], mv := true }
theorem b8j (l : List Str) : (Lib.compact l).length <= l.length := by
 unfold Lib.compact Lib.compactUpTo
 rw [List.length_map]
 exact Nat.le_trans (List.length_filter_le _ _) (by simp)
theorem b6w (l : List Str) : ∀ s ∈ Lib.compact l, s ∈ l := by
 intro s hs
 unfold Lib.compact Lib.compactUpTo at hs
 obtain ⟨j, hj, rfl⟩ := List.mem_map.1 hs
 have hj : j < l.length := by simpa using (List.mem_filter.1 hj).1
 rw [getElem!_pos _ j (by simpa using hj)]
 simp
set_option maxHeartbeats 400000 in
theorem b6v : Has Tryz.prog 224 cCompactS := by
 refine ⟨fun args w => Go.MuLone.run_callFunc_enter Tryz.func224 (by kernel_rfl) rfl args w, fun _ => ⟨(), trivial⟩, fun _ _ => rfl, ?_, trivial, .inl rfl⟩
 intro (l : List Str) (h1 : l.length <= 1048576) c _ vs β fp hn hpin hlen hlen2 S
 have hp : c.pins = [] := hpin
 have hr := a4Z hlen S
 obtain ⟨v0, vs1, rfl, r0, hr⟩ := hr.uncons
 cases hr
 have m0 : (cCompactS.start2 l).m 0 = some (.own 9 1 true (a0b l)) := rfl
 have e0 : v0 = β 0 := by cases r0 with | own _ _ h3 _ => exact (h3 _ _ _ _ m0).1
 subst e0
 have hfr := S.free 0 _ m0
 have hGlt : ∀ b, c.G b -> b < c.w0.heap.size := fun b hG => (S.old b hG).1
 have fin : ∀ {w' : World} {v : Value}, (∃ β' fp' a', SatI c ⟨fun _ => none, get? [(8, .own 9 1 true (a0b (Lib.compact l)))]⟩ a' w' β' fp' /\ RelL w' (get? [(8, .own 9 1 true (a0b (Lib.compact l)))]) β' c [.own 8 1 (a0b (Lib.compact l))] [v]) ->
   ∃ x, cCompactS.post l x /\ ∃ v', Ending.returned v = Ending.returned v' /\ ∃ β' fp' a', SatI c (cCompactS.end_ l x) a' w' β' fp' /\ RelL w' (get? (cCompactS.fin l x)) β' c [cCompactS.res l x] [v'] :=
  fun ⟨β', fp', a', g1, g2⟩ => ⟨(), trivial, _, rfl, β', fp', a', g1, g2⟩
 obtain ⟨_, _, B0⟩ := S.mem 0 _ m0
 rcases B0 with ⟨q1, q2, q3⟩ | ⟨b, cap, cs, f0, q1, q2, q3, q4, q5, q6, q7, _⟩
 ·have hl : l = [] := by simpa using q2
  subst hl
  rw [q1]
  refine (Any.slices_Compact_string_empty Tryz.laysCompact none 0 c.w0).mono ?_
  rintro e w' ⟨rfl, rfl⟩
  have := b3b (w' := c.w0) (j := 8) (v := .slice none 0 0) (f := []) (e := 9) (k := 1) (R := []) S (by rw [hp]; simp) ⟨by omega, by simp, .inl ⟨rfl, rfl, rfl⟩⟩ (by simp [Ob]) (by simp [Ob]) (fun _ _ => rfl) (Nat.le_refl _) rfl rfl rfl
  exact fin (by simpa [Lib.compact, Lib.compactUpTo] using this)
 ·rw [eStrs_length] at q1 q3 q6
  obtain ⟨u1, u2, u3⟩ := a7J q6
  have q7 := q7 rfl
  rw [u2] at q7
  have hlt : b < c.w0.heap.size := (Array.getElem?_eq_some_iff.1 q2).1
  have hH : Holds encStr c.w0 b 0 l.toArray := by
   intro j hj
   have hj : j < l.length := by simpa using hj
   have hjc : j < cs.size := by omega
   constructor
   ·have : (cs.toList.take (l.length * 1))[j]? = some (encStr l[j]) := by rw [u1]; simp [hj]
    rw [List.getElem?_take, if_pos (by omega)] at this
    simp only [World.cell?, q2]
    simpa [hj] using this
   ·simp [World.frozen?, q2]
  rw [q1]
  refine (Any.slices_Compact_string Tryz.laysCompact b 0 cap l c.w0 hH (by omega) q3).mono ?_
  rintro e w' ⟨rfl, n, rfl⟩
  have hcl := b8j l
  obtain ⟨z1, z2, z3, z4, z5⟩ := c5b (n := n) (d := Lib.compact l ++ List.replicate (l.length - (Lib.compact l).length) []) (os := #[]) q2
  simp only [grow_empty] at z1 z2 z3 z4 z5
  have hob : Ob β 0 (fp 0) (.own 9 1 true (a0b l)) = [b] := by simp [Ob, q1, q7]
  rw [hob] at hfr
  have htk := z5 (Lib.compact l).length (by simp) (by omega)
  rw [List.take_left] at htk
  have hu : ∀ s ∈ Lib.compact l, s.length <= maxLen := fun s hs => u3 s (b6w l s hs)
  generalize hcs : putCells encStr 0 (Lib.compact l ++ List.replicate (l.length - (Lib.compact l).length) []).toArray cs = cells at z1 z4 htk
  generalize hw' : putRow encStr (Sort.ahead c.w0 n) b 0 (Lib.compact l ++ List.replicate (l.length - (Lib.compact l).length) []).toArray = w1 at z1 z2 z3
  have hos : w1.os = c.w0.os := by rw [<- hw']; rfl
  have htp : w1.tape = c.w0.tape := by rw [<- hw']; rfl
  have hou : w1.output = c.w0.output := by rw [<- hw']; rfl
  have hw'' : putRow encStr (Sort.ahead c.w0 n) b 0 (Lib.compact l ++ List.replicate (l.length - (Lib.compact l).length) []).toArray = w1 := hw'
  clear hw' hcs
  generalize hC : Lib.compact l = C at *
  have := b3b (j := 8) (v := .slice (some ⟨b, 0, none⟩) C.length cap) (f := []) (e := 9) (k := 1) (R := a0b C) (w' := w1) S (by rw [hp]; simp)
   (c3k (cells := cells) rfl z1 (by omega) q4 (by rw [z4]; exact q5) htk hu) (by simp [Ob]) (by simpa [Ob] using hfr) (fun x hG => z2 x (hGlt x hG) fun e => by subst e; exact hfr x (by simp) hG) z3 hos htp hou
  exact fin this
end Vx
end Go.Proofs.YtonkagjdfpacmaaGreatDoor
namespace Go.Proofs.YtonkagjdfpacmaaGreatDoor
set_option maxHeartbeats 4000000
namespace Vx
open Go.RowKit
set_option maxRecDepth 8000
def okSz (t : List FileD) : Prop := t.length <= 1048576 /\ (∀ f ∈ t, f.text.length <= 1048576) /\ ∀ f ∈ t, f.path.length <= 536870912
def getI (t : List FileD) (p : Str) : List Str × Bool := match t.find? (fun f => decide (f.path = p)) with
 | some f => (f.text, true)
 | none => ([], false)
theorem c6x {t : List FileD} {p : Str} {i : Nat} (h : i < t.length) (h1 : ∀ j (hj : j < t.length), j < i -> ¬ t[j].path = p) (h2 : t[i].path = p) : getI t p = (t[i].text, true) := by
 have : t.find? (fun f => decide (f.path = p)) = some t[i] := by
  rw [List.find?_eq_some_iff_getElem]
  refine ⟨by simp -implicitDefEqProofs [h2], i, h, rfl, fun j hj => ?_⟩
  simpa using h1 j (by omega) hj
 unfold getI; rw [this]
theorem c3o {t : List FileD} {p : Str} (h : ∀ j (hj : j < t.length), ¬ t[j].path = p) : getI t p = ([], false) := by
 have : t.find? (fun f => decide (f.path = p)) = none := by
  rw [List.find?_eq_none]
  intro f hf
  obtain ⟨j, hj, rfl⟩ := List.getElem_of_mem hf
  simpa using h j hj
 unfold getI; rw [this]
def c0k : Con := .fn 22 (List FileD × Str) (fun a => [.sl true 2 (a0a a.1), .str a.2]) (fun a => ∀ f ∈ a.1, f.text.length <= 1048576) (fun a => .tup [.own 8 1 (a0b (getI a.1 a.2).1), .bool (getI a.1 a.2).2]) (fun a => a2a 8 (getI a.1 a.2).1)
theorem c6w : Has Tryz.prog 227 c0k := by
 refine a0d mixed a0f (HasL.cons a5j HasL.nil) [0, 1, 4, 5, 7, 8, 9, 10] ((fun a n (_ : Nat) => (fun a _ => ⟨Nat, fun i => ⟨[(1, true, .str a.2), (4, true, .nil), (5, true, .bool false), (8, true, .sl true 2 (a0a a.1)), (9, true, .int .i64 a.1.length), (10, true, .int .i64 i)], []⟩, fun i => i <= a.1.length /\ ∀ j (hj : j < a.1.length), j < i -> ¬ a.1[j].path = a.2, fun i => a.1.length - i⟩) a n)) [] Tryz.func227 (by unfold Tryz.f227; rfl) (fun _ => ⟨(), trivial⟩) ?_
 intro a ha
 obtain ⟨t, p⟩ := a
 replace ha : ∀ f ∈ t, f.text.length <= 1048576 := ha
 simp -implicitDefEqProofs [c0k, a4Q, Con.fn, tTab]
 try dsimp only
 refine fun _ i hi hb => ⟨fun hlt => ⟨hlt, fun _ => ?_⟩, fun hge => ?_⟩
 ·have hf := ha t[i] (List.getElem_mem hlt)
  have e1 := fun h => c6x (p := p) hlt hb h
  simp -implicitDefEqProofs [hlt, a0k, D.asStr, D.asRows, and_assoc]
  refine ⟨fun h => ⟨hf, by rw [e1 h]; exact ⟨rfl, rfl, rfl⟩⟩, fun h => ⟨by omega, by omega, fun _ _ => ⟨i + 1, by omega, by omega, fun j hj hji => ?_, by omega⟩⟩⟩
  by_cases e : j = i
  ·subst e; exact h
  ·exact hb j hj (by omega)
 ·rw [c3o fun j hj => hb j hj (by omega)]
  exact ⟨⟨rfl, rfl⟩, rfl⟩
theorem c9o (t : List FileD) (p : Str) : getI t p = getL t p := by
 unfold getI
 induction t with
 | nil => rfl
 | cons f t ih =>
  unfold getL
  by_cases h : f.path = p
  ·simp -implicitDefEqProofs [h]
  ·rw [List.find?_cons_of_neg (by simpa using h), if_neg h]; exact ih
--TAB a2z
def a2z : List (Nat × TI) := (216, ⟨false, [.sl 85 1], 24, [], 85⟩) :: (188, ⟨true, [.sl 9 1, .bool], 32, [(36, 0), (4, 1)], 0⟩) :: tTab
theorem a2g : ∀ t ti, get? a2z t = some ti -> TOk Tryz.prog t ti := b0s (by kernel_rfl)
theorem b7O {a b c : Str} (h : a <= b) (h' : b <= c) : a <= c := List.le_trans h h'
theorem b4X {a b : Str} (h : a <= b) (hne : a ≠ b) : a < b := a5a b a h (Ne.symm hne)
theorem c8a (l : List Str) : (a3d l).Pairwise (· <= ·) := by
 have := List.pairwise_mergeSort (le := fun x y : Str => decide (x <= y)) (fun a b c h h' => by simp only [decide_eq_true_eq] at *; exact b7O h h') (fun a b => by
  simp only [Bool.or_eq_true, decide_eq_true_eq]
  exact List.le_total a b) l
 refine List.Pairwise.imp ?_ this
 intro a b h; simpa using h
theorem b4v {l : List Str} (h : l.Pairwise (· <= ·)) : ∀ m, m <= l.length -> srt (Lib.compactUpTo l.toArray m) /\ ∀ x, x ∈ Lib.compactUpTo l.toArray m ↔ x ∈ l.take m
 | 0, _ => ⟨by simp -implicitDefEqProofs [Lib.compactUpTo, srt], by simp -implicitDefEqProofs [Lib.compactUpTo]⟩
 | m + 1, hm => by
  obtain ⟨h1, h2⟩ := b4v h m (by omega)
  have hlt : m < l.length := by omega
  have e : l.toArray[m]! = l[m] := by simp -implicitDefEqProofs [hlt]
  have hall : ∀ x ∈ l.take m, x <= l[m] := by
   intro x hx
   obtain ⟨i, hi, rfl⟩ := List.getElem_of_mem hx
   have hi' : i < m := by simp at hi; omega
   rw [List.getElem_take]
   exact List.pairwise_iff_getElem.1 h i m (by omega) hlt hi'
  rw [Lib.compactUpTo_succ, e, a0p hlt]
  by_cases hk : Lib.keeps l.toArray m = true
  ·rw [if_pos hk]
   refine ⟨List.pairwise_append.2 ⟨h1, by simp, fun x hx y hy => ?_⟩, fun x => by rw [List.mem_append, List.mem_append, h2]⟩
   have : y = l[m] := by simpa using hy
   subst this
   have hx := (h2 x).1 hx
   have hle := hall x hx
   refine b4X hle fun e2 => ?_
   have hm0 : 0 < m := by
    rcases Nat.eq_zero_or_pos m with h0 | h0
    ·subst h0; simp at hx
    ·exact h0
   have hne : l[m] ≠ l[m - 1] := by
    have := hk
    unfold Lib.keeps at this
    simp only [decide_eq_true_eq] at this
    rcases this with h0 | h0
    ·omega
    ·simpa [hlt, show m - 1 < l.length by omega] using h0
   obtain ⟨i, hi, rfl⟩ := List.getElem_of_mem hx
   have hi' : i < m := by simp at hi; omega
   rw [List.getElem_take] at e2 hle
   rcases Nat.lt_or_ge i (m - 1) with hq | hq
   ·have q1 := List.pairwise_iff_getElem.1 h i (m - 1) (by omega) (by omega) hq
    have q2 := List.pairwise_iff_getElem.1 h (m - 1) m (by omega) hlt (by omega)
    have q3 := b4X q2 (Ne.symm hne)
    rw [<- e2] at q3
    exact q1 q3
   ·have : i = m - 1 := by omega
    subst this
    exact hne e2.symm
  ·rw [if_neg hk, List.append_nil]
   refine ⟨h1, fun x => ?_⟩
   rw [h2, List.mem_append]
   have hk : Lib.keeps l.toArray m = false := by simpa using hk
   unfold Lib.keeps at hk
   simp only [decide_eq_false_iff_not, not_or, Classical.not_not] at hk
   obtain ⟨k1, k2⟩ := hk
   have k3 : l[m] = l[m - 1] := by simpa [hlt, show m - 1 < l.length by omega] using k2
   refine ⟨.inl, fun hx => hx.elim id fun hx => ?_⟩
   have : x = l[m] := by simpa using hx
   rw [this, k3]
   exact List.mem_take_iff_getElem.2 ⟨m - 1, by omega, rfl⟩
theorem b6x (l : List Str) : srt (Lib.compact (a3d l)) /\ ∀ x, x ∈ Lib.compact (a3d l) ↔ x ∈ l := by
 obtain ⟨h1, h2⟩ := b4v (c8a l) (a3d l).length (Nat.le_refl _)
 exact ⟨h1, fun x => by
  unfold Lib.compact
  rw [h2, List.take_length, b4W]⟩
def allP (ts : List (List FileD)) : List Str := Lib.compact (a3d (ts.flatten.map (·.path)))
theorem b5T (o a b : List FileD) : allP [o, a, b] = a0P o a b := by
 obtain ⟨h1, h2⟩ := b6x (([o, a, b] : List (List FileD)).flatten.map (·.path))
 obtain ⟨h3, h4⟩ := b3g o a b
 refine c5m h1 h3 fun x => ?_
 unfold allP at *
 rw [h2, h4]; simp
def b2y (t : List FileD) : List D := [.sl 99 2 (a0a t)]
def a6Z (ts : List (List FileD)) : List (List D) := ts.map b2y
@[simp] theorem eTrees_length (l : List (List FileD)) : (a6Z l).length = l.length := by simp -implicitDefEqProofs [a6Z]
@[simp] theorem eTrees_get (l : List (List FileD)) (i : Nat) : (a6Z l)[i]? = l[i]?.map b2y := by simp -implicitDefEqProofs [a6Z]
def preP (ts : List (List FileD)) (i j : Nat) : List Str := ((ts.take i).flatten ++ (ts.getD i []).take j).map (·.path)
theorem c4U (ts : List (List FileD)) : preP ts 0 0 = [] := by simp -implicitDefEqProofs [preP]
theorem c7F (ts : List (List FileD)) : preP ts ts.length 0 = ts.flatten.map (·.path) := by simp -implicitDefEqProofs [preP]
theorem b4S {ts : List (List FileD)} {i : Nat} (h : i < ts.length) : preP ts i (ts.getD i []).length = preP ts (i + 1) 0 := by
 have e3 : ts.getD i [] = ts[i] := by simp -implicitDefEqProofs [List.getD_eq_getElem?_getD, h]
 unfold preP
 rw [a0p h, e3, List.take_length, List.flatten_append, List.take_zero, List.append_nil]
 simp only [List.flatten_cons, List.flatten_nil, List.append_nil]
theorem c4V {ts : List (List FileD)} {i j : Nat} (h : j < (ts.getD i []).length) : preP ts i (j + 1) = preP ts i j ++ [(ts.getD i [])[j].path] := by
 unfold preP
 rw [a0p h, <- List.append_assoc, List.map_append]; rfl
theorem c9h {ts : List (List FileD)} {i : Nat} (j : Nat) (h : i < ts.length) : ((ts.take i).flatten ++ (ts.getD i []).take j).length <= ts.flatten.length := by
 have e := List.take_append_drop (i + 1) ts
 have e2 : ts.flatten.length = ((ts.take (i + 1)).flatten ++ (ts.drop (i + 1)).flatten).length := by rw [<- List.flatten_append, e]
 rw [e2, a0p h]
 have e3 : ts.getD i [] = ts[i] := by simp -implicitDefEqProofs [List.getD_eq_getElem?_getD, h]
 rw [e3]
 have : (List.take j ts[i]).length <= ts[i].length := by rw [List.length_take]; omega
 simp only [List.length_append, List.flatten_append, List.flatten_cons, List.flatten_nil, List.append_nil]
 omega
theorem c7G {ts : List (List FileD)} {i : Nat} (j : Nat) (h : i < ts.length) : (preP ts i j).length <= ts.flatten.length := by
 unfold preP; rw [List.length_map]; exact c9h j h
def apI (ts : List (List FileD)) : Inv := ⟨Nat, fun i => ⟨[(2, true, .nil), (3, true, .own 9 1 (a0b (preP ts i 0))), (8, true, .sl true 1 (a6Z ts)), (9, true, .int .i64 ts.length), (10, true, .int .i64 i)], [(9, .own 9 1 true (a0b (preP ts i 0)))]⟩, fun i => i <= ts.length, fun i => ts.length - i⟩
def apJ (ts : List (List FileD)) (g : Nat) : Inv := ⟨Nat, fun j => ⟨[(2, true, .nil), (3, true, .own 9 1 (a0b (preP ts g j))), (8, true, .sl true 1 (a6Z ts)), (9, true, .int .i64 ts.length), (10, true, .int .i64 g), (14, true, .sl true 2 (a0a (ts.getD g []))), (15, true, .int .i64 (ts.getD g []).length), (16, true, .int .i64 j)], [(9, .own 9 1 true (a0b (preP ts g j)))]⟩, fun j => g < ts.length /\ j <= (ts.getD g []).length, fun j => (ts.getD g []).length - j⟩
def b9Z (ts : List (List FileD)) (n g : Nat) : Inv := if n = 3 then apI ts else apJ ts g
theorem c8U (ts g) : b9Z ts 3 g = apI ts := rfl
theorem c8V (ts g) : b9Z ts 6 g = apJ ts g := rfl
def a9C : Con := .fn 31 (List (List FileD)) (fun ts => [.sl true 1 (a6Z ts)]) (fun ts => ts.flatten.length <= 1048576 /\ ts.length <= 1048576) (fun ts => .own 8 1 (a0b (allP ts))) (fun ts => a2a 8 (allP ts))
theorem b5U : Has Tryz.prog 199 a9C := by
 refine a0d mixed a2g (HasL.cons c5k (HasL.cons b6v HasL.nil)) [0, 2, 3, 5, 7, 8, 9, 10, 14, 15, 16] (b9Z) [] Tryz.func199 (by unfold Tryz.f199; rfl) (fun _ => ⟨(), trivial⟩) ?_
 intro (ts : List (List FileD)) ha
 obtain ⟨h1, h2⟩ : ts.flatten.length <= 1048576 /\ ts.length <= 1048576 := ha
 simp (maxSteps := 4000000) [a9C, cSortS, cCompactS, Con.fn, a2z, tTab, c8U, c8V, apI, apJ]
 try dsimp only
 refine fun _ => ⟨⟨0, ⟨⟨c4U ts, rfl⟩, c4U ts⟩, Nat.zero_le _⟩, fun i hi => ⟨fun hlt => ⟨hlt, fun _ => ?_⟩, fun hge => ?_⟩⟩
 ·have qq : Option.map b2y ts[i]? = some (b2y ts[i]) := by simp -implicitDefEqProofs [hlt]
  have e3 : ts[i]?.getD [] = ts[i] := by simp -implicitDefEqProofs [hlt]
  have e4 : (ts[i]?.getD []).length = ts[i].length := by rw [e3]
  have hb : ∀ j, (preP ts i j).length <= ts.flatten.length := fun j => c7G j hlt
  rw [qq]
  simp -implicitDefEqProofs [b2y, D.asRows]
  refine fun _ => ⟨i, ⟨0, ⟨⟨rfl, rfl, by rw [e3], by rw [e3], rfl⟩, rfl⟩, hlt, Nat.zero_le _⟩, fun j hg hj => ⟨fun hjl => ⟨hjl, fun _ => ?_⟩, fun hjg => ⟨by omega, fun _ _ => ⟨i + 1, ⟨⟨?_, by omega⟩, ?_⟩, by omega, by omega⟩⟩⟩⟩
  ·have q2 : Option.map a0k (ts[i]?.getD [])[j]? = some (a0k (ts[i]?.getD [])[j]) := by simp -implicitDefEqProofs [hjl]
   have q3 : preP ts i (j + 1) = preP ts i j ++ [(ts[i]?.getD [])[j].path] := c4V (ts := ts) (i := i) (j := j) hjl
   have hbj := hb j
   rw [q2]
   simp -implicitDefEqProofs [a0k, D.asRows, D.asStr]
   refine ⟨⟨by omega, by omega⟩, by omega, fun _ _ => ⟨j + 1, ⟨⟨?_, by omega⟩, ?_⟩, ⟨hg, by omega⟩, by omega⟩⟩
   ·rw [q3, <- a0r]
   ·rw [q3, <- a0r]
  ·rw [show j = (ts.getD i []).length by rw [List.getD_eq_getElem?_getD]; omega, b4S hlt]
  ·rw [show j = (ts.getD i []).length by rw [List.getD_eq_getElem?_getD]; omega, b4S hlt]
 ·have : i = ts.length := by omega
  subst this
  rw [a7x, c7F, List.length_map]
  exact ⟨h1, h1, rfl, rfl⟩
def b6i : Con := .fn 16 (List FileD × Str) (fun a => [.sl true 2 (a0a a.1), .str a.2]) (fun a => ∀ f ∈ a.1, f.text.length <= 1048576) (fun a => .agg [.own 8 1 (a0b (getI a.1 a.2).1), .bool (getI a.1 a.2).2]) (fun a => a2a 8 (getI a.1 a.2).1)
theorem c3v : Has Tryz.prog 201 b6i := by
 refine a0d mixed a2g (HasL.cons c6w HasL.nil) [0, 1, 4, 5, 6] ((fun a n (_ : Nat) => (fun _ => a0F) a n)) [] Tryz.func201 (by unfold Tryz.f201; rfl) (fun _ => ⟨(), trivial⟩) ?_
 intro a ha
 obtain ⟨t, p⟩ := a
 replace ha : ∀ f ∈ t, f.text.length <= 1048576 := ha
 simp -implicitDefEqProofs [b6i, c0k, Con.fn, a2z, tTab]
 try dsimp only
 exact ⟨t, p, ⟨rfl, rfl⟩, ha, fun h => ⟨⟨rfl, h⟩, rfl⟩, fun h => ⟨⟨rfl, h⟩, rfl⟩⟩
--TAB a2z
def b0F : Con := .fn 26 (List Str × List Str) (fun a => [.sl true 1 (a0b a.1), .sl true 1 (a0b a.2)]) (fun _ => True) (fun a => .bool (decide (a.1 = a.2))) (fun _ => [])
theorem b2z : Has Tryz.prog 242 b0F := by
 refine a0d mixed a2g HasL.nil [0, 1, 4, 5, 12, 13] ((fun a n (_ : Nat) => (fun a _ => ⟨Nat, fun i => ⟨[(0, true, .sl true 1 (a0b a.1)), (1, true, .sl true 1 (a0b a.2)), (4, true, .bool false), (12, true, .int .i64 a.1.length), (13, true, .int .i64 i)], []⟩, fun i => i <= a.1.length /\ a.1.length = a.2.length /\ a.1.take i = a.2.take i, fun i => a.1.length - i⟩) a n)) [] Tryz.func242 (by unfold Tryz.f242; rfl) (fun _ => ⟨(), trivial⟩) ?_
 intro a _
 obtain ⟨l, r⟩ := a
 simp -implicitDefEqProofs [b0F, Con.fn, a2z, tTab]
 try dsimp only
 try simp +contextual -implicitDefEqProofs [eStr, a0k, a0z, a0D, a0A, List.getElem?_eq_getElem, a0B, a0l, a0y, a0s, <- a0i, <- a0h, a0m, a0q, a0o, a0n, a0r, a0j, and_assoc]
 repeat' (first | intro _ | apply And.intro)
 all_goals first | omega | grind [a0G, a4U, a4F]
def b0U (a b : List Str × Bool) : Bool := decide (a.2 = b.2) && decide (a.1 = b.1)
def b1t : Con := .fn 17 ((List Str × Bool) × (List Str × Bool)) (fun a => [.agg [.sl true 1 (a0b a.1.1), .bool a.1.2], .agg [.sl true 1 (a0b a.2.1), .bool a.2.2]]) (fun _ => True) (fun a => .bool (b0U a.1 a.2)) (fun _ => [])
theorem b8p : Has Tryz.prog 225 b1t := by
 refine a0d mixed a2g (HasL.cons b2z HasL.nil) [0, 1, 2, 3, 4] ((fun a n (_ : Nat) => (fun _ => a0F) a n)) [] Tryz.func225 (by unfold Tryz.f225; rfl) (fun _ => ⟨(), trivial⟩) ?_
 intro a _
 obtain ⟨⟨x, p⟩, y, q⟩ := a
 simp -implicitDefEqProofs [-kStep_move, -Bool.exists_bool, b1t, b0F, Con.fn, a2z, tTab]
 try dsimp only
 exact ⟨x, y, ⟨rfl, rfl⟩, rfl⟩
def a9D : Con := .fn 17 (List Str × List Str × List Str) (fun a => [.sl true 1 (a0b a.1), .sl true 1 (a0b a.2.1), .sl true 1 (a0b a.2.2)]) (fun _ => True) (fun a => .bool (a1f a.1 && a1f a.2.1 && a1f a.2.2)) (fun _ => [])
theorem b5W : Has Tryz.prog 263 a9D := by
 refine a0d mixed a2g (HasL.cons a6C HasL.nil) [0, 1, 2, 6] ((fun a n (_ : Nat) => (fun _ => a0F) a n)) [] Tryz.func263 (by unfold Tryz.f263; rfl) (fun _ => ⟨(), trivial⟩) ?_
 intro a _
 obtain ⟨x, y, z⟩ := a
 simp -implicitDefEqProofs [-kStep_move, -Bool.exists_bool, a9D, a6G, Con.fn, a2z, tTab]
 try dsimp only
 cases a1f x <;> cases a1f y <;> simp
def ptSz (t : List FileD) : Prop := ∀ f ∈ t, f.path.length <= 536870912
def a7j : Con := .fn 17 (List FileD × List FileD × List FileD) (fun a => [.sl true 2 (a0a a.1), .sl true 2 (a0a a.2.1), .sl true 2 (a0a a.2.2)]) (fun a => ptSz a.1 /\ ptSz a.2.1 /\ ptSz a.2.2) (fun a => .bool (a0x a.1 && a0x a.2.1 && a0x a.2.2)) (fun _ => [])
theorem a9A : Has Tryz.prog 170 a7j := by
 refine a0d mixed a2g (HasL.cons a3M HasL.nil) [0, 1, 2, 6] ((fun a n (_ : Nat) => (fun _ => a0F) a n)) [] Tryz.func170 (by unfold Tryz.f170; rfl) (fun _ => ⟨(), trivial⟩) ?_
 intro a ha
 obtain ⟨x, y, z⟩ := a
 obtain ⟨h1, h2, h3⟩ : ptSz x /\ ptSz y /\ ptSz z := ha
 simp -implicitDefEqProofs [-kStep_move, -Bool.exists_bool, a7j, a4r, Con.fn, a2z, tTab]
 try dsimp only
 refine ⟨h1, fun h => ⟨h, h2⟩, fun h h' => ⟨⟨h, h'⟩, h3⟩, ?_⟩
 cases a0x x <;> cases a0x y <;> simp
def cAtI : Con := .fn 21 (RepoD × Str) (fun a => [a1g a.1, .str a.2]) (fun _ => True) (fun a => .int .i64 (atL a.1.heads a.2)) (fun _ => [])
theorem a5C : Has Tryz.prog 70 cAtI := by
 refine a0d mixed a2g HasL.nil [0, 1, 2, 4, 6, 8, 9, 10] ((fun a n (_ : Nat) => (fun a _ => ⟨Nat, fun i => ⟨[(1, true, .str a.2), (4, true, .int .i64 0), (8, true, .sl true 2 (a0c a.1.heads)), (9, true, .int .i64 a.1.heads.length), (10, true, .int .i64 i)], []⟩, fun i => i <= a.1.heads.length /\ atL (a.1.heads.drop i) a.2 = atL a.1.heads a.2, fun i => a.1.heads.length - i⟩) a n)) [] Tryz.func70 (by unfold Tryz.f70; rfl) (fun _ => ⟨(), trivial⟩) ?_
 intro a _
 obtain ⟨r, n⟩ := a
 simp -implicitDefEqProofs [cAtI, Con.fn, a2z, tTab]
 try dsimp only
 refine fun _ t ht hm => ⟨fun hlt => ⟨hlt, fun _ => ?_⟩, fun hge => by rw [<- hm, List.drop_eq_nil_of_le hge]; rfl⟩
 have qq : Option.map a1d r.heads[t]? = some (a1d r.heads[t]) := by simp -implicitDefEqProofs [hlt]
 rw [List.drop_eq_getElem_cons hlt] at hm
 rw [qq]
 generalize r.heads[t] = f at *
 have hm : (if f.name = n then f.at_ else atL (r.heads.drop (t + 1)) n) = atL r.heads n := hm
 simp -implicitDefEqProofs [a1d]
 refine ⟨fun h => by rw [if_pos h] at hm; exact hm.symm, fun h => ⟨⟨by omega, by omega⟩, fun _ _ => ⟨t + 1, by omega, ⟨by omega, ?_⟩, by omega⟩⟩⟩
 rw [if_neg h] at hm
 exact hm
def moI (o a b : List Str) : Inv := ⟨Nat × S3, fun x => ⟨[(0, true, .sl true 1 (a0b o)), (1, true, .sl true 1 (a0b a)), (2, true, .sl true 1 (a0b b)), (6, true, .nil), (7, true, .own 11 1 (a0g (mtE o a))), (8, true, .own 12 1 (a0g (mtE o b))), (9, true, .ptr 10 0), (10, true, .clo 276 [.ptr 10 0]), (11, true, .int .i64 x.2.io), (12, true, .int .i64 x.2.ia), (13, true, .int .i64 x.2.ib), (34, true, .int .i64 (o.length + 1 : Nat)), (35, true, .int .i64 x.1)],
 [(10, .box 242 [.own 9 5 (a0w x.2.out)]), (9, .own 237 5 true (a0w x.2.out)), (11, .own 3 1 true (a0g (mtE o a))), (12, .own 3 1 true (a0g (mtE o b)))]⟩, fun x => x.1 <= o.length + 1 /\ x.2 = run3 o a b x.1, fun x => o.length + 1 - x.1⟩
def b1C : Con := .fn 122 (List Str × List Str × List Str) (fun a => [.sl true 1 (a0b a.1), .sl true 1 (a0b a.2.1), .sl true 1 (a0b a.2.2)]) (fun a => a.1.length <= 100000 /\ a.2.1.length <= 100000 /\ a.2.2.length <= 100000) (fun a => .own 8 5 (a0w (of3 a.1 a.2.1 a.2.2))) (fun a => b1S 8 (of3 a.1 a.2.1 a.2.2))
theorem b8P : Has Tryz.prog 264 b1C := by
 refine a0d mixed a0f (HasL.cons c1H (HasL.cons a5j (HasL.cons b2z (HasL.cons b8Z HasL.nil)))) [0, 1, 2, 6, 7, 8, 9, 10, 11, 12, 13, 14, 15, 16, 17, 34, 35] ((fun a n (_ : Nat) => (fun a _ => moI a.1 a.2.1 a.2.2) a n)) [76] Tryz.func264 (by unfold Tryz.f264; rfl) (fun _ => ⟨(), trivial⟩) ?_
 intro a ha
 obtain ⟨o, a, b⟩ := a
 obtain ⟨h1, h2, h3⟩ : o.length <= 100000 /\ a.length <= 100000 /\ b.length <= 100000 := ha
 have sn : ∀ x : List Str, a0g (mt o x 0) ++ [[D.int .i64 x.length]] = a0g (mtE o x) := fun x => by simp -implicitDefEqProofs [mtE, a0g, eInt]
 simp (maxSteps := 8000000) [-kStep_move, -Bool.exists_bool, b1C, b3M, a4Q, b0F, b1E, b7H, Con.fn, tTab, moI, sn]
 try dsimp only
 refine ⟨o, a, ⟨rfl, rfl⟩, ⟨by omega, by omega⟩, fun _ => ⟨by rw [a7Z]; omega, o, b, ⟨rfl, rfl⟩, ⟨by omega, by omega⟩, fun _ => ⟨by rw [a7Z]; omega, fun _ => ⟨⟨0, ⟨⟨(sn a).symm, (sn b).symm, rfl, rfl, rfl, by rw [a7Z], rfl⟩, rfl, sn a, sn b⟩, Nat.zero_le _⟩, fun i hi => ⟨fun hlt => ?_, fun hge => ?_⟩⟩⟩⟩⟩
 ·have hi2 : i < o.length + 1 := by omega
  have R : run3 o a b (i + 1) = a6A o a b ((mtE o a).getD i 0) ((mtE o b).getD i 0) i (run3 o a b i) := rfl
  obtain ⟨k1, k2, k3, k4, k5, k6, k7⟩ := a8b o a b i (by omega)
  have la := a6J o a
  have lb := a6J o b
  have ha1 : i < (mtE o a).length := by omega
  have hb1 : i < (mtE o b).length := by omega
  have ga : (mtE o a).getD i 0 = (mtE o a)[i] := by simp -implicitDefEqProofs [List.getD_eq_getElem?_getD, ha1]
  have gb : (mtE o b).getD i 0 = (mtE o b)[i] := by simp -implicitDefEqProofs [List.getD_eq_getElem?_getD, hb1]
  have e1 : Option.map eInt (mtE o a)[i]? = some (eInt (mtE o a)[i]) := by simp -implicitDefEqProofs [ha1]
  have e2 : Option.map eInt (mtE o b)[i]? = some (eInt (mtE o b)[i]) := by simp -implicitDefEqProofs [hb1]
  have k4 := a7L (l := mtE o a) ha1 k4
  have k5 := a7L (l := mtE o b) hb1 k5
  rw [ga, gb] at R
  rw [e1, e2]
  generalize (mtE o a)[i] = x at *
  generalize (mtE o b)[i] = y at *
  have kx : 0 <= x -> ((run3 o a b i).ia : Int) <= x /\ x <= a.length := fun h => by rcases k4 with k4 | k4 <;> omega
  have ky : 0 <= y -> ((run3 o a b i).ib : Int) <= y /\ y <= b.length := fun h => by rcases k5 with k5 | k5 <;> omega
  clear k4 k5
  generalize run3 o a b i = s at *
  have tk : ∀ (l : List Str) (p q : Nat), List.take (q - p) (List.drop p (a0b l)) = a0b ((l.take q).drop p) := fun l p q => by
   rw [List.drop_take]; simp -implicitDefEqProofs [a0b]
  have tk1 : ∀ (h : i < o.length), List.take 1 (List.drop i (a0b o)) = a0b [o.getD i []] := fun h => by
   have := tk o i (i + 1)
   rw [show i + 1 - i = 1 by omega] at this
   rw [this]
   congr 1
   rw [a0p h, List.drop_append_of_le_length (by simp; omega)]
   simp -implicitDefEqProofs [h, List.getD_eq_getElem?_getD]
  have ln : ∀ (l : List Str) (p q : Nat), ((l.take q).drop p).length <= l.length := fun l p q => by simp; omega
  generalize hO : (o.take i).drop s.io = O at *
  generalize hA : (a.take x.toNat).drop s.ia = A at *
  generalize hB : (b.take y.toNat).drop s.ib = B at *
  have lO : O.length <= 100000 := by rw [<- hO]; have := ln o s.io i; omega
  have lA : A.length <= 100000 := by rw [<- hA]; have := ln a s.ia x.toNat; omega
  have lB : B.length <= 100000 := by rw [<- hB]; have := ln b s.ib y.toNat; omega
  have R0 : (x < 0 \/ y < 0) -> run3 o a b (i + 1) = s := fun h => by rw [R]; unfold a6A; rw [if_pos h]
  have R1 : 0 <= x -> 0 <= y -> run3 o a b (i + 1) = ⟨i + 1, x.toNat + 1, y.toNat + 1, if i < o.length then put3 (put3 s.out (a1b O A B)) ⟨false, [o.getD i []], [], [], []⟩ else put3 s.out (a1b O A B)⟩ := fun h h' => by
   rw [R]; unfold a6A; rw [if_neg (by omega), hO, hA, hB]
  clear R
  have T : ∀ (p : PartD), p.lines.length <= 100000 -> (put3 s.out p).length <= 1048576 /\ ∀ q ∈ put3 s.out p, q.lines.length <= 1073741824 := fun p hp => by
   have b1 := a9f s.out p
   exact ⟨by omega, fun q hq => by have := b0R k7 q hq; omega⟩
  have k7' : ∀ q ∈ s.out, q.lines.length <= 1073741824 := fun q hq => by have := k7 q hq; omega
  simp -implicitDefEqProofs [eInt, D.asInt, ha1, hb1, tk]
  refine ⟨fun h => ⟨⟨by omega, by omega⟩, fun _ _ => ⟨i + 1, s, ⟨⟨rfl, rfl, rfl, by omega⟩, rfl, rfl⟩, ⟨by omega, (R0 h).symm⟩, by omega⟩⟩, fun hx hy => ⟨⟨k1, by omega⟩, fun _ hio => ⟨kx hx, fun _ _ => ⟨ky hy, fun _ _ => ?_⟩⟩⟩⟩
  have R1 := R1 hx hy
  have F : ∀ out', out' = (run3 o a b (i + 1)).out -> ∃ (n : Nat) (t : S3), (((t.io : Int) = i + 1 /\ (t.ia : Int) = x + 1 /\ (t.ib : Int) = y + 1 /\ (n : Int) = i + 1) /\ t.out = out' /\ out' = t.out) /\ (n <= o.length + 1 /\ t = run3 o a b n) /\ o.length + 1 - n < o.length + 1 - i := fun out' h =>
   ⟨i + 1, run3 o a b (i + 1), ⟨⟨by rw [R1]; simp, by rw [R1]; simp; omega, by rw [R1]; simp; omega, by omega⟩, h.symm, h⟩, ⟨by omega, rfl⟩, by omega⟩
  have R2 : i < o.length -> put3 (put3 s.out (a1b O A B)) (lnP [o.getD i []]) = (run3 o a b (i + 1)).out := fun h => by rw [R1]; simp only [if_pos h]; rfl
  have R3 : o.length <= i -> put3 s.out (a1b O A B) = (run3 o a b (i + 1)).out := fun h => by rw [R1]; simp only [if_neg (show ¬ i < o.length by omega)]
  clear R1 R0
  rw [hO, hA, hB]
  refine ⟨A, O, ⟨rfl, rfl⟩, A, B, ⟨rfl, rfl⟩, fun hc => ?_, fun c1 c2 => ⟨B, O, ⟨rfl, rfl⟩, fun c3 => ?_, fun c3 => ?_⟩⟩
  ·have hp : a1b O A B = lnP B := by unfold a1b; rw [if_pos hc]; rfl
   rw [hp] at R2 R3
   have T := T (lnP B) lB
   exact ⟨⟨by omega, by omega, k7'⟩, fun _ => ⟨fun h => ⟨⟨by omega, by omega⟩, fun _ _ => ⟨⟨by omega, by omega⟩, fun _ _ => ⟨[o.getD i []], (tk1 h).symm, ⟨by simp, T.1, T.2⟩, ⟨by omega, by omega⟩, fun _ _ => ⟨⟨by omega, by omega⟩, fun _ _ => ⟨⟨by omega, by omega⟩, fun _ _ => ⟨⟨by omega, by omega⟩, fun _ _ => F _ (R2 h)⟩⟩⟩⟩⟩⟩,
    fun h => ⟨⟨by omega, by omega⟩, fun _ _ => ⟨⟨by omega, by omega⟩, fun _ _ => ⟨⟨by omega, by omega⟩, fun _ _ => ⟨⟨by omega, by omega⟩, fun _ _ => F _ (R3 h)⟩⟩⟩⟩⟩⟩
  ·have hp : a1b O A B = lnP A := by unfold a1b; rw [if_neg (by rintro (q | q); exact c1 q; exact c2 q), if_pos c3]; rfl
   rw [hp] at R2 R3
   have T := T (lnP A) lA
   exact ⟨⟨by omega, by omega, k7'⟩, fun _ => ⟨fun h => ⟨⟨by omega, by omega⟩, fun _ _ => ⟨⟨by omega, by omega⟩, fun _ _ => ⟨[o.getD i []], (tk1 h).symm, ⟨by simp, T.1, T.2⟩, ⟨by omega, by omega⟩, fun _ _ => ⟨⟨by omega, by omega⟩, fun _ _ => ⟨⟨by omega, by omega⟩, fun _ _ => ⟨⟨by omega, by omega⟩, fun _ _ => F _ (R2 h)⟩⟩⟩⟩⟩⟩,
    fun h => ⟨⟨by omega, by omega⟩, fun _ _ => ⟨⟨by omega, by omega⟩, fun _ _ => ⟨⟨by omega, by omega⟩, fun _ _ => ⟨⟨by omega, by omega⟩, fun _ _ => F _ (R3 h)⟩⟩⟩⟩⟩⟩
  ·have hp : a1b O A B = ⟨true, [], O, A, B⟩ := by unfold a1b; rw [if_neg (by rintro (q | q); exact c1 q; exact c2 q), if_neg c3]
   have sn2 : a0w s.out ++ [[D.bool true, D.sl 9 1 [], D.sl 9 1 (a0b O), D.sl 9 1 (a0b A), D.sl 9 1 (a0b B)]] = a0w (put3 s.out (a1b O A B)) := by
    rw [hp, a8f rfl, b5e]; rfl
   have T := T (a1b O A B) (by rw [hp]; simp)
   exact ⟨by omega, by omega, by omega, ⟨by omega, by omega⟩, fun _ => ⟨fun h => ⟨⟨by omega, by omega⟩, fun _ _ => ⟨⟨by omega, by omega⟩, fun _ _ => ⟨[o.getD i []], (tk1 h).symm, put3 s.out (a1b O A B), sn2.symm, sn2, ⟨by simp, T.1, T.2⟩, ⟨by omega, by omega⟩, fun _ _ => ⟨⟨by omega, by omega⟩, fun _ _ => ⟨⟨by omega, by omega⟩, fun _ _ => ⟨⟨by omega, by omega⟩, fun _ _ => F _ (R2 h)⟩⟩⟩⟩⟩⟩,
    fun h => ⟨⟨by omega, by omega⟩, fun _ _ => ⟨⟨by omega, by omega⟩, fun _ _ => ⟨⟨by omega, by omega⟩, fun _ _ => ⟨⟨by omega, by omega⟩, fun _ _ => by
     obtain ⟨n, t, ⟨q1, q2, q3⟩, q4⟩ := F _ (R3 h)
     exact ⟨n, t, ⟨q1, by rw [sn2, q2], by rw [sn2, q2]⟩, q4⟩⟩⟩⟩⟩⟩⟩
 ·have : i = o.length + 1 := by omega
  subst this
  exact ⟨rfl, rfl⟩
--TAB a2z
def cMt1 : Con := .fn 4 PartD (fun q => [.agg [.bool q.clash, .sl true 1 (a0b q.lines), .sl true 1 (a0b q.old), .sl true 1 (a0b q.one), .sl true 1 (a0b q.two)]]) (fun _ => True) (fun _ => .tup [.sl true 1 [], .bool false]) (fun _ => [])
theorem c9J : Has Tryz.prog 244 cMt1 := by
 refine a0d mixed a2g HasL.nil [0, 2, 3] ((fun a n (_ : Nat) => (fun _ => a0F) a n)) [] Tryz.func244 (by unfold Tryz.f244; rfl) (fun _ => ⟨(), trivial⟩) ?_
 intro (q : PartD) _
 simp -implicitDefEqProofs [cMt1, Con.fn, a2z, tTab]
theorem d1c {o a b : List Str} (h1 : a1f o = true) (h2 : a1f a = true) (h3 : a1f b = true) : (of3 o a b).length <= 22 /\ ∀ q ∈ of3 o a b, q.lines.length <= 33 := by
 obtain ⟨k1, k2, k3, _, _, k6, k7⟩ := a8b o a b (o.length + 1) (Nat.le_refl _)
 have l1 := a4o h1
 have l2 := a4o h2
 have l3 := a4o h3
 refine ⟨?_, fun q hq => ?_⟩
 ·show (run3 o a b (o.length + 1)).out.length <= 22
  omega
 ·have := k7 q hq
  omega
theorem b4J {l : List PartD} {n : Nat} (h : ∀ q ∈ l, q.lines.length <= n) : ∀ i, i <= l.length -> (a1m l i).length <= i * n
 | 0, _ => by simp -implicitDefEqProofs [a1m]
 | i + 1, hi => by
  have e : a1m l (i + 1) = a1m l i ++ l[i].lines := by unfold a1m; rw [a0p (show i < l.length by omega), List.flatMap_append]; simp
  have h1 := h l[i] (List.getElem_mem _)
  have h2 := b4J h i (by omega)
  rw [e, List.length_append, Nat.succ_mul]; omega
def mrgI (o a b : List Str) : List Str × Bool := if a1f o && a1f a && a1f b then a1W (of3 o a b) else ([], false)
def b3N : Con := .fn 51 (List Str × List Str × List Str) (fun a => [.sl true 1 (a0b a.1), .sl true 1 (a0b a.2.1), .sl true 1 (a0b a.2.2), .clo 244 []]) (fun a => True) (fun a => .tup [.own 8 1 (a0b (mrgI a.1 a.2.1 a.2.2).1), .bool (mrgI a.1 a.2.1 a.2.2).2]) (fun a => a2a 8 (mrgI a.1 a.2.1 a.2.2).1)
theorem c1I : Has Tryz.prog 243 b3N := by
 refine a0d mixed a2g (HasL.cons b5W (HasL.cons b8P (HasL.cons c9J (HasL.cons a6C HasL.nil)))) [0, 1, 2, 3, 8, 9, 10, 12, 13, 14, 15, 24, 25, 26] ((fun a n (_ : Nat) => (fun a _ => ⟨Nat, fun i => ⟨[(3, true, .clo 244 []), (8, true, .nil), (9, true, .bool false), (10, true, .own 9 1 (a0b (a1m (of3 a.1 a.2.1 a.2.2) i))), (24, true, .own 10 5 (a0w (of3 a.1 a.2.1 a.2.2))), (25, true, .int .i64 (of3 a.1 a.2.1 a.2.2).length), (26, true, .int .i64 i)], [(9, .own 9 1 true (a0b (a1m (of3 a.1 a.2.1 a.2.2) i))), (10, .own 237 5 true (a0w (of3 a.1 a.2.1 a.2.2)))]⟩, fun i => i <= (of3 a.1 a.2.1 a.2.2).length /\ ((of3 a.1 a.2.1 a.2.2).take i).any (·.clash) = false /\ a1f a.1 = true /\ a1f a.2.1 = true /\ a1f a.2.2 = true, fun i => (of3 a.1 a.2.1 a.2.2).length - i⟩) a n)) [] Tryz.func243 (by unfold Tryz.f243; rfl) (fun _ => ⟨(), trivial⟩) ?_
 intro a _
 obtain ⟨o, a, b⟩ := a
 simp (maxSteps := 8000000) -implicitDefEqProofs [-kStep_move, -Bool.exists_bool, b3N, a9D, b1C, cMt1, a6G, Con.fn, a2z, tTab]
 try dsimp only
 have f : ∀ (t : List Str), ∀ x ∈ a0b t, ∀ d ∈ x, match d with | .sl _ _ _ => False | _ => True := fun t => (eStrs_flat t).mpr trivial
 have m0 : (a1f o = false \/ a1f a = false) \/ a1f b = false -> mrgI o a b = ([], false) := fun h => by unfold mrgI; rw [if_neg]; rcases h with (h | h) | h <;> simp -implicitDefEqProofs [h]
 refine ⟨o, a, b, ⟨rfl, rfl, rfl⟩, fun h => by rw [m0 h]; exact ⟨⟨rfl, rfl⟩, rfl⟩, fun b1 b2 b3 => ?_⟩
 have m1 : mrgI o a b = a1W (of3 o a b) := by unfold mrgI; rw [b1, b2, b3]; rfl
 obtain ⟨d1, d2⟩ := d1c b1 b2 b3
 have l1 := a4o b1
 have l2 := a4o b2
 have l3 := a4o b3
 rw [m1]
 clear m0 m1
 refine ⟨o, a, b, ⟨rfl, rfl, rfl⟩, ⟨by omega, by omega, by omega⟩, fun _ => ?_⟩
 generalize of3 o a b = l at *
 have ll := b4J d2
 have hn0 : (∃ q ∈ l, q.clash = true) -> a1W l = ([], false) := fun ⟨q, h, h'⟩ => by unfold a1W; rw [if_pos (by simp; exact ⟨q, h, h'⟩)]
 have hn1 : (∀ q ∈ l, q.clash = false) -> a1f (a1m l l.length) = false -> a1W l = ([], false) := fun h h' => by
  unfold a1W a1m at *; rw [List.take_length] at h'; rw [if_neg (by simp; exact h), if_neg (by simp -implicitDefEqProofs [h'])]
 have hn2 : (∀ q ∈ l, q.clash = false) -> a1f (a1m l l.length) = true -> a1W l = (a1m l l.length, true) := fun h h' => by
  unfold a1W a1m at *; rw [List.take_length] at *; rw [if_neg (by simp; exact h), if_pos h']
 refine ⟨⟨0, ⟨⟨rfl, rfl, rfl, rfl⟩, rfl, rfl⟩, Nat.zero_le _, by simp, b1, b2, b3⟩, fun t ht hc c1 c2 c3 => ⟨fun hlt => ⟨hlt, fun _ => ?_⟩, fun hge => ?_⟩⟩
 ·have e : a1m l (t + 1) = a1m l t ++ l[t].lines := by unfold a1m; rw [a0p hlt, List.flatMap_append]; simp
  have q1 := d2 l[t] (List.getElem_mem hlt)
  have q2 := ll t ht
  have q3 : l[t] ∈ l := List.getElem_mem hlt
  have q4 : ∀ x ∈ l.take (t + 1), x ∈ l.take t \/ x = l[t] := fun x hx => by rw [a0p hlt] at hx; exact (List.mem_append.1 hx).imp id (fun h => List.mem_singleton.1 h)
  have qq : Option.map a1P l[t]? = some (a1P l[t]) := by simp -implicitDefEqProofs [hlt]
  rw [qq]
  generalize l[t] = q at *
  simp -implicitDefEqProofs [a1P]
  refine ⟨fun h => (by rw [hn0 ⟨q, q3, h⟩]; exact ⟨⟨rfl, rfl⟩, rfl⟩), fun h => ⟨f _, ⟨by omega, by omega⟩, ⟨by omega, by omega⟩, fun _ _ => ⟨t + 1, ⟨⟨by rw [e, a0i], by omega⟩, by rw [e, a0i]⟩, ⟨by omega, fun x hx => (q4 x hx).elim (hc x) (fun hx => hx ▸ h), c1, c2, c3⟩, by omega⟩⟩⟩
 ·have : t = l.length := by omega
  subst this
  rw [List.take_length] at hc
  exact ⟨fun h => by rw [hn1 hc h]; exact ⟨⟨rfl, rfl⟩, rfl⟩, fun h => by rw [hn2 hc h]; exact ⟨⟨rfl, rfl⟩, rfl⟩⟩
def a8D : Con := .fn 14 (List Str × List Str × List Str) (fun a => [.sl true 1 (a0b a.1), .sl true 1 (a0b a.2.1), .sl true 1 (a0b a.2.2)]) (fun a => True) (fun a => .tup [.own 8 1 (a0b (mrgI a.1 a.2.1 a.2.2).1), .bool (mrgI a.1 a.2.1 a.2.2).2]) (fun a => a2a 8 (mrgI a.1 a.2.1 a.2.2).1)
theorem b5n : Has Tryz.prog 226 a8D := by
 refine a0d mixed a2g (HasL.cons c1I HasL.nil) [0, 1, 2, 6, 7] ((fun a n (_ : Nat) => (fun _ => a0F) a n)) [] Tryz.func226 (by unfold Tryz.f226; rfl) (fun _ => ⟨(), trivial⟩) ?_
 intro a _
 obtain ⟨o, a, b⟩ := a
 simp (maxSteps := 8000000) -implicitDefEqProofs [a8D, b3N, Con.fn, a2z, tTab]
 try dsimp only
 exact ⟨o, a, b, ⟨rfl, rfl, rfl⟩, ⟨rfl, rfl⟩, rfl⟩
def oneH (o a b : List Str × Bool) : (List Str × Bool) × Int :=
 if b0U a o || b0U a b then (b, 0) else if b0U b o then (a, 0) else if !a.2 || !b.2 then (o, 1) else if !o.2 then (o, 2)
 else if (mrgI o.1 a.1 b.1).2 then ((( mrgI o.1 a.1 b.1).1, true), 0) else (o, 3)
def b6S (a : (List Str × Bool) × (List Str × Bool) × (List Str × Bool)) : List (Nat × Nat × Nat × List (List D)) := [(0, 9, 1, a0b a.1.1), (1, 9, 1, a0b a.2.1.1), (2, 9, 1, a0b a.2.2.1)]
def b6R (a : (List Str × Bool) × (List Str × Bool) × (List Str × Bool)) : List AV := [.agg [.own 0 1 (a0b a.1.1), .bool a.1.2], .agg [.own 1 1 (a0b a.2.1.1), .bool a.2.1.2], .agg [.own 2 1 (a0b a.2.2.1), .bool a.2.2.2]]
def b3C : Con := { A := (List Str × Bool) × (List Str × Bool) × (List Str × Bool), X := Unit, n := 55, args := b6R, boxes := fun _ => [], pre := fun _ => True, post := fun _ _ => True, res := fun a _ => .tup [.agg [.own 8 1 (a0b (oneH a.1 a.2.1 a.2.2).1.1), .bool (oneH a.1 a.2.1 a.2.2).1.2], .int .i64 (oneH a.1 a.2.1 a.2.2).2], fin := fun a _ => [(8, .own 9 1 true (a0b (oneH a.1 a.2.1 a.2.2).1.1))], owns := b6S, mv := true }
theorem c0X : Has Tryz.prog 200 b3C := by
 refine a0d mixed a2g (HasL.cons b8p (HasL.cons b5n HasL.nil)) [0, 1, 2, 3, 4, 5, 6, 7, 8, 9] ((fun a n (_ : Nat) => (fun _ => a0F) a n)) [] Tryz.func200 (by unfold Tryz.f200; rfl) (fun _ => ⟨(), trivial⟩) ?_
 intro a _
 obtain ⟨⟨o, p⟩, ⟨a, q⟩, b, r⟩ := a
 simp (maxSteps := 8000000) -implicitDefEqProofs [-kStep_move, -kStepC_move, -Bool.exists_bool, b3C, b6R, b6S, b1t, a8D, Con.fn, a2z, tTab]
 try dsimp only
 have fin : ∀ (x : (List Str × Bool) × Int) (t : List Str) (d : Bool) (n : Int), x = ((t, d), n) -> ((x.1.1 = t /\ x.1.2 = d) /\ x.2 = n) /\ t = x.1.1 := fun x t d n h => by subst h; exact ⟨⟨⟨rfl, rfl⟩, rfl⟩, rfl⟩
 refine ⟨a, q, o, p, ⟨⟨rfl, rfl⟩, rfl, rfl⟩, a, q, b, r, ⟨⟨rfl, rfl⟩, rfl, rfl⟩, fun h => fin _ _ _ _ ?_, fun h1 h2 => ⟨b, r, o, p, ⟨⟨rfl, rfl⟩, rfl, rfl⟩, fun h3 => fin _ _ _ _ ?_, fun h3 => ⟨fun h4 => fin _ _ _ _ ?_, fun h4 h5 => ⟨fun h6 => fin _ _ _ _ ?_, fun h6 => ⟨o, a, b, ⟨rfl, rfl, rfl⟩, fun h7 => fin _ _ _ _ ?_, fun h7 => fin _ _ _ _ ?_⟩⟩⟩⟩⟩
 ·unfold oneH; rw [if_pos (by simpa using h)]
 ·unfold oneH; rw [if_neg (by simp -implicitDefEqProofs [h1, h2]), if_pos h3]
 ·unfold oneH; rw [if_neg (by simp -implicitDefEqProofs [h1, h2]), if_neg (by simp -implicitDefEqProofs [h3]), if_pos (by simpa using h4)]
 ·unfold oneH; rw [if_neg (by simp -implicitDefEqProofs [h1, h2]), if_neg (by simp -implicitDefEqProofs [h3]), if_neg (by simp -implicitDefEqProofs [h4, h5]), if_pos (by simpa using h6)]
 ·unfold oneH; rw [if_neg (by simp -implicitDefEqProofs [h1, h2]), if_neg (by simp -implicitDefEqProofs [h3]), if_neg (by simp -implicitDefEqProofs [h4, h5]), if_neg (by simp -implicitDefEqProofs [h6]), if_neg (by simp -implicitDefEqProofs [h7])]
 ·unfold oneH; rw [if_neg (by simp -implicitDefEqProofs [h1, h2]), if_neg (by simp -implicitDefEqProofs [h3]), if_neg (by simp -implicitDefEqProofs [h4, h5]), if_neg (by simp -implicitDefEqProofs [h6]), if_pos h7]
def b3H : Con := .fn 21 ((List Str × Bool) × (List Str × Bool)) (fun a => [.sl true 1 (a0b a.1.1), .bool a.1.2, .sl true 1 (a0b a.2.1), .bool a.2.2]) (fun _ => True) (fun a => .bool (a1Q a.1 a.2)) (fun _ => [])
theorem c1u : Has Tryz.prog 247 b3H := by
 refine a0d mixed a0f (HasL.cons b2O HasL.nil) [0, 1, 2, 3, 8] ((fun a n (_ : Nat) => (fun _ => a0F) a n)) [] Tryz.func247 (by unfold Tryz.f247; rfl) (fun _ => ⟨(), trivial⟩) ?_
 intro a _
 obtain ⟨⟨x, i⟩, y, j⟩ := a
 simp -implicitDefEqProofs [b3H, b0H, Con.fn, tTab]
 try dsimp only
 cases i <;> cases j <;> simp -implicitDefEqProofs [a1Q, and_assoc]
theorem d1b (o a b : List Str) : (of3 o a b).length <= 2 * (o.length + 1) /\ ∀ q ∈ of3 o a b, q.lines.length <= o.length + a.length + b.length + 3 := by
 obtain ⟨h1, h2, h3, h4, h5, h6, h7⟩ := a8b o a b (o.length + 1) (Nat.le_refl _)
 exact ⟨h6, fun q hq => by have := h7 q hq; omega⟩
def b6o : Con := .fn 82 (List FileD × List FileD × List FileD × Str) (fun a => [.sl true 2 (a0a a.1), .sl true 2 (a0a a.2.1), .sl true 2 (a0a a.2.2.1), .str a.2.2.2]) (fun a => (∀ f ∈ a.1, f.text.length <= 64) /\ (∀ f ∈ a.2.1, f.text.length <= 64) /\ ∀ f ∈ a.2.2.1, f.text.length <= 64) (fun a => .tup [.sl false 1 (a0b (one6 a.1 a.2.1 a.2.2.1 a.2.2.2).1), .bool (one6 a.1 a.2.1 a.2.2.1 a.2.2.2).2.1, .int .i64 (one6 a.1 a.2.1 a.2.2.1 a.2.2.2).2.2]) (fun _ => [])
theorem c4j : Has Tryz.prog 229 b6o := by
 refine a0d mixed a0f (HasL.cons c4f (HasL.cons c1u (HasL.cons c6R (HasL.cons c1r HasL.nil)))) [0, 1, 2, 3, 8, 9, 10, 11, 12, 13, 14, 15, 16, 17, 18, 37] ((fun a n (_ : Nat) => (fun _ => a0F) a n)) [] Tryz.func229 (by unfold Tryz.f229; rfl) (fun _ => ⟨(), trivial⟩) ?_
 intro a ha
 obtain ⟨o, a, b, p⟩ := a
 obtain ⟨h1, h2, h3⟩ : (∀ f ∈ o, f.text.length <= 64) /\ (∀ f ∈ a, f.text.length <= 64) /\ ∀ f ∈ b, f.text.length <= 64 := ha
 have g1 := a5H h1 p
 have g2 := a5H h2 p
 have g3 := a5H h3 p
 simp (maxSteps := 8000000) -implicitDefEqProofs [-kStep_move, -Bool.exists_bool, b6o, b6m, b3H, c0l, b3G, Con.fn, tTab]
 try dsimp only
 have so : ∀ x y : List Str × Bool, a1Q (x.1, x.2) (y.1, y.2) = a1Q x y := fun _ _ => rfl
 have ob := d1b (getL o p).1 (getL a p).1 (getL b p).1
 generalize hO : getL o p = O at *
 generalize hA : getL a p = A at *
 generalize hB : getL b p = B at *
 have e1 : (a1Q A O = true \/ a1Q A B = true) -> one6 o a b p = (B.1, B.2, 0) := fun h => by unfold one6; rw [hO, hA, hB]; rw [if_pos (by simpa using h)]
 have e2 : a1Q A O = false -> a1Q A B = false -> a1Q B O = true -> one6 o a b p = (A.1, A.2, 0) := fun h h' h2 => by unfold one6; rw [hO, hA, hB]; rw [if_neg (by simp -implicitDefEqProofs [h, h']), if_pos h2]
 have e3 : a1Q A O = false -> a1Q A B = false -> a1Q B O = false -> (A.2 = false \/ B.2 = false) -> one6 o a b p = (O.1, O.2, 1) := fun h h' h2 h3 => by unfold one6; rw [hO, hA, hB]; rw [if_neg (by simp -implicitDefEqProofs [h, h']), if_neg (by simp -implicitDefEqProofs [h2]), if_pos (by simpa using h3)]
 have e4 : a1Q A O = false -> a1Q A B = false -> a1Q B O = false -> A.2 = true -> B.2 = true -> O.2 = false -> one6 o a b p = ([], false, 2) := fun h h' h2 h3 h4 h5 => by unfold one6; rw [hO, hA, hB]; rw [if_neg (by simp -implicitDefEqProofs [h, h']), if_neg (by simp -implicitDefEqProofs [h2]), if_neg (by simp -implicitDefEqProofs [h3, h4]), if_pos (by simp -implicitDefEqProofs [h5])]
 have e5 : a1Q A O = false -> a1Q A B = false -> a1Q B O = false -> A.2 = true -> B.2 = true -> O.2 = true -> (a1W (of3 O.1 A.1 B.1)).2 = true -> one6 o a b p = ((a1W (of3 O.1 A.1 B.1)).1, true, 0) := fun h h' h2 h3 h4 h5 h6 => by unfold one6; rw [hO, hA, hB]; rw [if_neg (by simp -implicitDefEqProofs [h, h']), if_neg (by simp -implicitDefEqProofs [h2]), if_neg (by simp -implicitDefEqProofs [h3, h4]), if_neg (by simp -implicitDefEqProofs [h5]), if_pos h6]
 have e6 : a1Q A O = false -> a1Q A B = false -> a1Q B O = false -> A.2 = true -> B.2 = true -> O.2 = true -> (a1W (of3 O.1 A.1 B.1)).2 = false -> one6 o a b p = (O.1, true, 3) := fun h h' h2 h3 h4 h5 h6 => by unfold one6; rw [hO, hA, hB]; rw [if_neg (by simp -implicitDefEqProofs [h, h']), if_neg (by simp -implicitDefEqProofs [h2]), if_neg (by simp -implicitDefEqProofs [h3, h4]), if_neg (by simp -implicitDefEqProofs [h5]), if_neg (by simp -implicitDefEqProofs [h6])]
 refine ⟨o, p, ⟨rfl, rfl⟩, a, p, ⟨rfl, rfl⟩, b, p, ⟨rfl, rfl⟩, ?_⟩
 rw [hO, hA, hB]
 refine ⟨_, _, _, _, ⟨rfl, rfl, rfl, rfl⟩, fun h => ⟨fun _ => ?_, fun h' => absurd (h.symm.trans h') (by decide)⟩, fun h => ⟨_, _, _, _, ⟨rfl, rfl, rfl, rfl⟩, fun h2 => ?_, fun h2 => ⟨_, _, _, _, ⟨rfl, rfl, rfl, rfl⟩, fun h3 => ?_, fun h3 => ⟨fun h4 => ?_, fun h4 h5 => ⟨fun h6 => ?_, fun h6 => ⟨_, _, _, ⟨rfl, rfl, rfl⟩, ⟨by omega, by omega, by omega⟩, ⟨by omega, fun q hq => by have := ob.2 q hq; omega⟩, ?_⟩⟩⟩⟩⟩⟩
 ·rw [e1 (.inl h)]; exact ⟨rfl, rfl, rfl⟩
 ·rw [e1 (.inr h2)]; exact ⟨rfl, rfl, rfl⟩
 ·rw [e2 h h2 h3]; exact ⟨rfl, rfl, rfl⟩
 ·rw [e3 h h2 h3 h4]; exact ⟨rfl, rfl, rfl⟩
 ·rw [e4 h h2 h3 h4 h5 h6]; exact ⟨rfl, rfl, rfl⟩
 ·exact ⟨fun h7 => by rw [e6 h h2 h3 h4 h5 h6 h7]; exact ⟨rfl, rfl, rfl⟩, fun h7 => by rw [e5 h h2 h3 h4 h5 h6 h7]; exact ⟨rfl, rfl, rfl⟩⟩
def b6n : Con := .fn 48 (List Str × Str) (fun a => [.sl true 1 (a0b a.1), .str a.2]) (fun a => a.1.length <= 1073741824) (fun a => .sl false 1 (a0b (putS a.1 a.2))) (fun _ => [])
theorem c4i : Has Tryz.prog 245 b6n := by
 refine a0d mixed a0f HasL.nil [0, 1, 4, 5, 6] ((fun a n (_ : Nat) => (fun a _ => ⟨Nat, fun k => ⟨[(0, true, .sl true 1 (a0b a.1)), (1, true, .str a.2), (4, true, .nil), (5, true, .int .i64 k)], []⟩, fun k => k <= a.1.length /\ a.1.take k ++ putS (a.1.drop k) a.2 = putS a.1 a.2, fun k => a.1.length - k⟩) a n)) [] Tryz.func245 (by unfold Tryz.f245; rfl) (fun _ => ⟨(), trivial⟩) ?_
 intro a ha
 obtain ⟨l, s⟩ := a
 replace ha : l.length <= 1073741824 := ha
 simp -implicitDefEqProofs [b6n, Con.fn, tTab]
 try dsimp only
 have f : ∀ (t : List Str), ∀ x ∈ a0b t, ∀ d ∈ x, match d with | .sl _ _ _ => False | _ => True := fun t => (eStrs_flat t).mpr trivial
 have f1 : ∀ t, ∀ x ∈ List.take t (a0b l), ∀ d ∈ x, match d with | .sl _ _ _ => False | _ => True := fun t => by rw [a0m]; exact f _
 have f2 : ∀ t, ∀ x ∈ List.take (l.length - t) (List.drop t (a0b l)), ∀ d ∈ x, match d with | .sl _ _ _ => False | _ => True := fun t => by rw [a0q, a0m]; exact f _
 have fin : ∀ t, putS l s = l.take t ++ [s] ++ l.drop t -> a0b (putS l s) = List.take t (a0b l) ++ [D.str s] :: List.take (l.length - t) (List.drop t (a0b l)) := fun t h => by
  rw [h, a0q, a0m, a0m, List.take_of_length_le (show (l.drop t).length <= l.length - t by simp)]
  simp -implicitDefEqProofs [a0b, eStr]
 refine fun t ht hp _ => ⟨fun hlt => ⟨hlt, fun _ => ?_⟩, fun hge _ => ⟨fun hlt => absurd hlt (by omega), fun _ => ⟨ht, fun _ => ⟨f1 t, ⟨by omega, by omega⟩, ⟨by omega, by omega⟩, ht, fun _ => ⟨f2 t, ⟨by omega, by omega⟩, fin t (c7K hge hp)⟩⟩⟩⟩⟩
 have qq : Option.map eStr l[t]? = some (eStr l[t]) := by simp -implicitDefEqProofs [hlt]
 rw [qq]
 have g1 := c4Z hlt hp
 have g2 := c9V hlt hp
 have g3 := c9W hlt hp
 generalize l[t] = y at *
 simp -implicitDefEqProofs [eStr, D.asStr]
 refine ⟨fun h => ⟨⟨by omega, by omega⟩, fun _ _ => ⟨t + 1, by omega, ⟨by omega, g1 h⟩, by omega⟩⟩, fun h _ => ⟨fun _ => ⟨hlt, fun _ => ⟨fun e => g2 h e, fun e => ⟨ht, fun _ => ⟨f1 t, ⟨by omega, by omega⟩, ⟨by omega, by omega⟩, ht, fun _ => ⟨f2 t, ⟨by omega, by omega⟩, fin t (g3 h e)⟩⟩⟩⟩⟩, fun hge => absurd hlt (by omega)⟩⟩
def c1v (o a b : List FileD) : Inv := ⟨Nat, fun i => ⟨[(0, true, .sl true 2 (a0a o)), (1, true, .sl true 2 (a0a a)), (2, true, .sl true 2 (a0a b)), (6, true, .nil), (7, true, .sl false 1 (a0b (a1s [] (o.take i)))), (8, true, .int .i64 i)], []⟩, fun i => i <= o.length, fun i => o.length - i⟩
def c1w (o a b : List FileD) : Inv := ⟨Nat, fun i => ⟨[(0, true, .sl true 2 (a0a o)), (1, true, .sl true 2 (a0a a)), (2, true, .sl true 2 (a0a b)), (6, true, .nil), (7, true, .sl false 1 (a0b (a1s (a1s [] o) (a.take i)))), (9, true, .int .i64 i)], []⟩, fun i => i <= a.length, fun i => a.length - i⟩
def c1x (o a b : List FileD) : Inv := ⟨Nat, fun i => ⟨[(0, true, .sl true 2 (a0a o)), (1, true, .sl true 2 (a0a a)), (2, true, .sl true 2 (a0a b)), (6, true, .nil), (7, true, .sl false 1 (a0b (a1s (a1s (a1s [] o) a) (b.take i)))), (10, true, .int .i64 i)], []⟩, fun i => i <= b.length, fun i => b.length - i⟩
def b2U (o a b : List FileD) (n : Nat) : Inv := if n = 3 then c1v o a b else if n = 7 then c1w o a b else c1x o a b
theorem c6T (o a b : List FileD) : b2U o a b 3 = c1v o a b := rfl
theorem c6U (o a b : List FileD) : b2U o a b 7 = c1w o a b := rfl
theorem c4k (o a b : List FileD) : b2U o a b 11 = c1x o a b := rfl
def b1z : Con := .fn 52 (List FileD × List FileD × List FileD) (fun a => [.sl true 2 (a0a a.1), .sl true 2 (a0a a.2.1), .sl true 2 (a0a a.2.2)]) (fun a => a.1.length <= 1048576 /\ a.2.1.length <= 1048576 /\ a.2.2.length <= 1048576) (fun a => .sl false 1 (a0b (a0P a.1 a.2.1 a.2.2))) (fun _ => [])
theorem b8I : Has Tryz.prog 228 b1z := by
 refine a0d mixed a0f (HasL.cons c4i HasL.nil) [0, 1, 2, 6, 7, 8, 9, 10] ((fun a n (_ : Nat) => (fun a n => b2U a.1 a.2.1 a.2.2 n) a n)) [] Tryz.func228 (by unfold Tryz.f228; rfl) (fun _ => ⟨(), trivial⟩) ?_
 intro a ha
 obtain ⟨o, a, b⟩ := a
 obtain ⟨h1, h2, h3⟩ : o.length <= 1048576 /\ a.length <= 1048576 /\ b.length <= 1048576 := ha
 simp -implicitDefEqProofs [b1z, b6n, Con.fn, tTab, c6T, c6U, c4k, c1v, c1w, c1x]
 try dsimp only
 have b1 := a3D o []
 have b2 := a3D a (a1s [] o)
 simp only [List.length_nil] at b1
 have z : ([] : List Str).length = 0 := rfl
 refine ⟨⟨0, ⟨rfl, rfl⟩, Nat.zero_le _⟩, fun t ht _ => ⟨fun hlt => ⟨hlt, fun _ => ?_⟩, fun hge => ⟨⟨0, ⟨by rw [List.take_of_length_le hge]; rfl, rfl⟩, Nat.zero_le _⟩, fun u hu _ => ⟨fun hlt => ⟨hlt, fun _ => ?_⟩, fun hge => ⟨⟨0, ⟨by rw [List.take_of_length_le hge]; rfl, rfl⟩, Nat.zero_le _⟩, fun v hv _ => ⟨fun hlt => ⟨hlt, fun _ => ?_⟩, fun hge => by rw [List.take_of_length_le hge]; rfl⟩⟩⟩⟩⟩⟩
 ·have hb := a3D (o.take t) ([])
  have hl : (o.take t).length <= o.length := by simp; omega
  have qq : Option.map a0k o[t]? = some (a0k o[t]) := by simp -implicitDefEqProofs [hlt]
  have hs := a9g (l := []) hlt
  rw [qq]
  simp -implicitDefEqProofs [a0k, D.asStr]
  exact ⟨_, _, ⟨rfl, rfl⟩, by omega, ⟨by omega, by omega⟩, fun _ _ => ⟨t + 1, ⟨hs, by omega⟩, by omega, by omega⟩⟩
 ·have hb := a3D (a.take u) (a1s [] o)
  have hl : (a.take u).length <= a.length := by simp; omega
  have qq : Option.map a0k a[u]? = some (a0k a[u]) := by simp -implicitDefEqProofs [hlt]
  have hs := a9g (l := a1s [] o) hlt
  rw [qq]
  simp -implicitDefEqProofs [a0k, D.asStr]
  exact ⟨_, _, ⟨rfl, rfl⟩, by omega, ⟨by omega, by omega⟩, fun _ _ => ⟨u + 1, ⟨hs, by omega⟩, by omega, by omega⟩⟩
 ·have hb := a3D (b.take v) (a1s (a1s [] o) a)
  have hl : (b.take v).length <= b.length := by simp; omega
  have qq : Option.map a0k b[v]? = some (a0k b[v]) := by simp -implicitDefEqProofs [hlt]
  have hs := a9g (l := a1s (a1s [] o) a) hlt
  rw [qq]
  simp -implicitDefEqProofs [a0k, D.asStr]
  exact ⟨_, _, ⟨rfl, rfl⟩, by omega, ⟨by omega, by omega⟩, fun _ _ => ⟨v + 1, ⟨hs, by omega⟩, by omega, by omega⟩⟩
abbrev c7v (h : Nat) (a : List HeadD) : List (Nat × Blk) := [(h, .own 193 2 true (a0c a))]
def l6oI (o a b : List FileD) : Inv := ⟨Nat, fun i => ⟨[(0, true, .sl true 2 (a0a o)), (1, true, .sl true 2 (a0a a)), (2, true, .sl true 2 (a0a b)), (6, true, .nil), (7, true, .nil), (8, true, .own 9 2 (a0a (runJ o a b ((a0P o a b).take i)).1)), (9, true, .own 10 2 (a0c (runJ o a b ((a0P o a b).take i)).2)), (10, true, .sl false 1 (a0b (a0P o a b))), (11, true, .int .i64 i)], [(9, .own 99 2 true (a0a (runJ o a b ((a0P o a b).take i)).1)), (10, .own 193 2 true (a0c (runJ o a b ((a0P o a b).take i)).2))]⟩, fun i => i <= (a0P o a b).length, fun i => (a0P o a b).length - i⟩
def szT (t : List FileD) : Prop := t.length <= 100000 /\ ∀ f ∈ t, f.text.length <= 64
def c0m : Con := .fn 64 (List FileD × List FileD × List FileD) (fun a => [.sl true 2 (a0a a.1), .sl true 2 (a0a a.2.1), .sl true 2 (a0a a.2.2)]) (fun a => szT a.1 /\ szT a.2.1 /\ szT a.2.2) (fun a => .tup [.own 8 2 (a0a (of6 a.1 a.2.1 a.2.2).1), .own 9 2 (a0c (of6 a.1 a.2.1 a.2.2).2)]) (fun a => a2s 8 (of6 a.1 a.2.1 a.2.2).1 ++ c7v 9 (of6 a.1 a.2.1 a.2.2).2)
theorem c6S : Has Tryz.prog 204 c0m := by
 refine a0d mixed a0f (HasL.cons b8I (HasL.cons c4j HasL.nil)) [0, 1, 2, 6, 7, 8, 9, 10, 11, 12, 13, 14] ((fun a n (_ : Nat) => (fun a _ => l6oI a.1 a.2.1 a.2.2) a n)) [60] Tryz.func204 (by unfold Tryz.f204; rfl) (fun _ => ⟨(), trivial⟩) ?_
 intro a ha
 obtain ⟨o, a, b⟩ := a
 obtain ⟨⟨h1, h1'⟩, ⟨h2, h2'⟩, h3, h3'⟩ : szT o /\ szT a /\ szT b := ha
 simp -implicitDefEqProofs [c0m, b1z, b6o, Con.fn, tTab, l6oI]
 try dsimp only
 have hp := b3f o a b
 refine ⟨o, a, b, ⟨rfl, rfl, rfl⟩, ⟨by omega, by omega, by omega⟩, ⟨0, ⟨⟨rfl, rfl, rfl, rfl⟩, rfl, rfl⟩, Nat.zero_le _⟩, fun t ht _ => ⟨fun hlt => ⟨hlt, fun _ => ?_⟩, fun hge => ?_⟩⟩
 ·have qq : Option.map eStr (a0P o a b)[t]? = some (eStr (a0P o a b)[t]) := by simp -implicitDefEqProofs [hlt]
  have hs := b4U (o := o) (a := a) (b := b) hlt
  have hb := b7J o a b ((a0P o a b).take t)
  have hl : ((a0P o a b).take t).length <= (a0P o a b).length := by simp; omega
  have ho := b7q (p := (a0P o a b)[t]) (show 10 <= 64 by omega) h1' h2' h3'
  rw [qq]
  generalize runJ o a b ((a0P o a b).take t) = R at *
  generalize (a0P o a b)[t] = y at *
  obtain ⟨X, Y⟩ := R
  simp only at hb
  simp -implicitDefEqProofs [eStr, D.asStr]
  refine ⟨o, a, b, y, ⟨rfl, rfl, rfl, rfl⟩, ⟨h1', h2', h3'⟩, ?_⟩
  generalize hone : one6 o a b y = O at *
  obtain ⟨x1, x2, x3⟩ := O
  have f : ∀ (t : List Str), ∀ x ∈ a0b t, ∀ d ∈ x, match d with | .sl _ _ _ => False | _ => True := fun t => (eStrs_flat t).mpr trivial
  have st : runJ o a b ((a0P o a b).take (t + 1)) = (if x2 = true then X ++ [⟨y, x1⟩] else X, if 0 < x3 then Y ++ [⟨y, x3⟩] else Y) := by rw [hs]; unfold stepJ; rw [hone]
  have snF : a0a X ++ [[D.str y, D.sl 9 1 (a0b x1)]] = a0a (X ++ [⟨y, x1⟩]) := a0j _ _ _
  have snH : a0c Y ++ [[D.str y, D.int .i64 x3]] = a0c (Y ++ [⟨y, x3⟩]) := a4E _ _ _
  dsimp only at ho ⊢
  rw [snF, snH]
  refine ⟨fun h3 => ⟨hlt, fun _ => ⟨⟨by omega, by omega⟩, fun h2 => ⟨hlt, fun _ => ⟨f x1, ⟨by omega, by omega⟩, ⟨by omega, by omega⟩, ⟨by omega, by omega⟩, fun _ _ => ⟨t + 1, ?_⟩⟩⟩, fun h2 => ⟨⟨by omega, by omega⟩, fun _ _ => ⟨t + 1, ?_⟩⟩⟩⟩, fun h3 => ⟨fun h2 => ⟨hlt, fun _ => ⟨f x1, ⟨by omega, by omega⟩, ⟨by omega, by omega⟩, ⟨by omega, by omega⟩, fun _ _ => ⟨t + 1, ?_⟩⟩⟩, fun h2 => ⟨⟨by omega, by omega⟩, fun _ _ => ⟨t + 1, ?_⟩⟩⟩⟩
  ·rw [st, if_pos h2, if_pos h3]; exact ⟨⟨⟨rfl, rfl, by omega⟩, rfl, rfl⟩, by omega, by omega⟩
  ·rw [st, if_neg (by simp -implicitDefEqProofs [h2]), if_pos h3]; exact ⟨⟨⟨rfl, rfl, by omega⟩, rfl, rfl⟩, by omega, by omega⟩
  ·rw [st, if_pos h2, if_neg (by omega)]; exact ⟨⟨⟨rfl, rfl, by omega⟩, rfl, rfl⟩, by omega, by omega⟩
  ·rw [st, if_neg (by simp -implicitDefEqProofs [h2]), if_neg (by omega)]; exact ⟨⟨⟨rfl, rfl, by omega⟩, rfl, rfl⟩, by omega, by omega⟩
 ·have e : (a0P o a b).take t = a0P o a b := List.take_of_length_le hge
  rw [e]; exact ⟨⟨rfl, rfl⟩, rfl, rfl⟩
def b0J : Con := .fn 31 (List FileD × List FileD × List FileD) (fun a => [.sl true 2 (a0a a.1), .sl true 2 (a0a a.2.1), .sl true 2 (a0a a.2.2)]) (fun a => szT a.1 /\ szT a.2.1 /\ szT a.2.2) (fun a => .tup [.sl false 2 (a0a (a1o a.1 a.2.1 a.2.2).1), .sl false 2 (a0c (a1o a.1 a.2.1 a.2.2).2)]) (fun _ => [])
theorem b2T : Has Tryz.prog 178 b0J := by
 refine a0d mixed a0f (HasL.cons c6S (HasL.cons a7d (HasL.cons a4t HasL.nil))) [0, 1, 2, 6, 7, 8, 9] ((fun a n (_ : Nat) => (fun _ => a0F) a n)) [] Tryz.func178 (by unfold Tryz.f178; rfl) (fun _ => ⟨(), trivial⟩) ?_
 intro a ha
 obtain ⟨o, a, b⟩ := a
 obtain ⟨h1, h2, h3⟩ : szT o /\ szT a /\ szT b := ha
 simp -implicitDefEqProofs [b0J, c0m, a8z, a4R, Con.fn, tTab]
 try dsimp only
 have e1 : (of6 o a b).2 = [] -> a0S (of6 o a b).1 = false -> a1o o a b = (o, [⟨[], 4⟩]) := fun h h' => by unfold a1o; rw [if_pos ⟨h, h'⟩]
 have e2 : (of6 o a b).2 = [] -> a0S (of6 o a b).1 = true -> a1o o a b = of6 o a b := fun h h' => by unfold a1o; rw [if_neg (by simp -implicitDefEqProofs [h'])]
 have e3 : ¬ (of6 o a b).2 = [] -> a1o o a b = of6 o a b := fun h => by unfold a1o; rw [if_neg (by simp -implicitDefEqProofs [h])]
 refine ⟨o, a, b, ⟨rfl, rfl, rfl⟩, ⟨h1, h2, h3⟩, fun _ => ⟨fun h => ⟨fun h' => ⟨⟨by have := h1.1; omega, fun f hf => by have := h1.2 f hf; omega⟩, ?_⟩, fun h' => ?_⟩, fun h => ?_⟩⟩
 ·rw [e1 h h']; exact ⟨rfl, rfl⟩
 ·rw [e2 h h']; exact ⟨rfl, rfl⟩
 ·rw [e3 h]; exact ⟨rfl, rfl⟩
--TAB a2z
theorem b3V {t : List FileD} {p : Str} (h : (getL t p).2 = false) : (getL t p).1 = [] := by
 induction t with
 | nil => rfl
 | cons f t ih =>
  unfold getL at h ⊢
  split
  ·rename_i e; rw [if_pos e] at h; cases h
  ·rename_i e; rw [if_neg e] at h; exact ih h
theorem same_eq {x y : List Str × Bool} (hx : x.2 = false -> x.1 = []) (hy : y.2 = false -> y.1 = []) : b0U x y = a1Q x y := by
 unfold b0U a1Q
 cases h : x.2 <;> cases h' : y.2 <;> simp
 rw [hx h, hy h']
theorem b1L {t : List FileD} (h : a0x t = true) (p : Str) : a1f (getL t p).1 = true := by
 simp only [a0x, Bool.and_eq_true, decide_eq_true_eq, List.all_eq_true, List.mem_range] at h
 have hf : ∀ f ∈ t, a1f f.text = true := by
  intro f hf
  obtain ⟨i, hi, rfl⟩ := List.getElem_of_mem hf
  have := (h.2 i hi).1
  simp only [a3a, Bool.and_eq_true] at this
  have e : t.getD i default = t[i] := by simp -implicitDefEqProofs [List.getD_eq_getElem?_getD, hi]
  rw [e] at this
  exact this.1.1
 clear h
 induction t with
 | nil => rfl
 | cons f t ih =>
  unfold getL
  split
  ·exact hf f (by simp)
  ·exact ih fun g hg => hf g (by simp -implicitDefEqProofs [hg])
theorem d1d {o a b : List FileD} (ho : a0x o = true) (ha : a0x a = true) (hb : a0x b = true) (p : Str) : oneH (getL o p) (getL a p) (getL b p) = (((one6 o a b p).1, (one6 o a b p).2.1), (one6 o a b p).2.2) := by
 have m : mrgI (getL o p).1 (getL a p).1 (getL b p).1 = a1W (of3 (getL o p).1 (getL a p).1 (getL b p).1) := by
  unfold mrgI; rw [b1L ho, b1L ha, b1L hb]; rfl
 have n1 := @b3V o p
 have n2 := @b3V a p
 have n3 := @b3V b p
 unfold oneH one6
 rw [same_eq n2 n1, same_eq n2 n3, same_eq n3 n1, m]
 split
 ·rfl
 ·split
  ·rfl
  ·split
   ·rfl
   ·split
    ·rename_i h
     have h : (getL o p).2 = false := by simpa using h
     rw [<- n1 h, <- h]
    ·rename_i h
     have h : (getL o p).2 = true := by simpa using h
     split
     ·rfl
     ·rw [<- h]
def a3Z (o a b : List FileD) : List FileD × List HeadD := if a0x o && a0x a && a0x b then a1o o a b else ([], [])
theorem c5g (o a b : List FileD) (l : List Str) : ∀ f ∈ (runJ o a b l).1, f.path ∈ l := by
 have : ∀ (l : List Str) (s : List FileD × List HeadD), ∀ f ∈ (l.foldl (stepJ o a b) s).1, f ∈ s.1 \/ f.path ∈ l := by
  intro l
  induction l with
  | nil => intro s f hf; exact .inl hf
  | cons p l ih =>
   intro s f hf
   rcases ih _ f hf with h | h
   ·have h : f ∈ (if (one6 o a b p).2.1 then s.1 ++ [⟨p, (one6 o a b p).1⟩] else s.1) := h
    split at h
    ·rcases List.mem_append.1 h with h | h
     ·exact .inl h
     ·have : f = ⟨p, (one6 o a b p).1⟩ := by simpa using h
      subst this; exact .inr (by simp)
    ·exact .inl h
   ·exact .inr (by simp -implicitDefEqProofs [h])
 intro f hf
 exact (this l ([], []) f hf).resolve_left (by simp)
theorem d0f {o a b : List FileD} (h1 : ptSz o) (h2 : ptSz a) (h3 : ptSz b) (i : Nat) : ptSz (runJ o a b ((a0P o a b).take i)).1 := by
 intro f hf
 have h := List.mem_of_mem_take (c5g o a b _ f hf)
 have h := ((b3g o a b).2 f.path).1 h
 simp only [List.map_append, List.mem_append, List.mem_map] at h
 rcases h with (⟨g, hg, e⟩ | ⟨g, hg, e⟩) | ⟨g, hg, e⟩
 ·rw [<- e]; exact h1 g hg
 ·rw [<- e]; exact h2 g hg
 ·rw [<- e]; exact h3 g hg
theorem c9N (o a b : List FileD) (p : Str) : 0 <= (one6 o a b p).2.2 := by
 unfold one6
 repeat' split
 all_goals simp
def joI (o a b : List FileD) : Inv := ⟨Nat, fun i => ⟨[(0, true, .sl true 2 (a0a o)), (1, true, .sl true 2 (a0a a)), (2, true, .sl true 2 (a0a b)), (6, true, .nil), (7, true, .nil), (8, true, .own 9 2 (a0a (runJ o a b ((a0P o a b).take i)).1)), (9, true, .own 10 2 (a0c (runJ o a b ((a0P o a b).take i)).2)), (23, true, .own 11 1 (a0b (a0P o a b))), (24, true, .int .i64 (a0P o a b).length), (25, true, .int .i64 i)], [(9, .own 99 2 true (a0a (runJ o a b ((a0P o a b).take i)).1)), (10, .own 193 2 true (a0c (runJ o a b ((a0P o a b).take i)).2)), (11, .own 9 1 true (a0b (a0P o a b)))]⟩, fun i => i <= (a0P o a b).length /\ a0x o = true /\ a0x a = true /\ a0x b = true, fun i => (a0P o a b).length - i⟩
def b3D : Con := .fn 74 (List FileD × List FileD × List FileD) (fun a => [.sl true 2 (a0a a.1), .sl true 2 (a0a a.2.1), .sl true 2 (a0a a.2.2)]) (fun a => ptSz a.1 /\ ptSz a.2.1 /\ ptSz a.2.2) (fun a => .tup [.own 8 2 (a0a (a3Z a.1 a.2.1 a.2.2).1), .own 9 2 (a0c (a3Z a.1 a.2.1 a.2.2).2)]) (fun a => a2s 8 (a3Z a.1 a.2.1 a.2.2).1 ++ [(9, .own 193 2 true (a0c (a3Z a.1 a.2.1 a.2.2).2))])
theorem c0Y : Has Tryz.prog 171 b3D := by
 refine a0d mixed a2g (HasL.cons a9A (HasL.cons b5U (HasL.cons c3v (HasL.cons c0X (HasL.cons a3M (HasL.cons a2C HasL.nil)))))) [0, 1, 2, 6, 7, 8, 9, 11, 12, 13, 23, 24, 25] ((fun a n (_ : Nat) => (fun a _ => joI a.1 a.2.1 a.2.2) a n)) [] Tryz.func171 (by unfold Tryz.f171; rfl) (fun _ => ⟨(), trivial⟩) ?_
 intro a ha
 obtain ⟨o, a, b⟩ := a
 obtain ⟨h1, h2, h3⟩ : ptSz o /\ ptSz a /\ ptSz b := ha
 simp (maxSteps := 8000000) -implicitDefEqProofs [-kStep_move, -Bool.exists_bool, b3D, a7j, a9C, b6i, b3C, b6R, b6S, a4r, a2U, Con.fn, a2z, tTab, joI]
 try dsimp only
 have j0 : (a0x o = false \/ a0x a = false) \/ a0x b = false -> a3Z o a b = ([], []) := fun h => by unfold a3Z; rw [if_neg]; rcases h with (h | h) | h <;> simp -implicitDefEqProofs [h]
 refine ⟨o, a, b, ⟨rfl, rfl, rfl⟩, ⟨h1, h2, h3⟩, fun h => by rw [j0 h]; exact ⟨rfl, rfl⟩, fun b1 b2 b3 => ?_⟩
 have o8 := a9m o b1
 have a8 := a9m a b2
 have b8 := a9m b b3
 have hp := b3f o a b
 refine ⟨[o, a, b], rfl, ⟨by simp; omega, by simp⟩, fun _ => ⟨⟨0, ⟨⟨rfl, rfl, (b5T o a b).symm, by rw [b5T], rfl⟩, rfl, rfl, b5T o a b⟩, Nat.zero_le _, b1, b2, b3⟩, fun t ht c1 c2 c3 => ⟨fun hlt => ⟨hlt, fun _ => ?_⟩, fun hge => ?_⟩⟩⟩
 ·have qq : Option.map eStr (a0P o a b)[t]? = some (eStr (a0P o a b)[t]) := by simp -implicitDefEqProofs [hlt]
  have hs := b4U (o := o) (a := a) (b := b) hlt
  have hb := b7J o a b ((a0P o a b).take t)
  have hl : ((a0P o a b).take t).length <= (a0P o a b).length := by simp; omega
  have ho := b7q (p := (a0P o a b)[t]) (show 10 <= 64 by omega) o8.2 a8.2 b8.2
  have he := d1d b1 b2 b3 (a0P o a b)[t]
  have hnn := c9N o a b (a0P o a b)[t]
  rw [qq]
  generalize runJ o a b ((a0P o a b).take t) = R at *
  generalize (a0P o a b)[t] = y at *
  obtain ⟨X, Y⟩ := R
  simp only at hb
  simp -implicitDefEqProofs [-Bool.exists_bool, eStr, D.asStr, c9o]
  have z : ∀ {t : List FileD}, (∀ f ∈ t, f.text.length <= 64) -> ∀ f ∈ t, f.text.length <= 1048576 := fun h f hf => by have := h f hf; omega
  have he : oneH ((getL o y).1, (getL o y).2) ((getL a y).1, (getL a y).2) ((getL b y).1, (getL b y).2) = (((one6 o a b y).1, (one6 o a b y).2.1), (one6 o a b y).2.2) := he
  refine ⟨o, y, ⟨rfl, rfl⟩, z o8.2, a, y, ⟨rfl, rfl⟩, z a8.2, b, y, ⟨rfl, rfl⟩, z b8.2, _, _, _, _, _, _, ⟨⟨rfl, rfl⟩, ⟨rfl, rfl⟩, rfl, rfl⟩, ⟨rfl, rfl, rfl⟩, ?_⟩
  rw [he]
  generalize hone : one6 o a b y = O at *
  obtain ⟨x1, x2, x3⟩ := O
  have st : runJ o a b ((a0P o a b).take (t + 1)) = (if x2 = true then X ++ [⟨y, x1⟩] else X, if 0 < x3 then Y ++ [⟨y, x3⟩] else Y) := by rw [hs]; unfold stepJ; rw [hone]
  have snF : a0a X ++ [[D.str y, D.sl 9 1 (a0b x1)]] = a0a (X ++ [⟨y, x1⟩]) := a0j _ _ _
  have snH : a0c Y ++ [[D.str y, D.int .i64 x3]] = a0c (Y ++ [⟨y, x3⟩]) := a4E _ _ _
  simp only at ho hnn ⊢
  rw [snF, snH]
  refine ⟨fun h3 => ⟨⟨by omega, by omega⟩, fun h2 => ⟨⟨by omega, by omega⟩, ⟨by omega, by omega⟩, fun _ _ => ⟨t + 1, ?_⟩⟩, fun h2 => ⟨⟨by omega, by omega⟩, fun _ _ => ⟨t + 1, ?_⟩⟩⟩, fun h3 => ⟨fun h2 => ⟨⟨by omega, by omega⟩, ⟨by omega, by omega⟩, fun _ _ => ⟨t + 1, ?_⟩⟩, fun h2 => ⟨⟨by omega, by omega⟩, fun _ _ => ⟨t + 1, ?_⟩⟩⟩⟩
  ·rw [st, if_pos h2, if_pos (by omega)]; exact ⟨⟨⟨rfl, rfl, by omega⟩, rfl, rfl⟩, ⟨by omega, b1, b2, b3⟩, by omega⟩
  ·rw [st, if_neg (by simp -implicitDefEqProofs [h2]), if_pos (by omega)]; exact ⟨⟨⟨rfl, rfl, by omega⟩, rfl, rfl⟩, ⟨by omega, b1, b2, b3⟩, by omega⟩
  ·rw [st, if_pos h2, if_neg (by omega)]; exact ⟨⟨⟨rfl, rfl, by omega⟩, rfl, rfl⟩, ⟨by omega, b1, b2, b3⟩, by omega⟩
  ·rw [st, if_neg (by simp -implicitDefEqProofs [h2]), if_neg (by omega)]; exact ⟨⟨⟨rfl, rfl, by omega⟩, rfl, rfl⟩, ⟨by omega, b1, b2, b3⟩, by omega⟩
 ·have : t = (a0P o a b).length := by omega
  subst this
  have hpt := d0f h1 h2 h3 (a0P o a b).length
  have hj : a3Z o a b = a1o o a b := by unfold a3Z; rw [b1, b2, b3]; rfl
  rw [List.take_length] at hpt ⊢
  have e6 : runJ o a b (a0P o a b) = of6 o a b := rfl
  rw [e6] at hpt ⊢
  rw [hj]
  refine fun _ => ⟨fun h => ⟨h, hpt⟩, fun h h' => ?_, fun h => ?_⟩
  ·have e : a1o o a b = (o, [⟨[], 4⟩]) := by unfold a1o; rw [if_pos ⟨h, by rw [<- a2k]; exact h'⟩]
   rw [e]
   exact ⟨⟨by omega, fun f hf => by have := o8.2 f hf; omega⟩, ⟨rfl, rfl⟩, rfl, rfl⟩
  ·have e : a1o o a b = of6 o a b := by unfold a1o; rw [if_neg]; rintro ⟨q1, q2⟩; rw [<- a2k, h q1] at q2; cases q2
   rw [e]
   exact ⟨⟨rfl, rfl⟩, rfl, rfl⟩
def a1r (o a b : List FileD) : List FileD × Bool := if a0x o && a0x a && a0x b then (if (a1o o a b).2 = [] then ((a1o o a b).1, true) else ([], false)) else ([], false)
def a7l : Con := .fn 26 (List FileD × List FileD × List FileD) (fun a => [.sl true 2 (a0a a.1), .sl true 2 (a0a a.2.1), .sl true 2 (a0a a.2.2)]) (fun a => ptSz a.1 /\ ptSz a.2.1 /\ ptSz a.2.2) (fun a => .tup [.own 8 2 (a0a (a1r a.1 a.2.1 a.2.2).1), .bool (a1r a.1 a.2.1 a.2.2).2]) (fun a => a2s 8 (a1r a.1 a.2.1 a.2.2).1)
theorem b0a : Has Tryz.prog 131 a7l := by
 refine a0d mixed a2g (HasL.cons a9A (HasL.cons c0Y HasL.nil)) [0, 1, 2, 6, 7, 8, 9] ((fun a n (_ : Nat) => (fun _ => a0F) a n)) [] Tryz.func131 (by unfold Tryz.f131; rfl) (fun _ => ⟨(), trivial⟩) ?_
 intro a ha
 obtain ⟨o, a, b⟩ := a
 obtain ⟨h1, h2, h3⟩ : ptSz o /\ ptSz a /\ ptSz b := ha
 simp (maxSteps := 8000000) -implicitDefEqProofs [-Bool.exists_bool, a7l, a7j, b3D, Con.fn, a2z, tTab]
 try dsimp only
 have j0 : (a0x o = false \/ a0x a = false) \/ a0x b = false -> a1r o a b = ([], false) := fun h => by unfold a1r; rw [if_neg]; rcases h with (h | h) | h <;> simp -implicitDefEqProofs [h]
 refine ⟨o, a, b, ⟨rfl, rfl, rfl⟩, ⟨h1, h2, h3⟩, fun h => by rw [j0 h]; exact ⟨⟨rfl, rfl⟩, rfl⟩, fun b1 b2 b3 => ⟨o, a, b, ⟨rfl, rfl, rfl⟩, ⟨h1, h2, h3⟩, fun _ => ?_⟩⟩
 have e : a3Z o a b = a1o o a b := by unfold a3Z; rw [b1, b2, b3]; rfl
 have e2 : a1r o a b = if (a1o o a b).2 = [] then ((a1o o a b).1, true) else ([], false) := by unfold a1r; rw [b1, b2, b3]; rfl
 rw [e, e2]
 exact ⟨fun h => by rw [if_neg (by intro q; rw [q] at h; simp at h)]; exact ⟨⟨rfl, rfl⟩, rfl⟩, fun h => by rw [if_pos h]; exact ⟨⟨rfl, rfl⟩, rfl⟩⟩
theorem a3o {r : RepoD} (h : a0E r = true) {a : Int} (ha : 0 <= a /\ a < r.commits.length) : a0x (a0C r a) = true := by
 have hi : a.toNat < r.commits.length := by omega
 have := (a2t h hi).2.2
 unfold a0C
 rwa [List.getD_eq_getElem?_getD, List.getElem?_eq_getElem hi]
theorem b6d {r : RepoD} {a b c : Int} (h : c ∈ a1R r a b) : 0 <= c /\ c < r.commits.length := by
 unfold a1R at h
 obtain ⟨i, hi, _, rfl⟩ := listT_mem.1 h
 rw [a8r, a8M] at hi
 omega
theorem b5Z {r : RepoD} (h : a0E r = true) (a b : Int) : a0x (a2n r a b) = true := by
 unfold a2n
 rw [<- b6c]
 cases hq : (a1R r a b).getLast? with
 | none => rfl
 | some c => exact a3o h (b6d (List.mem_of_getLast? hq))
section
variable {r : RepoD} {n w : Str} {b : Int}
theorem uS_1 (h : a0E r = true) (h2 : atL r.heads n < 0 \/ a0Z w = false \/ ¬ (0 <= b /\ b < r.commits.length)) : a1t r n w b = (r, 1) := by unfold a1t; rw [if_pos (by rw [<- a1h, h]), if_pos h2]
theorem c2l (h : a0E r = true) (h1 : 0 <= atL r.heads n) (h2 : a0Z w = true) (h3 : 0 <= b /\ b < r.commits.length) : a1t r n w b = a2q r n w b := by
 unfold a1t; rw [if_pos (by rw [<- a1h, h]), if_neg]
 rintro (q | q | q)
 ·omega
 ·rw [h2] at q; cases q
 ·exact q h3
theorem b2i (h : a0E r = true) (h1 : 0 <= atL r.heads n) : atL r.heads n < r.commits.length := by
 rw [a1h] at h
 rcases a9B (n := n) ((a0V r).1 h).2.1 with q | q <;> omega
theorem uS_2 (h : a0E r = true) (h1 : 0 <= atL r.heads n) (h2 : a0Z w = true) (h3 : 0 <= b /\ b < r.commits.length) (h4 : isT (anc r (atL r.heads n)) b.toNat = true) : a1t r n w b = (r, 2) := by
 rw [c2l h h1 h2 h3]
 rw [a7V h3.1 (by rw [a2r]; omega), decide_eq_true_eq] at h4
 unfold a2q
 rw [if_pos h4]
theorem uS_3 (h : a0E r = true) (h1 : 0 <= atL r.heads n) (h2 : a0Z w = true) (h3 : 0 <= b /\ b < r.commits.length) (h4 : isT (anc r (atL r.heads n)) b.toNat = false) (h5 : isT (anc r b) (atL r.heads n).toNat = true) :
  a1t r n w b = (⟨r.commits, ptL r.heads n b⟩, 3) := by
 have hlt := b2i h h1
 rw [c2l h h1 h2 h3]
 rw [a7V h3.1 (by rw [a2r]; omega), decide_eq_false_iff_not] at h4
 rw [a7V h1 (by rw [a2r]; omega), decide_eq_true_eq] at h5
 unfold a2q
 rw [if_neg h4, if_pos h5]
 rw [a1h] at h
 rw [b7A ((a0V r).1 h).2.1]
theorem b3R (h : a1T r.commits.length r.heads = true) {c : CommitD} : cmL r n c = addR r n c := by
 unfold cmL addR
 rw [b7A h]
theorem a9Z {o a b : List FileD} (ho : a0x o = true) (ha : a0x a = true) (hb : a0x b = true) : a1r o a b = if (a1o o a b).2 = [] then ((a1o o a b).1, true) else ([], false) := by
 unfold a1r
 rw [ho, ha, hb]
 rfl
theorem uS_4 (h : a0E r = true) (h1 : 0 <= atL r.heads n) (h2 : a0Z w = true) (h3 : 0 <= b /\ b < r.commits.length) (h4 : isT (anc r (atL r.heads n)) b.toNat = false) (h5 : isT (anc r b) (atL r.heads n).toNat = false) :
  a1t r n w b = if (a1r (a2n r (atL r.heads n) b) (a0C r (atL r.heads n)) (a0C r b)).2 then
   (if a0E (cmL r n ⟨[atL r.heads n, b], w, (a1r (a2n r (atL r.heads n) b) (a0C r (atL r.heads n)) (a0C r b)).1⟩) then (cmL r n ⟨[atL r.heads n, b], w, (a1r (a2n r (atL r.heads n) b) (a0C r (atL r.heads n)) (a0C r b)).1⟩, 0) else (r, 5))
   else (r, 4) := by
 have hlt := b2i h h1
 rw [c2l h h1 h2 h3]
 rw [a7V h3.1 (by rw [a2r]; omega), decide_eq_false_iff_not] at h4
 rw [a7V h1 (by rw [a2r]; omega), decide_eq_false_iff_not] at h5
 unfold a2q
 rw [if_neg h4, if_neg h5, a9Z (b5Z h _ _) (a3o h ⟨h1, hlt⟩) (a3o h h3)]
 rw [a1h] at h
 have hH := ((a0V r).1 h).2.1
 by_cases hj : (a1o (a2n r (atL r.heads n) b) (a0C r (atL r.heads n)) (a0C r b)).2 = []
 ·rw [if_pos hj, if_pos hj]
  simp only [if_true]
  rw [b3R hH, a1h]
 ·rw [if_neg hj, if_neg hj]
  simp
end
inductive Uni (r : RepoD) (n w : Str) (b : Int) : RepoD × Int -> Prop
 | form : Uni r n w b (r, 1)
 | same : 0 <= atL r.heads n -> atL r.heads n < r.commits.length -> 0 <= b -> b < r.commits.length -> Rch r (atL r.heads n).toNat b.toNat -> Uni r n w b (r, 2)
 | on : 0 <= atL r.heads n -> atL r.heads n < r.commits.length -> 0 <= b -> b < r.commits.length -> ¬ Rch r (atL r.heads n).toNat b.toNat -> Rch r b.toNat (atL r.heads n).toNat -> a0v ⟨r.commits, hSet r.heads n b⟩ = true -> Uni r n w b (⟨r.commits, hSet r.heads n b⟩, 3)
 | clash : 0 <= atL r.heads n -> atL r.heads n < r.commits.length -> 0 <= b -> b < r.commits.length -> (a1o (a2n r (atL r.heads n) b) (a0C r (atL r.heads n)) (a0C r b)).2 ≠ [] -> Uni r n w b (r, 4)
 | full : Uni r n w b (r, 5)
 | made (t : List FileD) : 0 <= atL r.heads n -> atL r.heads n < r.commits.length -> 0 <= b -> b < r.commits.length -> ¬ Rch r (atL r.heads n).toNat b.toNat -> ¬ Rch r b.toNat (atL r.heads n).toNat -> a1o (a2n r (atL r.heads n) b) (a0C r (atL r.heads n)) (a0C r b) = (t, []) ->
   a0v (addR r n ⟨[atL r.heads n, b], w, t⟩) = true -> Uni r n w b (addR r n ⟨[atL r.heads n, b], w, t⟩, 0)
theorem b0A {r : RepoD} (h : a0v r = true) (n : Str) (c : CommitD) (m : Str) : atL (addR r n c).heads m = if n = m then (r.commits.length : Int) else atL r.heads m := by
 show atL (hSet r.heads n r.commits.length) m = _
 exact a6E ((a0V r).1 h).2.1
theorem c5O (r : RepoD) (n : Str) (c : CommitD) : (addR r n c).commits.getD r.commits.length default = c := by
 simp -implicitDefEqProofs [addR, List.getD_eq_getElem?_getD]
theorem b5R {r : RepoD} (n : Str) (c : CommitD) {p : Int} (h : p ∈ c.parents) : Rch (addR r n c) r.commits.length p.toNat := by
 refine Rch.refl.step (p := p) ?_
 rw [c5O]; exact h
def a2f (t : List FileD) (p : Str) : Nat -> Nat
 | 0 => 0
 | k + 1 => if Go.Op.bytesLess (t.getD k default).path p then k + 1 else a2f t p k
def putK (t : List FileD) (p : Str) : Nat := a2f t p t.length
def putI (t : List FileD) (f : FileD) : List FileD × Bool :=
 if putK t f.path < t.length /\ (t.getD (putK t f.path) default).path = f.path then (t.set (putK t f.path) f, false) else (a2D t (putK t f.path) f, true)
theorem c4X (t : List FileD) (p : Str) : ∀ k, a2f t p k <= k := by
 intro k
 induction k with
 | zero => exact Nat.le_refl _
 | succ k ih => unfold a2f; split <;> omega
theorem b4i (t : List FileD) (p : Str) : putK t p <= t.length := c4X t p _
theorem c7J (t : List FileD) (f : FileD) : (putI t f).1.length <= t.length + 1 := by
 have := b4i t f.path
 unfold putI
 split <;> simp [a2D] <;> omega
theorem b7D (t : List FileD) (f : FileD) : ∀ g ∈ (putI t f).1, g ∈ t \/ g = f := by
 intro g hg
 unfold putI at hg
 split at hg
 ·exact List.mem_or_eq_of_mem_set hg
 ·simp only [a2D, List.mem_append, List.mem_cons] at hg
  rcases hg with h | h | h
  ·exact .inl (List.mem_of_mem_take h)
  ·exact .inr h
  ·exact .inl (List.mem_of_mem_drop h)
theorem b2w (b : FileD) (p : Str) (x : List Str) : (a0a [b] = [[D.str p, D.sl 9 1 (a0b x)]]) = (b = ⟨p, x⟩) := by
 obtain ⟨q, y⟩ := b
 simp [a0a, a0k]
theorem b8k (b : FileD) (p : Str) (x : List Str) : ([[D.str p, D.sl 9 1 (a0b x)]] = a0a [b]) = (b = ⟨p, x⟩) := by
 rw [<- b2w]; exact propext ⟨Eq.symm, Eq.symm⟩
def cPut : Con := .fn 58 (List FileD × FileD) (fun a => [.sl true 2 (a0a a.1), .agg [.str a.2.path, .sl true 1 (a0b a.2.text)]]) (fun a => (a.1.length <= 1048576 /\ ∀ f ∈ a.1, f.text.length <= 1048576) /\ a.2.text.length <= 1048576) (fun a => .tup [.own 8 2 (a0a (putI a.1 a.2).1), .bool (putI a.1 a.2).2]) (fun a => a2s 8 (putI a.1 a.2).1)
theorem b9I : Has Tryz.prog 124 cPut := by
 refine a0d mixed a0f (HasL.cons a2C (HasL.cons a5j (HasL.cons c6E HasL.nil))) [0, 1, 3, 4, 5, 6, 7, 8] ((fun a n (_ : Nat) => (fun a _ => ⟨Nat, fun k => ⟨[(3, true, .ptr 10 0), (4, true, .nil), (5, true, .bool false), (6, true, .own 9 2 (a0a a.1)), (7, true, .int .i64 k)], [(10, .box 99 [.str a.2.path, .sl true 1 (a0b a.2.text)]), (9, .own 99 2 true (a0a a.1))]⟩, fun k => k <= a.1.length /\ a2f a.1 a.2.path k = putK a.1 a.2.path, fun k => k⟩) a n)) [] Tryz.func124 (by unfold Tryz.f124; rfl) (fun _ => ⟨(), trivial⟩) ?_
 intro a ha
 obtain ⟨t, f⟩ := a
 obtain ⟨⟨q1, q2⟩, q3⟩ : (t.length <= 1048576 /\ ∀ f ∈ t, f.text.length <= 1048576) /\ f.text.length <= 1048576 := ha
 have g0 : a2f t f.path 0 = 0 := rfl
 have g1 : ∀ k, 0 < k -> (h : k - 1 < t.length) -> Go.Op.bytesLess t[k - 1].path f.path = false -> a2f t f.path (k - 1) = a2f t f.path k := fun k h0 h hb => by
  obtain ⟨j, rfl⟩ : ∃ j, k = j + 1 := ⟨k - 1, by omega⟩
  simp only [Nat.add_sub_cancel] at h hb ⊢
  rw [a2f, if_neg (by simp [List.getD_eq_getElem?_getD, h, hb])]
 have g2 : ∀ k, 0 < k -> (h : k - 1 < t.length) -> Go.Op.bytesLess t[k - 1].path f.path = true -> a2f t f.path k = k := fun k h0 h hb => by
  obtain ⟨j, rfl⟩ : ∃ j, k = j + 1 := ⟨k - 1, by omega⟩
  simp only [Nat.add_sub_cancel] at h hb
  rw [a2f, if_pos (by simp [List.getD_eq_getElem?_getD, h, hb])]
 have g3 : ∀ k (h : k < t.length), k = putK t f.path -> t[k].path = f.path -> putI t f = (t.set k f, false) := fun k h hk hp => by
  unfold putI
  rw [<- hk, if_pos (by simp [List.getD_eq_getElem?_getD, h, hp])]
 have g4 : ∀ k, k = putK t f.path -> (∀ h : k < t.length, ¬ t[k].path = f.path) -> putI t f = (a2D t k f, true) := fun k hk hp => by
  unfold putI
  rw [<- hk, if_neg]
  rintro ⟨h, h2⟩
  exact hp h (by simpa [List.getD_eq_getElem?_getD, h] using h2)
 simp -implicitDefEqProofs [cPut, a2U, a4Q, cInsF, Con.fn, tTab, b2w, b8k]
 try dsimp only
 have tl : ∀ k, k <= t.length -> k = putK t f.path -> ∀ P : Prop, (∀ (e3 : ∀ h : k < t.length, t[k].path = f.path -> putI t f = (t.set k f, false)) (e4 : (∀ h : k < t.length, ¬ t[k].path = f.path) -> putI t f = (a2D t k f, true)), P) -> P := fun k hk kk P h => h (fun h => g3 k h kk) (g4 k kk)
 refine ⟨⟨q1, q2⟩, fun _ => ⟨⟨t.length, rfl, Nat.le_refl _, rfl⟩, fun k hk hp => ⟨fun h0 => ⟨⟨by omega, by omega⟩, fun _ _ => ⟨⟨by omega, by omega⟩, fun _ _ => ⟨?_, fun _ _ => ⟨fun hb => ⟨⟨by omega, by omega⟩, fun _ _ => ⟨k - 1, by omega, ⟨by omega, ?_⟩, by omega⟩⟩, fun hb => ?_⟩⟩⟩⟩, fun h0 => ?_⟩⟩⟩
 ·have hlt : k - 1 < t.length := by omega
  simp [hlt, a0k]
 ·have hlt : k - 1 < t.length := by omega
  rw [g1 k h0 hlt (by simpa [hlt, a0k] using hb), hp]
 ·have hlt : k - 1 < t.length := by omega
  have kk : k = putK t f.path := by rw [<- hp]; exact (g2 k h0 hlt (by simpa [hlt, a0k] using hb)).symm
  refine tl k hk kk _ fun e3 e4 => ?_
  refine ⟨q3, fun hlt => ⟨hlt, fun _ => ⟨by simp [hlt, a0k], fun _ _ => ⟨fun hpp => ?_, fun hpp => ?_⟩⟩⟩, fun hge => ?_⟩
  ·rw [e3 hlt (by simpa [hlt, a0k] using hpp)]
   exact ⟨hlt, fun _ => ⟨hlt, ⟨(a0l t k f.path f.text).symm, rfl⟩, a0l t k f.path f.text⟩⟩
  ·rw [e4 fun h => by simpa [hlt, a0k] using hpp]
   exact ⟨t, k, f, ⟨rfl, rfl, rfl⟩, ⟨rfl, rfl⟩, ⟨hk, q1⟩, ⟨rfl, rfl⟩, rfl⟩
  ·rw [e4 fun h => absurd h (by omega)]
   exact ⟨t, k, f, ⟨rfl, rfl, rfl⟩, ⟨rfl, rfl⟩, ⟨hk, q1⟩, ⟨rfl, rfl⟩, rfl⟩
 ·have kk : k = putK t f.path := by rw [<- hp, h0]; exact g0.symm
  refine tl k hk kk _ fun e3 e4 => ?_
  refine ⟨q3, fun hlt => ⟨hlt, fun _ => ⟨by simp [hlt, a0k], fun _ _ => ⟨fun hpp => ?_, fun hpp => ?_⟩⟩⟩, fun hge => ?_⟩
  ·rw [e3 hlt (by simpa [hlt, a0k] using hpp)]
   exact ⟨hlt, fun _ => ⟨hlt, ⟨(a0l t k f.path f.text).symm, rfl⟩, a0l t k f.path f.text⟩⟩
  ·rw [e4 fun h => by simpa [hlt, a0k] using hpp]
   exact ⟨t, k, f, ⟨rfl, rfl, rfl⟩, ⟨rfl, rfl⟩, ⟨hk, q1⟩, ⟨rfl, rfl⟩, rfl⟩
  ·rw [e4 fun h => absurd h (by omega)]
   exact ⟨t, k, f, ⟨rfl, rfl, rfl⟩, ⟨rfl, rfl⟩, ⟨hk, q1⟩, ⟨rfl, rfl⟩, rfl⟩
def a8u : Con := { A := List FileD × List FileD, X := Unit, n := 12, args := fun a => [.sl true 2 (a0a a.1), .own 0 2 (a0a a.2)], boxes := fun _ => [], pre := fun a => (a.1.length <= 1048576 /\ ∀ f ∈ a.1, f.text.length <= 1048576) /\ ∀ f ∈ a.2, f.path.length <= 536870912, post := fun _ _ => True, res := fun a _ => .tup [.own 8 2 (a0a (if a0x a.2 then a.2 else a.1)), .bool (a0x a.2)], fin := fun a _ => a2s 8 (if a0x a.2 then a.2 else a.1), owns := fun a => [(0, 99, 2, a0a a.2)], mv := true }
theorem b1b : Has Tryz.prog 125 a8u := by
 refine a0d mixed a0f (HasL.cons a3M (HasL.cons a2C HasL.nil)) [0, 1, 4, 5] ((fun a n (_ : Nat) => (fun _ => a0F) a n)) [] Tryz.func125 (by unfold Tryz.f125; rfl) (fun _ => ⟨(), trivial⟩) ?_
 intro a ha
 obtain ⟨t, o⟩ := a
 obtain ⟨⟨q1, q2⟩, q3⟩ : (t.length <= 1048576 /\ ∀ f ∈ t, f.text.length <= 1048576) /\ ∀ f ∈ o, f.path.length <= 536870912 := ha
 simp -implicitDefEqProofs [a8u, Con.fn, tTab, a4r, a2U]
 try dsimp only
 try simp +contextual [eStr, a0k, a0z, a0D, a0A, List.getElem?_eq_getElem, a0B, a0l, a0y, a0s, <- a0i, <- a0h, a0m, a0q, a0o, a0n, a0r, a0j, and_assoc]
 repeat' (first | intro _ | apply And.intro)
 all_goals first | omega | grind [a0G]
def inP (o : List FileD) (l : List FileD) : List FileD := l.foldl (fun o f => (putI o f).1) o

abbrev Srt (t : List FileD) : Prop := t.Pairwise fun a b => a.path < b.path
def ins (o : List FileD) (f : FileD) : List FileD := o.filter (fun g => decide (g.path < f.path)) ++ f :: o.filter (fun g => decide (f.path < g.path))
theorem b2b {t : List FileD} (h : a0x t = true) : Srt t := by
 refine List.pairwise_iff_getElem.2 fun i j hi hj hij => ?_
 have := c5y h j i hij hj
 rw [a2X, decide_eq_true_eq] at this
 exact this
theorem b9N {o : List FileD} {f : FileD} (h : Srt o) : Srt (ins o f) := by
 unfold ins
 refine List.pairwise_append.2 ⟨h.filter _, List.pairwise_cons.2 ⟨fun g hg => ?_, h.filter _⟩, fun a ha b hb => ?_⟩
 ·simpa using (List.mem_filter.1 hg).2
 ·have h1 : a.path < f.path := by simpa using (List.mem_filter.1 ha).2
  rcases List.mem_cons.1 hb with rfl | hb
  ·exact h1
  ·have h2 : f.path < b.path := by simpa using (List.mem_filter.1 hb).2
   exact a4m h1 h2
theorem d0V {o : List FileD} {f : FileD} (h : Srt o) {k : Nat} (hk : k <= o.length) (h1 : ∀ j (hj : j < o.length), j < k -> o[j].path < f.path) (h2 : ∀ j (hj : j < o.length), k <= j -> ¬ o[j].path < f.path) :
  o.filter (fun g => decide (g.path < f.path)) = o.take k /\ o.filter (fun g => decide (f.path < g.path)) = (o.drop k).filter (fun g => decide (f.path < g.path)) := by
 have e : o = o.take k ++ o.drop k := (List.take_append_drop k o).symm
 have a1 : (o.take k).filter (fun g => decide (g.path < f.path)) = o.take k := List.filter_eq_self.2 fun g hg => by
  obtain ⟨j, hj, rfl⟩ := List.getElem_of_mem hg
  simp only [List.length_take] at hj
  rw [List.getElem_take]
  exact decide_eq_true (h1 j (by omega) (by omega))
 have a2 : (o.drop k).filter (fun g => decide (g.path < f.path)) = [] := List.filter_eq_nil_iff.2 fun g hg => by
  obtain ⟨j, hj, rfl⟩ := List.getElem_of_mem hg
  simp only [List.length_drop] at hj
  rw [List.getElem_drop]
  simpa using h2 (k + j) (by omega) (by omega)
 have a3 : (o.take k).filter (fun g => decide (f.path < g.path)) = [] := List.filter_eq_nil_iff.2 fun g hg => by
  obtain ⟨j, hj, rfl⟩ := List.getElem_of_mem hg
  simp only [List.length_take] at hj
  rw [List.getElem_take]
  simpa using a4l (h1 j (by omega) (by omega))
 constructor
 ·conv => lhs; rw [e]
  rw [List.filter_append, a1, a2, List.append_nil]
 ·conv => lhs; rw [e]
  rw [List.filter_append, a3, List.nil_append]
theorem b8W {o : List FileD} {p : Str} (h : Srt o) : ∀ k, k <= o.length -> (∀ j (hj : j < o.length), k <= j -> ¬ o[j].path < p) ->
  (∀ j (hj : j < o.length), j < a2f o p k -> o[j].path < p) /\ (∀ j (hj : j < o.length), a2f o p k <= j -> ¬ o[j].path < p) := by
 intro k
 induction k with
 | zero => intro _ h2; exact ⟨fun j _ hj => by simp [a2f] at hj, fun j hj _ => h2 j hj (Nat.zero_le _)⟩
 | succ k ih =>
  intro hk h2
  have hlt : k < o.length := by omega
  have hd : o.getD k default = o[k] := by simp [List.getD_eq_getElem?_getD, hlt]
  by_cases hb : o[k].path < p
  ·have e : a2f o p (k + 1) = k + 1 := by rw [a2f, if_pos]; rw [hd, a2X]; exact decide_eq_true hb
   rw [e]
   refine ⟨fun j hj hjk => ?_, h2⟩
   by_cases ejk : j = k
   ·subst ejk; exact hb
   ·exact a4m (List.pairwise_iff_getElem.1 h j k hj hlt (by omega)) hb
  ·have e : a2f o p (k + 1) = a2f o p k := by rw [a2f, if_neg]; rw [hd, a2X]; simpa using hb
   rw [e]
   refine ih (by omega) fun j hj hjk => ?_
   by_cases ejk : j = k
   ·subst ejk; exact hb
   ·exact h2 j hj (by omega)
theorem a7f {o : List FileD} {f : FileD} (h : Srt o) : (putI o f).1 = ins o f := by
 obtain ⟨h1, h2⟩ := b8W (p := f.path) h o.length (Nat.le_refl _) (fun j hj hjk => by omega)
 have hk := b4i o f.path
 change ∀ j (hj : j < o.length), j < putK o f.path -> _ at h1
 change ∀ j (hj : j < o.length), putK o f.path <= j -> _ at h2
 generalize hkk : putK o f.path = k at h1 h2 hk
 obtain ⟨a1, a2⟩ := d0V h hk h1 h2
 unfold ins putI
 rw [a1, a2, hkk]
 split
 ·rename_i hp
  obtain ⟨hlt, hp⟩ := hp
  rw [List.getD_eq_getElem?_getD, List.getElem?_eq_getElem hlt] at hp
  simp only [Option.getD_some] at hp
  change o.set k f = _
  rw [List.set_eq_take_append_cons_drop, if_pos hlt]
  congr 2
  rw [List.drop_eq_getElem_cons hlt, List.filter_cons, if_neg (by simp [hp, a2T])]
  symm
  refine List.filter_eq_self.2 fun g hg => ?_
  obtain ⟨j, hj, rfl⟩ := List.getElem_of_mem hg
  simp only [List.length_drop] at hj
  rw [List.getElem_drop]
  have := List.pairwise_iff_getElem.1 h k (k + 1 + j) hlt (by omega) (by omega)
  rw [hp] at this
  exact decide_eq_true this
 ·rename_i hp
  change a2D o k f = _
  unfold a2D
  congr 2
  symm
  refine List.filter_eq_self.2 fun g hg => ?_
  obtain ⟨j, hj, rfl⟩ := List.getElem_of_mem hg
  simp only [List.length_drop] at hj
  rw [List.getElem_drop]
  have hlt : k < o.length := by omega
  have hne : ¬ o[k].path = f.path := fun e => hp ⟨hlt, by rw [List.getD_eq_getElem?_getD, List.getElem?_eq_getElem hlt]; exact e⟩
  have hgt := a5a _ _ (h2 k hlt (Nat.le_refl _)) hne
  by_cases hj0 : j = 0
  ·subst hj0; exact decide_eq_true hgt
  ·exact decide_eq_true (a4m hgt (List.pairwise_iff_getElem.1 h k (k + j) hlt (by omega) (by omega)))
theorem setT (f : FileD) : ∀ (l acc : List FileD), l.foldl (a1i f) (acc, true) = (acc ++ l.filter (fun g => !decide (g.path = f.path)), true) := by
 intro l
 induction l with
 | nil => intro acc; simp
 | cons g r ih =>
  intro acc
  rw [List.foldl_cons]
  by_cases hp : g.path = f.path
  ·have : a1i f (acc, true) g = (acc, true) := by simp [a1i, hp]
   rw [this, ih, List.filter_cons, if_neg (by simp [hp])]
  ·have : a1i f (acc, true) g = (acc ++ [g], true) := by simp [a1i, hp]
   rw [this, ih, List.filter_cons, if_pos (by simp [hp])]
   simp
theorem setF (f : FileD) : ∀ (l acc : List FileD), Srt l -> (if (l.foldl (a1i f) (acc, false)).2 then (l.foldl (a1i f) (acc, false)).1 else (l.foldl (a1i f) (acc, false)).1 ++ [f]) = acc ++ ins l f := by
 intro l
 induction l with
 | nil => intro acc _; simp [ins]
 | cons g r ih =>
  intro acc h
  obtain ⟨h1, h2⟩ := List.pairwise_cons.1 h
  rw [List.foldl_cons]
  by_cases hb : g.path < f.path
  ·have hlb : Go.Op.bytesLess g.path f.path = true := by rw [a2X]; exact decide_eq_true hb
   have hne : ¬ g.path = f.path := fun e => by rw [e] at hb; exact a2T _ hb
   have : a1i f (acc, false) g = (acc ++ [g], false) := by simp [a1i, hlb, hne]
   rw [this, ih _ h2]
   unfold ins
   rw [List.filter_cons, if_pos (decide_eq_true hb), List.filter_cons, if_neg (by simpa using a4l hb)]
   simp
  ·have hlb : Go.Op.bytesLess g.path f.path = false := by rw [a2X]; exact decide_eq_false hb
   have hgr : ∀ x ∈ r, f.path < x.path := fun x hx => by
    by_cases e : g.path = f.path
    ·rw [<- e]; exact h1 x hx
    ·exact a4m (a5a _ _ hb e) (h1 x hx)
   have b1 : r.filter (fun x => decide (x.path < f.path)) = [] := List.filter_eq_nil_iff.2 fun x hx => by simpa using a4l (hgr x hx)
   have b2 : r.filter (fun x => decide (f.path < x.path)) = r := List.filter_eq_self.2 fun x hx => decide_eq_true (hgr x hx)
   have b3 : r.filter (fun x => !decide (x.path = f.path)) = r := List.filter_eq_self.2 fun x hx => by
    have := hgr x hx
    simp only [Bool.not_eq_true', decide_eq_false_iff_not]
    intro e; rw [e] at this; exact a2T _ this
   by_cases e : g.path = f.path
   ·have : a1i f (acc, false) g = (acc ++ [f], true) := by
     rw [e] at hlb
     simp [a1i, hlb, e]
    rw [this, setT, b3]
    simp only [if_true]
    unfold ins
    rw [List.filter_cons, if_neg (by simpa using hb), List.filter_cons, if_neg (by simp [e, a2T]), b1, b2]
    simp
   ·have : a1i f (acc, false) g = (acc ++ [f] ++ [g], true) := by simp [a1i, hlb, e]
    rw [this, setT, b3]
    simp only [if_true]
    unfold ins
    rw [List.filter_cons, if_neg (by simpa using hb), List.filter_cons, if_pos (decide_eq_true (a5a _ _ hb e)), b1, b2]
    simp
theorem b1X {o : List FileD} {f : FileD} (h : Srt o) : setS o f = ins o f := by
 have := setF f o [] h
 rw [List.nil_append] at this
 exact this
theorem c6C : ∀ {l o : List FileD}, Srt (o ++ l) -> inP o l = o ++ l := by
 intro l
 induction l with
 | nil => intro o _; simp [inP]
 | cons f r ih =>
  intro o h
  have ho : Srt o := (List.pairwise_append.1 h).1
  have hlt : ∀ g ∈ o, g.path < f.path := fun g hg => (List.pairwise_append.1 h).2.2 g hg f (by simp)
  have e : (putI o f).1 = o ++ [f] := by
   rw [a7f ho]
   unfold ins
   rw [List.filter_eq_self.2 fun g hg => decide_eq_true (hlt g hg), List.filter_eq_nil_iff.2 fun g hg => by simpa using a4l (hlt g hg)]
  have : inP o (f :: r) = inP (o ++ [f]) r := by simp only [inP, List.foldl_cons, e]
  rw [this, ih (by simpa using h)]
  simp



theorem d0o {c : UInt8} : ∀ {s p : Str}, ((spl c s p).map fun q => q.length + 1).sum = p.length + s.length + 1 := by
 intro s
 induction s with
 | nil => intro p; simp [spl]
 | cons x s ih =>
  intro p
  simp only [spl]
  split
  ·simp [ih]; omega
  ·rw [ih]; simp; omega
def d1g (t : List FileD) : Prop := ∀ f ∈ t, (∀ b ∈ f.path, 32 < b.toNat) /\ f.text.length < 100 /\ ∀ l ∈ f.text, (10 : UInt8) ∉ l
structure OkT (ok : List FileD -> Bool) : Prop where
 n : ∀ {t}, ok t = true -> t.length <= 8
 plain : ∀ {t}, ok t = true -> d1g t
 ten : ∀ {t}, ok t = true -> ∀ f ∈ t, f.text.length <= 10
theorem d0n {c : UInt8} : ∀ {s p : Str}, ∀ b ∈ s, b = c \/ ∃ q ∈ spl c s p, b ∈ q := by
 intro s
 induction s with
 | nil => intro p b hb; cases hb
 | cons x s ih =>
  intro p b hb
  have keep : ∀ (s p : Str), ∀ y ∈ p, ∃ q ∈ spl c s p, y ∈ q := by
   intro s
   induction s with
   | nil => intro p y hy; exact ⟨p, by simp [spl], hy⟩
   | cons z s ih2 =>
    intro p y hy
    simp only [spl]
    split
    ·exact ⟨p, by simp, hy⟩
    ·exact ih2 (p ++ [z]) y (by simp [hy])
  simp only [spl]
  split
  ·rename_i hx
   rcases List.mem_cons.1 hb with rfl | hb
   ·exact .inl hx
   ·rcases ih (p := []) b hb with h | ⟨q, h1, h2⟩
    ·exact .inl h
    ·exact .inr ⟨q, by simp [h1], h2⟩
  ·rcases List.mem_cons.1 hb with rfl | hb
   ·exact .inr (keep s (p ++ [b]) b (by simp))
   ·exact ih b hb
theorem b8T {s : Str} (h : a3b s = true) : (∀ b ∈ s, 32 < b.toNat) /\ s.length <= 20 := by
 simp only [a3b, Bool.and_eq_true, decide_eq_true_eq, List.all_eq_true] at h
 obtain ⟨h1, h2⟩ := h
 constructor
 ·intro b hb
  rcases d0n (c := 47) (p := []) b hb with rfl | ⟨q, hq, hbq⟩
  ·decide
  ·have h3 := h2 q hq
   simp only [a0Z, Bool.and_eq_true, List.all_eq_true] at h3
   have h4 := h3.2 b hbq
   simp only [a9o, Bool.or_eq_true, Bool.and_eq_true, decide_eq_true_eq] at h4
   omega
 ·have h3 := d0o (c := 47) (s := s) (p := [])
  have h4 : ∀ (l : List Str), (∀ q ∈ l, a0Z q = true) -> ((l.map fun q => q.length + 1).sum) <= 7 * l.length := by
   intro l
   induction l with
   | nil => intro _; simp
   | cons q l ih =>
    intro h
    have a := ih fun x hx => h x (by simp [hx])
    have b := h q (by simp)
    simp only [a0Z, Bool.and_eq_true, decide_eq_true_eq] at b
    simp only [List.map_cons, List.sum_cons, List.length_cons]
    omega
  have h5 := h4 _ h2
  rw [h3] at h5
  simp at h5
  omega
theorem a4b {t : List FileD} (h : a0x t = true) : ∀ f ∈ t, ((∀ b ∈ f.path, 32 < b.toNat) /\ f.path.length <= 20) /\ f.text.length <= 10 /\ ∀ l ∈ f.text, (10 : UInt8) ∉ l := by
 intro f hf
 simp only [a0x, Bool.and_eq_true, decide_eq_true_eq, List.all_eq_true, List.mem_range, a3a] at h
 obtain ⟨i, hi, rfl⟩ := List.getElem_of_mem hf
 have h1 := (h.2 i hi).1.1
 have hg : t.getD i default = t[i] := by simp [List.getD_eq_getElem?_getD, hi]
 rw [hg] at h1
 refine ⟨b8T h1.2, ?_⟩
 have h2 := h1.1
 simp only [a1f, Bool.and_eq_true, decide_eq_true_eq, List.all_eq_true] at h2
 refine ⟨h2.1, fun l hl h10 => ?_⟩
 have h3 := h2.2 l hl
 simp only [a5S, Bool.and_eq_true, List.all_eq_true, decide_eq_true_eq] at h3
 have := h3.2 10 h10
 simp at this
--TAB a0N
theorem a3g {r : RepoD} (h : a0E r = true) : rpSz r /\ a4B r := by
 have h1 := a3C h
 have hc : ∀ c ∈ r.commits, c.parents.length <= 2 /\ a0x c.tree = true := fun c hc => by
  obtain ⟨i, hi, rfl⟩ := List.getElem_of_mem hc
  exact ⟨(a2t h hi).1, (a2t h hi).2.2⟩
 have hh : r.heads.length <= 5 := by
  rw [a1h] at h
  exact ((a2v _ _).1 ((a0V r).1 h).2.1).1
 have ht : ∀ t : List FileD, a0x t = true -> t.length <= 8 := fun t q => (a5M t (by rw [<- a2k]; exact q)).1
 refine ⟨⟨by omega, fun c q => ⟨by have := (hc c q).1; omega, by have := ht _ (hc c q).2; omega, fun g hg => by have := (a4b (hc c q).2 g hg).2.1; omega⟩, by omega⟩, by omega, fun c q f hf => by have := (a4b (hc c q).2 f hf).1.2; omega⟩
theorem a5N {t : List FileD} (h : a0x t = true) : ptSz t := fun f hf => by have := (a4b h f hf).1.2; omega
def a9E : Con := .fn 23 (RepoD × Int × Int) (fun a => [a1g a.1, .int .i64 a.2.1, .int .i64 a.2.2]) (fun a => a0E a.1 = true /\ (0 <= a.2.1 /\ a.2.1 < a.1.commits.length) /\ (0 <= a.2.2 /\ a.2.2 < a.1.commits.length)) (fun a => .sl true 2 (a0a (a2n a.1 a.2.1 a.2.2))) (fun _ => [])
theorem b6a : Has Tryz.prog 132 a9E := by
 refine a0d mixed a0H (HasL.cons c2O (HasL.cons b0w HasL.nil)) [0, 1, 2, 3, 6, 7] ((fun a n (_ : Nat) => (fun _ => a0F) a n)) [] Tryz.func132 (by unfold Tryz.f132; rfl) (fun _ => ⟨(), trivial⟩) ?_
 intro a ha
 obtain ⟨r, a, b⟩ := a
 obtain ⟨h1, h2, h3⟩ : a0E r = true /\ (0 <= a /\ a < r.commits.length) /\ (0 <= b /\ b < r.commits.length) := ha
 simp (maxSteps := 8000000) [a9E, b6g, a9P, Con.fn, a0N, tTab, a0J]
 try dsimp only
 try simp only [and_assoc, exists_eq_left, exists_and_left, RepoD.ex1, RepoD.eta]
 have hb : a2n r a b = match (a1R r a b).getLast? with | none => [] | some c => a0C r c := by unfold a2n; rw [<- b6c]; rfl
 have hin := fun c => @b6d r a b c
 refine ⟨h1, h2.1, h2.2, h3.1, h3.2, fun _ => ⟨fun h => ?_, fun h => ?_⟩⟩
 ·rw [hb, h]; rfl
 ·have hl : 0 < (a1R r a b).length := List.length_pos_iff.2 h
  have hlt : (a1R r a b).length - 1 < (a1R r a b).length := by omega
  have e1 : Option.map eInt (a1R r a b)[(a1R r a b).length - 1]? = some (eInt (a1R r a b)[(a1R r a b).length - 1]) := by simp -implicitDefEqProofs [List.getElem?_eq_getElem hlt]
  have hg : (a1R r a b).getLast? = some (a1R r a b)[(a1R r a b).length - 1] := by rw [List.getLast?_eq_getElem?, List.getElem?_eq_getElem hlt]
  have hc := hin _ (List.getElem_mem hlt)
  rw [hb, hg, e1]
  generalize (a1R r a b)[(a1R r a b).length - 1] = c at *
  generalize (a1R r a b).length = m at *
  have q1 : c.toNat < r.commits.length := by omega
  simp -implicitDefEqProofs [eInt, D.asInt, a0C, List.getD_eq_getElem?_getD]
  repeat' (first | intro _ | apply And.intro)
  all_goals omega
theorem a7W {o a b : List FileD} : a0x (a1r o a b).1 = true := by
 unfold a1r
 split
 ·split
  ·rename_i h; rw [a2k]; exact c0W h
  ·rfl
 ·rfl
theorem b0Y {t : List FileD} (h : a0x t = true) : t.length <= 1048576 /\ ∀ f ∈ t, f.text.length <= 1048576 := by
 have h1 := a5M t (by rw [<- a2k]; exact h)
 exact ⟨by omega, fun f hf => by have := h1.2 f hf; omega⟩
theorem c2X {r : RepoD} (h : a0E r = true) {n : Str} {c : CommitD} (hc : a0x c.tree = true) : a4B (cmL r n c) := by
 have h1 := a3C h
 refine ⟨by simp -implicitDefEqProofs [cmL]; omega, fun x hx f hf => ?_⟩
 have hx : x ∈ r.commits ++ [c] := hx
 rcases List.mem_append.1 hx with hx | hx
 ·exact (a3g h).2.2 x hx f hf
 ·rw [List.mem_singleton.1 hx] at hf
  exact a5N hc f hf
def b3Q : Con := .fn 89 (RepoD × Str × Str × Int) (fun a => [a1g a.1, .str a.2.1, .str a.2.2.1, .int .i64 a.2.2.2]) (fun a => a0E a.1 = true) (fun a => .tup [.agg [.own 8 3 (a0e (a1t a.1 a.2.1 a.2.2.1 a.2.2.2).1.commits), .own 9 2 (a0c (a1t a.1 a.2.1 a.2.2.1 a.2.2.2).1.heads)], .int .i64 (a1t a.1 a.2.1 a.2.2.1 a.2.2.2).2]) (fun a => a2y 8 (a1t a.1 a.2.1 a.2.2.1 a.2.2.2).1.commits ++ a2N 9 (a1t a.1 a.2.1 a.2.2.1 a.2.2.2).1.heads)
theorem c2m : Has Tryz.prog 77 b3Q := by
 refine a0d mixed a0H (HasL.cons a5C (HasL.cons a4y (HasL.cons a8S (HasL.cons a3J (HasL.cons a9p (HasL.cons a7w (HasL.cons b6a (HasL.cons b0w (HasL.cons b0a (HasL.cons a8O (HasL.cons a6e HasL.nil))))))))))) [0, 1, 2, 3, 4, 8, 9, 10, 11, 12, 13] ((fun a n (_ : Nat) => (fun _ => a0F) a n)) [16456, 16465, 16466] Tryz.func77 (by unfold Tryz.f77; rfl) (fun _ => ⟨(), trivial⟩) ?_
 intro a ha
 obtain ⟨r, n, w, b⟩ := a
 replace ha : a0E r = true := ha
 simp (maxSteps := 8000000) [-kStep_move, -kStepC_move, -Bool.exists_bool, b3Q, cAtI, a4T, a7N, a5i, a6m, a7Q, a3T, a9E, a9P, a7l, a7M, a9U, a6T, Con.fn, a0N, tTab, a0J]
 try dsimp only
 try simp only [and_assoc, exists_eq_left, exists_and_left, RepoD.ex1, RepoD.eta]
 obtain ⟨hz, hp⟩ := a3g ha
 have hn := a3C ha
 refine ⟨fun h h' => ⟨h, h', by omega⟩, ?_, fun _ => ⟨fun h => ?_, fun c1 c2 c3 c4 => ?_⟩⟩
 ·rcases Int.lt_or_le (atL r.heads n) 0 with h | h
  ·exact .inl (.inl h)
  ·cases hw : a0Z w with
   | false => exact .inl (.inr rfl)
   | true => exact .inr ⟨h, rfl⟩
 ·have e : a1t r n w b = (r, 1) := uS_1 ha (by rcases h with (h | h) | h | h; exact .inl h; exact .inr (.inl h); exact .inr (.inr (by omega)); exact .inr (.inr (by omega)))
  rw [e]; exact ⟨hz, rfl, rfl, rfl, rfl, rfl⟩
 ·have hlt := b2i ha c1
  have hb : b < r.commits.length := by omega
  have hla := a2r r
  have la : b.toNat < (anc r (atL r.heads n)).length := by rw [hla]; omega
  have lb : (atL r.heads n).toNat < (anc r b).length := by rw [hla]; omega
  have e1 : Option.map a1F (anc r (atL r.heads n))[b.toNat]? = some (a1F (anc r (atL r.heads n))[b.toNat]) := by simp -implicitDefEqProofs [la]
  have e2 : Option.map a1F (anc r b)[(atL r.heads n).toNat]? = some (a1F (anc r b)[(atL r.heads n).toNat]) := by simp -implicitDefEqProofs [lb]
  have i1 : isT (anc r (atL r.heads n)) b.toNat = (anc r (atL r.heads n))[b.toNat] := by simp -implicitDefEqProofs [isT, List.getD_eq_getElem?_getD, la]
  have i2 : isT (anc r b) (atL r.heads n).toNat = (anc r b)[(atL r.heads n).toNat] := by simp -implicitDefEqProofs [isT, List.getD_eq_getElem?_getD, lb]
  have U2 := @uS_2 r n w b ha c1 c2 ⟨c3, hb⟩
  have U3 := @uS_3 r n w b ha c1 c2 ⟨c3, hb⟩
  have U4 := @uS_4 r n w b ha c1 c2 ⟨c3, hb⟩
  rw [i1] at U2 U3 U4
  rw [i2] at U3 U4
  have hla1 := hla (atL r.heads n)
  have hlb1 := hla b
  rw [e1, e2]
  generalize (anc r (atL r.heads n))[b.toNat] = x at *
  generalize (anc r b)[(atL r.heads n).toNat] = y at *
  have p1 := a5N (b5Z ha (atL r.heads n) b)
  have p2 := a5N (a3o ha ⟨c1, hlt⟩)
  have p3 := a5N (a3o ha ⟨c3, hb⟩)
  simp -implicitDefEqProofs [a1F, D.asBool, ha, hla1, hlb1, c1, c3, hlt, hb, hz]
  have ta : a0C r (atL r.heads n) = r.commits[(atL r.heads n).toNat].tree := by simp -implicitDefEqProofs [a0C, List.getD_eq_getElem?_getD, show (atL r.heads n).toNat < r.commits.length by omega]
  have tb : a0C r b = r.commits[b.toNat].tree := by simp -implicitDefEqProofs [a0C, List.getD_eq_getElem?_getD, show b.toNat < r.commits.length by omega]
  have jt := @a7W (a2n r (atL r.heads n) b) (a0C r (atL r.heads n)) (a0C r b)
  rw [ta] at p2
  rw [tb] at p3
  rw [ta, tb] at U4 jt
  generalize a1r (a2n r (atL r.heads n) b) r.commits[(atL r.heads n).toNat].tree r.commits[b.toNat].tree = J at *
  refine ⟨fun hx => by rw [U2 hx]; exact ⟨rfl, rfl, rfl, rfl, rfl⟩, fun hx => ⟨fun hy => by rw [U3 hx hy]; exact ⟨hz.2.2, rfl, rfl, rfl, rfl, rfl⟩, fun hy => ⟨p1, p2, p3, ?_⟩⟩⟩
  have U4 := U4 hx hy
  clear U2 U3
  refine ⟨fun hj => by rw [U4, if_neg (by simp -implicitDefEqProofs [hj])]; exact ⟨rfl, rfl, rfl, rfl, rfl⟩, fun hj => ⟨[atL r.heads n, b], rfl, rfl, hz.2.2, hz.1, (b0Y jt).1, (b0Y jt).2, c2X ha jt, ?_⟩⟩
  rw [if_pos hj] at U4
  rw [U4]
  exact ⟨fun h => by simp -implicitDefEqProofs [h], fun h => by simp -implicitDefEqProofs [h]⟩
theorem Uni.ok {r : RepoD} {n w : Str} {b : Int} {X : RepoD × Int} (h : a0v r = true) (hu : Uni r n w b X) : a0v X.1 = true := by
 cases hu with
 | form => exact h
 | same _ _ _ _ _ => exact h
 | on _ _ _ _ _ _ hr => exact hr
 | clash _ _ _ _ _ => exact h
 | full => exact h
 | made _ _ _ _ _ _ _ _ hr => exact hr
theorem Uni.keeps {r : RepoD} {n w : Str} {b : Int} {X : RepoD × Int} (hu : Uni r n w b X) : r.commits <+: X.1.commits := by
 cases hu with
 | made t _ _ _ _ _ _ _ _ => exact ⟨[⟨[atL r.heads n, b], w, t⟩], rfl⟩
 | _ => exact List.prefix_refl _
theorem Uni.other {r : RepoD} {n w m : Str} {b : Int} {X : RepoD × Int} (h : a0v r = true) (hu : Uni r n w b X) (hm : ¬ n = m) : atL X.1.heads m = atL r.heads m := by
 have hH := ((a0V r).1 h).2.1
 cases hu with
 | on _ _ _ _ _ _ _ =>
  show atL (hSet r.heads n b) m = _
  rw [a6E hH, if_neg hm]
 | made t _ _ _ _ _ _ _ _ => rw [b0A h, if_neg hm]
 | _ => rfl
def Came (r : RepoD) (n : Str) (z : Nat) : Prop := 0 <= atL r.heads n /\ Rch r (atL r.heads n).toNat z
theorem Uni.came {r : RepoD} {n w : Str} {b : Int} {X : RepoD × Int} {z : Nat} (h : a0v r = true) (hu : Uni r n w b X) (hz : Came r n z) : Came X.1 n z := by
 have hH := ((a0V r).1 h).2.1
 have hp := c5f h
 cases hu with
 | on h1 h2 h3 h4 h5 h6 h7 =>
  have e : atL (hSet r.heads n b) n = b := by rw [a6E hH, if_pos rfl]
  refine ⟨by show 0 <= atL (hSet r.heads n b) n; rw [e]; exact h3, ?_⟩
  show Rch ⟨r.commits, hSet r.heads n b⟩ (atL (hSet r.heads n b) n).toNat z
  rw [e]
  have := (Rch.more (cs := []) (hs := hSet r.heads n b) hp (a := b.toNat) (x := z) (by omega)).2 (h6.trans hz.2)
  simpa using this
 | made t h1 h2 h3 h4 h5 h6 h7 h8 =>
  have e : atL (addR r n ⟨[atL r.heads n, b], w, t⟩).heads n = r.commits.length := by rw [b0A h, if_pos rfl]
  have e2 : ((r.commits.length : Int)).toNat = r.commits.length := by omega
  refine ⟨by rw [e]; omega, ?_⟩
  rw [e, e2]
  have q := b5R (r := r) n ⟨[atL r.heads n, b], w, t⟩ (p := atL r.heads n) (by simp)
  exact q.trans ((Rch.more (cs := [⟨[atL r.heads n, b], w, t⟩]) (hs := hSet r.heads n r.commits.length) hp (a := (atL r.heads n).toNat) (x := z) (by omega)).2 hz.2)
 | _ => exact hz
theorem Uni.got {r : RepoD} {n w : Str} {b : Int} {X : RepoD × Int} (h : a0v r = true) (hu : Uni r n w b X) (hc : X.2 = 0 \/ X.2 = 3 \/ X.2 = 2) : (0 <= b /\ b < r.commits.length) /\ Came X.1 n b.toNat := by
 have hH := ((a0V r).1 h).2.1
 cases hu with
 | form => simp at hc
 | same h1 h2 h3 h4 h5 => exact ⟨⟨h3, h4⟩, h1, h5⟩
 | on h1 h2 h3 h4 h5 h6 h7 =>
  have e : atL (hSet r.heads n b) n = b := by rw [a6E hH, if_pos rfl]
  refine ⟨⟨h3, h4⟩, by show 0 <= atL (hSet r.heads n b) n; rw [e]; exact h3, ?_⟩
  show Rch ⟨r.commits, hSet r.heads n b⟩ (atL (hSet r.heads n b) n).toNat b.toNat
  rw [e]; exact .refl
 | clash => simp at hc
 | full => simp at hc
 | made t h1 h2 h3 h4 h5 h6 h7 h8 =>
  have e : atL (addR r n ⟨[atL r.heads n, b], w, t⟩).heads n = r.commits.length := by rw [b0A h, if_pos rfl]
  have e2 : ((r.commits.length : Int)).toNat = r.commits.length := by omega
  refine ⟨⟨h3, h4⟩, by rw [e]; omega, ?_⟩
  rw [e, e2]
  exact b5R (r := r) n ⟨[atL r.heads n, b], w, t⟩ (p := b) (by simp)
def b1v : Con := .fn 42 (OpD × Bool × Bool × Bool × Bool) (fun a => [vOp a.1, .bool a.2.1, .bool a.2.2.1, .bool a.2.2.2.1, .bool a.2.2.2.2]) (fun a => a.1.text.length <= 1048576) (fun a => .bool (a3S a.1 a.2.1 a.2.2.1 a.2.2.2.1 a.2.2.2.2)) (fun _ => [])
theorem b8E : Has Tryz.prog 80 b1v := by
 refine a0d mixed a0f HasL.nil [0, 1, 2, 3, 4, 5, 10] ((fun a n (_ : Nat) => (fun _ => a0F) a n)) [] Tryz.func80 (by unfold Tryz.f80; rfl) (fun _ => ⟨(), trivial⟩) ?_
 intro a ha
 obtain ⟨o, p, t, a, x⟩ := a
 replace ha : o.text.length <= 1048576 := ha
 simp (maxSteps := 8000000) -implicitDefEqProofs [-kStep_move, -Bool.exists_bool, b1v, Con.fn, tTab]
 unfold a3S
 by_cases h1 : o.path = [] <;> by_cases h2 : o.to_ = [] <;> by_cases h3 : o.at_ = 0 <;> by_cases h4 : o.text = [] <;> simp -implicitDefEqProofs [h1, h2, h3, h4] <;> cases p <;> cases t <;> cases a <;> cases x <;> simp -implicitDefEqProofs <;> omega
def l19O (t : List Str) : Inv := ⟨Nat, fun i => ⟨[(0, true, .sl true 1 (a0b t)), (2, true, .bool false), (3, true, .int .i64 i)], []⟩, fun i => i <= t.length /\ (t.take i).all barB = true, fun i => t.length - i⟩
def l19I (t : List Str) (g : Nat) : Inv := ⟨Nat, fun k => ⟨[(0, true, .sl true 1 (a0b t)), (2, true, .bool false), (3, true, .int .i64 g), (4, true, .int .i64 k)], []⟩, fun k => g < t.length /\ (t.take g).all barB = true /\ k <= (t.getD g []).length /\ ((t.getD g []).take k).all (fun b => decide (b ≠ 124)) = true, fun k => (t.getD g []).length - k⟩
def b7a (t : List Str) (n g : Nat) : Inv := if n = 2 then l19O t else l19I t g
theorem c6N (t g) : b7a t 2 g = l19O t := rfl
theorem c6O (t g) : b7a t 5 g = l19I t g := rfl
def a9I : Con := .fn 29 (List Str) (fun t => [.sl true 1 (a0b t)]) (fun _ => True) (fun t => .bool (a5I t)) (fun _ => [])
theorem b7b : Has Tryz.prog 82 a9I := by
 refine a0d mixed a0f (HasL.cons b1P HasL.nil) [0, 2, 3, 4] (fun t => b7a t) [] Tryz.func82 (by unfold Tryz.f82; rfl) (fun _ => ⟨(), trivial⟩) ?_
 intro (t : List Str) _
 simp -implicitDefEqProofs [a9I, b2o, Con.fn, tTab, c6N, c6O, l19O, l19I]
 try dsimp only
 have e0 : ∀ i (h : i < t.length), ¬ barB t[i] = true -> a5I t = false := fun i h hb => by
  unfold a5I
  rw [Bool.and_eq_false_iff]; left
  rw [List.all_eq_false]
  exact ⟨_, List.getElem_mem h, hb⟩
 refine fun i hi hp _ => ⟨fun hlt => ⟨i, ⟨0, ⟨rfl, rfl⟩, hlt, hp, Nat.zero_le _, by simp⟩, fun k _ _ hk hq => ?_⟩, fun hge => ?_⟩
 ·have e1 := e0 i hlt
  have e2 : t[i]?.getD [] = t[i] := by simp -implicitDefEqProofs [hlt]
  have qq : Option.map eStr t[i]? = some (eStr t[i]) := by simp -implicitDefEqProofs [hlt]
  have e3 : (t.take (i + 1)).all barB = ((t.take i).all barB && barB t[i]) := a0G hlt
  rw [e2] at hk hq ⊢
  rw [qq]
  generalize t[i] = s at *
  simp -implicitDefEqProofs [eStr, D.asStr]
  have hex : ∀ h : k < List.length s, s[k]?.getD 0 = s[k] := fun h => by simp -implicitDefEqProofs [h]
  refine ⟨hlt, fun _ _ => ⟨fun hl => ⟨hlt, fun _ => ⟨hl, fun _ => ?_⟩⟩, fun hg => ⟨⟨by omega, by omega⟩, fun _ _ => ⟨i + 1, by omega, ⟨by omega, ?_⟩, by omega⟩⟩⟩⟩
  ·rw [hex hl]
   have hb := List.getElem_mem hl
   refine ⟨fun hc => e1 (fun hb2 => ?_), fun hc => ⟨⟨by omega, by omega⟩, fun _ _ => ⟨k + 1, by omega, ⟨hlt, ‹∀ x ∈ List.take i t, barB x = true›, by omega, fun x hx => ?_⟩, by omega⟩⟩⟩
   ·unfold barB at hb2
    have := List.all_eq_true.1 hb2 _ hb
    simp only [ne_eq, decide_not, Bool.not_eq_true', decide_eq_false_iff_not] at this
    exact this (UInt8.toNat_inj.1 (by simp; omega))
   ·rw [a0p hl] at hx
    rcases List.mem_append.1 hx with hx | hx
    ·exact hq x hx
    ·simp only [List.mem_singleton] at hx
     subst hx
     intro e; rw [e] at hc; exact hc rfl
  ·have hs : barB s = true := by
    unfold barB
    rw [List.all_eq_true]
    intro x hx
    have := hq x (by rw [List.take_of_length_le hg]; exact hx)
    simp -implicitDefEqProofs [this]
   rw [hs, Bool.and_true] at e3
   have hp' : (List.take i t).all barB = true := List.all_eq_true.2 ‹∀ x ∈ List.take i t, barB x = true›
   rw [hp'] at e3
   exact List.all_eq_true.1 e3
 ·have e : t.take i = t := List.take_of_length_le hge
  rw [e] at hp
  unfold a5I
  rw [List.all_eq_true.2 hp, Bool.true_and]
def b6k : Con := .fn 72 OpD (fun o => [vOp o]) (fun o => o.text.length <= 1048576) (fun o => .bool (opB o)) (fun _ => [])
theorem c4b : Has Tryz.prog 34 b6k := by
 refine a0d mixed a0f (HasL.cons a4u (HasL.cons b8E (HasL.cons a8W (HasL.cons b7b (HasL.cons a4M HasL.nil))))) [0, 1, 2, 14, 52, 62] ((fun a n (_ : Nat) => (fun _ => a0F) a n)) [] Tryz.func34 (by unfold Tryz.f34; rfl) (fun _ => ⟨(), trivial⟩) ?_
 intro (o : OpD) (ha : o.text.length <= 1048576)
 simp (maxSteps := 8000000) -implicitDefEqProofs [-kStep_move, -Bool.exists_bool, b6k, a4S, b1v, a7O, a9I, a6p, Con.fn, tTab, bOp]
 try dsimp only
 simp -implicitDefEqProofs only [and_assoc, exists_eq_left, exists_and_left, OpD.ex1, OpD.eta]
 have hk : o.kind = 1 \/ o.kind = 2 \/ o.kind = 3 \/ o.kind = 4 \/ o.kind = 5 \/ o.kind = 6 \/ o.kind = 7 \/ (¬ o.kind = 1 /\ ¬ o.kind = 2 /\ ¬ o.kind = 3 /\ ¬ o.kind = 4 /\ ¬ o.kind = 5 /\ ¬ o.kind = 6 /\ ¬ o.kind = 7) := by omega
 unfold opB
 generalize a0Z o.branch = b1
 generalize a0Z o.who = b2
 generalize a3c o.path = b3
 generalize a3c o.to_ = b4
 generalize a0Z o.to_ = b5
 generalize a5I o.text = b6
 rcases hk with h | h | h | h | h | h | h | h <;> simp -implicitDefEqProofs [h, ha]
 all_goals grind
end Vx
end Go.Proofs.YtonkagjdfpacmaaGreatDoor
