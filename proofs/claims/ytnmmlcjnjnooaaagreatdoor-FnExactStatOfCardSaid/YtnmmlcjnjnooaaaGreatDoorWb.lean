/-
  Joined by program (merge.py): Fa, Fb, Fc, Hg, Nb, Shs, Qb, Gt, Qc, Qa, Md, Mk, Mf, Mg, Mc, Me, Ml, Mh, Da, Dc, Dg, Id, Vw, Oa, Qd. It shows what the single texts show; conditions: none but those of each lemma.
-/
import Derived.Test.YtnmmlcjnjnooaaaGreatDoorWa
import Derived.Lib.Walk
import Derived.Lib.SliceRun
import Derived.Lib.JoinLaws
import Derived.Lib.AppendZeros
import Derived.Lib.AppendZerosOnto
import Derived.Lib.Overlaps
import Derived.Laws.Externs
import Derived.Laws.IdiomCopy
import Derived.Laws.NewBlocks
import Derived.Shelf.RegionOpenPlain
import Derived.Shelf.Sort.Plain
import Derived.Shelf.Slices.In.SortNone
import Derived.Shelf.Slices.CompactS
import Derived.Test.YtnmmlcjnjnooaaaGreatDoorProg
set_option linter.unusedVariables false
set_option linter.unusedSimpArgs false
set_option linter.unusedSectionVars false
/-
  slices.Insert at elements of two cells: the library's text, walked: in place, and into a new row.
-/
set_option linter.unusedVariables false
set_option linter.unusedSimpArgs false
namespace Go.Proofs.YtnmmlcjnjnooaaaGreatDoor
namespace Vx
open Go.RowKit Go.Lib

theorem run_copy_cells_k {P : Program} (k : Nat) (w : World) (dT sT ty elem : TypeId) (b o dLen dCap : Nat) (a : Addr) (sLen sCap : Nat) (cs : List Value)
    (hu : P.underlying dT = some (.slice elem)) (hs : (P.info? elem).map (·.size) = some k) (hn : cs.length = Nat.min sLen dLen * k)
    (hsrc : ∀ (j : Nat) v, cs[j]? = some v → w.cell? (a.add j) = some v) (hc : ∀ j, j < cs.length → (w.cell? ⟨b, o + j, none⟩).isSome = true) (hf : ∀ j, j < cs.length → w.frozen? ⟨b, o + j, none⟩ = false) (h1 : ∀ v ∈ cs, v.oneCell' = true) :
    (Builtin.copy_ #[dT, sT] ty #[.slice (some ⟨b, o, none⟩) dLen dCap, .slice (some a) sLen sCap]).run P w = .ok (goInt (Nat.min sLen dLen)) (w.setCells b o cs) := by
  have hl := run_loadCells_list (P := P) w a cs hsrc
  have hst := run_storeCells_cells (P := P) b o cs 0 w (by simpa using hc) (by simpa using hf) h1
  cases hq : P.info? elem with
  | none => simp [hq] at hs
  | some i =>
    have hi : i.size = k := by simpa [hq] using hs
    simp [Builtin.copy_, run_underlying hu, Builtin.lenOf, Builtin.firstCells, sizeOf, typeInfo, hq, hi, ← hn, hl, hst]

theorem wp_copy_runI {P : Program} (w : World) {o : Oper} {a : Act} {K : Act → World → Prop} {Q : Exit → Act → World → Prop} (d s : Operand) (t t' : TypeId)
    (ho : o.op = .call { callee := .builtin .copy, args := #[d, s], argTypes := #[t, t'] }) (v u : Value) (hd : a.eval d = v) (hs : a.eval s = u) {v' : Value} {w' : World}
    (hr : (Builtin.copy_ #[t, t'] o.type #[v, u]).run P w = .ok v' w') (h : K (a.put o.dst v') w') : o.wp P a w K Q := by
  unfold Oper.wp execOp
  simp only [ho, resolve, invoke, builtin, Sem.run_bind, Sem.run_pure, Result.andThen_ok, List.map_toArray, List.map_cons, List.map_nil, hd, hs, hr]
  exact h
theorem wpList_copy_runI {P : Program} (w : World) {ops : Array Oper} {rest : List Oper} {o : Oper} {a : Act} {Q : Exit → Act → World → Prop} (hgd : o.guard = none) (d s : Operand) (t t' : TypeId)
    (ho : o.op = .call { callee := .builtin .copy, args := #[d, s], argTypes := #[t, t'] }) (v u : Value) (hd : a.eval d = v) (hs : a.eval s = u) {v' : Value} {w' : World}
    (hr : (Builtin.copy_ #[t, t'] o.type #[v, u]).run P w = .ok v' w') (h : wpList P ops Q rest (a.put o.dst v') w') : wpList P ops Q (o :: rest) a w :=
  wpList_plain hgd fun _ hK => wp_copy_runI w d s t t' ho v u hd hs hr (hK _ _ h)
theorem step_copy_runI {P : Program} {ops : Array Oper} {o : Oper} {a : Act} {w : World} {K : Act → World → Prop} {Q : Exit → Act → World → Prop} {E : Prop}
    (hg : o.guard = none) (d x : Operand) (dT sT : TypeId) (hop : o.op = Op.call { callee := Callee.builtin Builtin.copy, args := #[d, x], argTypes := #[dT, sT] })
    (v u : Value) (hd : a.eval d = v) (hx : a.eval x = u) {v' : Value} {w' : World} (hr : (Builtin.copy_ #[dT, sT] o.type #[v, u]).run P w = .ok v' w') (hK : K (a.put o.dst v') w') :
    if Region.wanted o (yielded ops a.tmps) = true then Oper.wp P o a w K Q else E := by
  have hw : Region.wanted o (yielded ops a.tmps) = true := by simp [Region.wanted, hg]
  rw [if_pos hw]
  unfold Oper.wp
  simp [execOp, hop, resolve, invoke, builtin, hd, hx, hr, Result.andThen]
  exact hK
theorem isSome_setCells' (b : Nat) (vs : List Value) (o : Nat) (w : World) (h : ∀ j, j < vs.length → (w.cell? ⟨b, o + j, none⟩).isSome = true) (k : Nat) (hk : (w.cell? ⟨b, k, none⟩).isSome = true) : ((w.setCells b o vs).cell? ⟨b, k, none⟩).isSome = true := by
  by_cases hin : o ≤ k ∧ k < o + vs.length
  · have := World.cell?_setCells_in b vs o w h (k - o) (by omega)
    rw [show o + (k - o) = k by omega] at this
    rw [this]; rfl
  · rw [World.cell?_setCells_out b vs o w ⟨b, k, none⟩ (fun _ _ => by show k < o ∨ o + vs.length ≤ k; omega)]
    exact hk


end Vx
end Go.Proofs.YtnmmlcjnjnooaaaGreatDoor
/-
  The contract of slices.Insert at files.
-/
namespace Go.Proofs.YtnmmlcjnjnooaaaGreatDoor
namespace Vx
open Go.RowKit

theorem only8 {c : Cx} {s : St} {a : Act} {w : World} {β : Nat → Value} {fp : Nat → List (Nat × Nat)} (S : SatI c s a w β fp) (hp : c.pins = []) {e k : Nat} {R : List (List D)} (h8 : s.m 8 = some (.own e k true R)) :
    ∃ a', SatI c ⟨fun _ => none, get? [(8, .own e k true R)]⟩ a' w β fp ∧ RelL w (get? [(8, .own e k true R)]) β c [.own 8 k R] [β 8] := by
  have hb : BlkOk w (get? [(8, Blk.own e k true R)]) β c 8 (fp 8) (.own e k true R) := by
    obtain ⟨p1, p2, p3⟩ := S.mem 8 _ h8
    refine ⟨p1, p2, ?_⟩
    rcases p3 with p3 | ⟨b', cap, cs, f0, r1, r2, r3, r4, r5, r6, r7, r8⟩
    · exact .inl p3
    · exact .inr ⟨b', cap, cs, f0, r1, r2, r3, r4, r5, r6, r7, by simp⟩
  refine ⟨⟨Array.replicate c.n undef, []⟩, ⟨?_, ?_, ?_, ?_, ?_, S.fg, S.old, S.os, S.tape, S.output, S.size, rfl, by simp, by simp [hp]⟩, ?_⟩
  · intro t g av h; cases h
  · intro h blk hm; obtain ⟨rfl, rfl⟩ := get1 hm; exact hb
  · intro h blk hm; obtain ⟨rfl, rfl⟩ := get1 hm; exact S.nodup 8 _ h8
  · intro h h' blk blk' hm hm' hne; obtain ⟨rfl, rfl⟩ := get1 hm; obtain ⟨rfl, rfl⟩ := get1 hm'; exact absurd rfl hne
  · intro h blk hm x hx; obtain ⟨rfl, rfl⟩ := get1 hm; exact S.free 8 _ h8 x hx
  · exact own_rel (h := 8) (fps := fp) rfl hb (S.nodup 8 _ h8) (fun h' blk' hm hne => by obtain ⟨rfl, rfl⟩ := get1 hm; exact absurd rfl hne) (S.free 8 _ h8)

def insAtF (l : List FileD) (i : Nat) (f : FileD) : List FileD := l.take i ++ (f :: l.drop i)
theorem eInsF (l : List FileD) (i : Nat) (f : FileD) : (eFiles l).take i ++ (eFiles [f] ++ (eFiles l).drop i) = eFiles (insAtF l i f) := by simp [eFiles, insAtF, List.map_take, List.map_drop]
theorem two_cells {w : World} {b : Nat} {cs : Array Value} {ty : Nat} {n : Nat} (h : w.heap[b]? = some (.cells cs ty (0, 0))) : ∀ (j : Nat) v, (cs.toList.take n)[j]? = some v → w.cell? ⟨b, j, none⟩ = some v := by
  intro j v hj
  rw [World.cell_of h]
  rw [List.getElem?_take] at hj
  split at hj
  · simpa using hj
  · cases hj

theorem ins_cells {L olds news R : List Value} {i n : Nat} (hLl : (n + 1) * 2 ≤ L.length) (ho : olds.length = n * 2) (hn : news.length = 2) (hi : i ≤ n) (hL : L.take (i * 2) = olds.take (i * 2)) :
    (((L.take ((i + 1) * 2) ++ (olds.drop (i * 2) ++ R)).take (i * 2)) ++ (news ++ ((L.take ((i + 1) * 2) ++ (olds.drop (i * 2) ++ R)).drop (i * 2 + news.length)))).take ((n + 1) * 2) = olds.take (i * 2) ++ (news ++ olds.drop (i * 2)) := by
  have hl : (L.take ((i + 1) * 2)).length = (i + 1) * 2 := by rw [List.length_take]; omega
  have a1 : (L.take ((i + 1) * 2) ++ (olds.drop (i * 2) ++ R)).take (i * 2) = olds.take (i * 2) := by rw [List.take_append_of_le_length (by omega), List.take_take, Nat.min_eq_left (by omega), hL]
  have a2 : (L.take ((i + 1) * 2) ++ (olds.drop (i * 2) ++ R)).drop (i * 2 + news.length) = olds.drop (i * 2) ++ R := List.drop_left' (by omega)
  rw [a1, a2]
  rw [show olds.take (i * 2) ++ (news ++ (olds.drop (i * 2) ++ R)) = (olds.take (i * 2) ++ (news ++ olds.drop (i * 2))) ++ R by simp]
  exact List.take_left' (by simp only [List.length_append, List.length_take, List.length_drop]; omega)
theorem ins_cells2 {L olds news R : List Value} {i n m : Nat} (hLl : (n + 1) * 2 ≤ L.length) (ho : olds.length = n * 2) (hn : news.length = 2) (hi : i ≤ n) (hL : L.take (i * 2) = olds.take (i * 2)) :
    (((L.take (i * 2) ++ (news ++ L.drop m)).take ((i + 1) * 2)) ++ (olds.drop (i * 2) ++ R)).take ((n + 1) * 2) = olds.take (i * 2) ++ (news ++ olds.drop (i * 2)) := by
  have hl : (L.take (i * 2)).length = i * 2 := by rw [List.length_take]; omega
  have a1 : (L.take (i * 2) ++ (news ++ L.drop m)).take ((i + 1) * 2) = olds.take (i * 2) ++ news := by
    rw [← List.append_assoc, hL]
    rw [hL] at hl
    exact List.take_left' (by rw [List.length_append]; omega)
  rw [a1]
  rw [show (olds.take (i * 2) ++ news) ++ (olds.drop (i * 2) ++ R) = (olds.take (i * 2) ++ (news ++ olds.drop (i * 2))) ++ R by simp]
  exact List.take_left' (by simp only [List.length_append, List.length_take, List.length_drop]; omega)


end Vx
end Go.Proofs.YtnmmlcjnjnooaaaGreatDoor
/-
  The contract of slices.Insert at heads (printed by mkins.py out of that at files).
-/
namespace Go.Proofs.YtnmmlcjnjnooaaaGreatDoor
namespace Vx
open Go.RowKit Go.Lib

set_option maxHeartbeats 4000000 in
set_option maxRecDepth 100000 in
/-- There is room, i < len(s): in place. -/
theorem insH_shift (b n c i vb m vc : Nat) (cs vs : List Value) (w : World) (hi : i < n) (hm : 0 < m) (hroom : n + m ≤ c) (hc63 : c ≤ 9223372036854775807) (hvb : vb ≠ b)
    (hcl : cs.length = n * 2) (hvl : vs.length = m * 2)
    (hcs : ∀ (j : Nat) v, cs[j]? = some v → w.cell? ⟨b, j, none⟩ = some v) (hsp : ∀ j, j < (n + m) * 2 → (w.cell? ⟨b, j, none⟩).isSome = true) (hfz : ∀ j, j < (n + m) * 2 → w.frozen? ⟨b, j, none⟩ = false)
    (hvs : ∀ (j : Nat) v, vs[j]? = some v → w.cell? ⟨vb, j, none⟩ = some v) (h1c : ∀ v ∈ cs, v.oneCell' = true) (h1v : ∀ v ∈ vs, v.oneCell' = true)
    (tA tB : TypeId) (kA kB : Nat) (hsa : w.shape? vb = some (tA, kA)) (hsb : w.shape? b = some (tB, kB)) (hkB : kB ≠ 0) (hfa : w.frozen? ⟨vb, 0, none⟩ = false) (hfe : w.frozen? ⟨vb, kA, none⟩ = false) :
    Calls Tryz.prog 175 #[.slice (some ⟨b, 0, none⟩) n c, .int .i64 i, .slice (some ⟨vb, 0, none⟩) m vc] w fun e w' =>
      e = .returned (.slice (some ⟨b, 0, none⟩) (n + m) c) ∧ w' = (w.drew.setCells b ((i + m) * 2) (cs.drop (i * 2))).setCells b (i * 2) vs := by
  have hz1 : ¬ ((m : Int) = 0) := by omega
  have hz2 : ¬ ((i : Int) = (n : Int)) := by omega
  have hsz : (Tryz.prog.info? 47).map (·.size) = some 2 := by kernel_rfl
  have hov : ∀ lb cb, (callFunc 223 #[.slice (some ⟨vb, 0, none⟩) m vc, .slice (some ⟨b, (i + m) * 2, none⟩) lb cb]).run Tryz.prog w = .ok (.value (.bool false)) w := fun lb cb => by
    rw [run_callFunc_extern Tryz.func223 (by kernel_rfl) (by kernel_rfl) (by kernel_rfl) (e := Extern.SlicesOverlaps.overlaps #[24, 24] #[4]) (by kernel_rfl),
      Lib.run_overlaps_apart w 24 4 47 Tryz.underlying24 2 Tryz.sizeOf47 ⟨vb, 0, none⟩ ⟨b, (i + m) * 2, none⟩ m vc lb cb hvb tA tB kA kB hsa hsb hkB hfa hfe]
    rfl
  have hdl : (cs.drop (i * 2)).length = (n - i) * 2 := by rw [List.length_drop, hcl]; omega
  have mixed : Tryz.prog.follows .mixedOrders = true := mixed
  have hw1 : IntKind.i64.wrap ((i : Int) + (m : Int)) = (i : Int) + (m : Int) := by rw [IntKind.wrap_i64]; omega
  have hb1 : (0 : Int) ≤ (i : Int) + (m : Int) := by omega
  have hin : i ≤ n := by omega
  have htn : ((i : Int) + (m : Int)).toNat = i + m := by omega
  have hb2 : ¬ (c = i + m) := by omega
  have hb3 : (i : Int) ≤ (n : Int) + (m : Int) := by omega
  have hb4 : ¬ (c = i) := by omega
  have hcp1 : ∀ ty dc sc, (Builtin.copy_ #[24, 24] ty #[.slice (some ⟨b, (i + m) * 2, none⟩) (n + m - (i + m)) dc, .slice (some ⟨b, i * 2, none⟩) (n + m - i) sc]).run Tryz.prog w.drew = .ok (goInt (Nat.min (n + m - i) (n + m - (i + m)))) (w.drew.setCells b ((i + m) * 2) (cs.drop (i * 2))) := fun ty dc sc =>
    run_copy_cells_k 2 w.drew _ _ ty 47 b ((i + m) * 2) (n + m - (i + m)) dc ⟨b, i * 2, none⟩ (n + m - i) sc (cs.drop (i * 2)) Tryz.underlying24 hsz (by rw [hdl]; simp only [Nat.min_def]; split <;> omega)
      (fun j v hj => by rw [Addr.add_lit]; exact hcs (i * 2 + j) v (by rwa [List.getElem?_drop] at hj))
      (fun j hj => hsp _ (by omega)) (fun j hj => hfz _ (by omega)) (fun v hv => h1c v (List.mem_of_mem_drop hv))
  obtain ⟨W1, hW1⟩ : ∃ W1, W1 = w.drew.setCells b ((i + m) * 2) (cs.drop (i * 2)) := ⟨_, rfl⟩
  have hsp1 : ∀ k, k < (n + m) * 2 → (W1.cell? ⟨b, k, none⟩).isSome = true := fun k hk => by
    rw [hW1]
    exact isSome_setCells' b (cs.drop (i * 2)) ((i + m) * 2) w.drew (fun j hj => hsp _ (by omega)) _ (hsp k hk)
  have hcp2 : ∀ (W : World), (∀ x, W.cell? x = W1.cell? x) → (∀ x, W.frozen? x = W1.frozen? x) → ∀ ty dc, (Builtin.copy_ #[24, 24] ty #[.slice (some ⟨b, i * 2, none⟩) (n + m - i) dc, .slice (some ⟨vb, 0, none⟩) m vc]).run Tryz.prog W = .ok (goInt (Nat.min m (n + m - i))) (W.setCells b (i * 2) vs) := fun W hWc hWf ty dc =>
    run_copy_cells_k 2 W _ _ ty 47 b (i * 2) (n + m - i) dc ⟨vb, 0, none⟩ m vc vs Tryz.underlying24 hsz (by rw [hvl]; simp only [Nat.min_def]; split <;> omega)
      (fun j v hj => by
        rw [Addr.add_lit, Nat.zero_add, hWc, hW1, World.cell?_setCells_out b _ _ _ _ (fun h _ => absurd h hvb)]
        exact hvs j v hj)
      (fun j hj => by rw [hWc]; exact hsp1 _ (by omega)) (fun j hj => by rw [hWf, hW1, World.frozen?_setCells]; exact hfz _ (by omega)) h1v
  rw [← hW1] at hcp1
  go_enter Tryz.func175, Tryz.ntmps175
  go_wp2_with (simp only [hov])
  go_region_law_o (refine step_copy_runI rfl _ _ 24 24 rfl _ _ (by simp [Act.eval, Act.put]) (by simp [Act.eval, Act.put]) (hcp1 _ _ _) ?_)
  go_wp2_with (at_builtin; refine wpList_copy_runI _ rfl _ _ 24 24 rfl _ _ rfl rfl (hcp2 _ (fun _ => rfl) (fun _ => rfl) _ _) ?_)
  go_ret
  first | exact ⟨rfl, rfl⟩ | exact ⟨rfl, by rw [hW1]⟩

set_option maxHeartbeats 4000000 in
set_option maxRecDepth 100000 in
/-- At the end: append. -/
theorem insH_end (v1 v2 : Value) (base : Option Addr) (n c vb m vc : Nat) (w w' : World) (v' : Value) (hm : 0 < m) (h1 : v1 = .slice base n c) (hn : n ≤ c) (hb : base = none → c = 0) (h2 : v2 = .slice (some ⟨vb, 0, none⟩) m vc)
    (hrun : (Builtin.append_ #[24, 24] 24 #[v1, v2]).run Tryz.prog w = .ok v' w') :
    Calls Tryz.prog 175 #[v1, .int .i64 n, v2] w fun e w1 => e = .returned v' ∧ w1 = w' := by
  subst h1 h2
  have hz1 : ¬ ((m : Int) = 0) := by omega
  have mixed : Tryz.prog.follows .mixedOrders = true := mixed
  go_enter Tryz.func175, Tryz.ntmps175
  cases base with
  | none =>
    have h0 := hb rfl
    have h00 : n = 0 := by omega
    subst h0 h00
    go_wp2_with (at_builtin; refine Lib.wpList_append_run _ rfl _ _ _ _ rfl _ _ rfl rfl _ _ hrun ?_)
    go_ret
    exact ⟨rfl, rfl⟩
  | some a =>
    obtain ⟨ab, ao, asp⟩ := a
    go_wp2_with (at_builtin; refine Lib.wpList_append_run _ rfl _ _ _ _ rfl _ _ rfl rfl _ _ hrun ?_)
    all_goals (go_ret; exact ⟨rfl, rfl⟩)

set_option maxHeartbeats 4000000 in
set_option maxRecDepth 100000 in
/-- i < len(s), no room: a new row. -/
theorem insH_grow (b n c i vb m vc : Nat) (cs vs : List Value) (w : World) (hi : i < n) (hm : 0 < m) (hnc : n ≤ c) (hroom : c < n + m) (hbig : (n + m) * 24 ≤ 140737488355328)
    (hcl : cs.length = n * 2) (hvl : vs.length = m * 2)
    (hcs : ∀ (j : Nat) v, cs[j]? = some v → w.cell? ⟨b, j, none⟩ = some v)
    (hvs : ∀ (j : Nat) v, vs[j]? = some v → w.cell? ⟨vb, j, none⟩ = some v) (h1c : ∀ v ∈ cs, v.oneCell' = true) (h1v : ∀ v ∈ vs, v.oneCell' = true) :
    Calls Tryz.prog 175 #[.slice (some ⟨b, 0, none⟩) n c, .int .i64 i, .slice (some ⟨vb, 0, none⟩) m vc] w fun e w' =>
      e = .returned (.slice (some ⟨w.heap.size, 0, none⟩) (n + m) (grownCap w (n + m) c 47)) ∧
      w' = (((w.alloc (.cells ((cs.take (i * 2)).toArray ++ Builtin.zeroCells #[.string ⟨#[]⟩, .int .i64 0] (n + m - i) ++ Builtin.zeroCells #[.string ⟨#[]⟩, .int .i64 0] (grownCap w (n + m) c 47 - (n + m))) 47)).drew.setCells w.heap.size (i * 2) vs).drew).setCells w.heap.size ((i + m) * 2) (cs.drop (i * 2)) := by
  have mixed : Tryz.prog.follows .mixedOrders = true := mixed
  obtain ⟨i0, hi0, hz0, hzs, hzb⟩ : ∃ i0, Tryz.prog.info? 47 = some i0 ∧ i0.zero = some (.agg #[.string ⟨#[]⟩, .int .i64 0]) ∧ i0.size = 2 ∧ i0.bytes = 24 :=
    info_parts (show (Tryz.prog.info? 47).map (fun i => (i.zero, i.size, i.bytes)) = some (some (.agg #[.string ⟨#[]⟩, .int .i64 0]), 2, 24) by kernel_rfl)
  have hz1 : ¬ ((m : Int) = 0) := by omega
  have hz2 : ¬ ((i : Int) = (n : Int)) := by omega
  have hz3 : (c : Int) < (n : Int) + (m : Int) := by omega
  have hsz : (Tryz.prog.info? 47).map (·.size) = some 2 := by rw [hi0]; simp [hzs]
  have hbw : b < w.heap.size := block_lt_of_cell (hcs 0 _ (List.getElem?_eq_getElem (by omega)))
  have hvw : vb < w.heap.size := block_lt_of_cell (hvs 0 _ (List.getElem?_eq_getElem (by omega)))
  have hkk : (n : Int) + (m : Int) - (i : Int) = ((n + m - i : Nat) : Int) := by omega
  have hik : i + (n + m - i) = n + m := by omega
  have hold : (Builtin.firstCells i0.size i (.slice (some ⟨b, 0, none⟩) i c)).run Tryz.prog w.drew = .ok (cs.take (i * 2)).toArray w.drew := by
    rw [hzs]
    exact run_firstCells_some w.drew 2 i ⟨b, 0, none⟩ i c (cs.take (i * 2)) (by rw [List.length_take]; omega) (fun j v hj => by
      rw [Addr.add_lit]
      rw [List.getElem?_take] at hj
      split at hj
      · rw [Nat.zero_add]; exact hcs j v hj
      · cases hj)
  have hrz : ∀ ty, (Builtin.append_ #[24, 3] ty #[.slice (some ⟨b, 0, none⟩) i c, .int .i64 ((n : Int) + (m : Int) - (i : Int))]).run Tryz.prog w =
      .ok (.slice (some ⟨w.heap.size, 0, none⟩) (n + m) (grownCap w (n + m) c 47)) (w.drew.alloc (.cells ((cs.take (i * 2)).toArray ++ Builtin.zeroCells #[.string ⟨#[]⟩, .int .i64 0] (n + m - i) ++ Builtin.zeroCells #[.string ⟨#[]⟩, .int .i64 0] (grownCap w (n + m) c 47 - (n + m))) 47)) := fun ty => by
    have h := Lib.run_append_grow_zeros w 24 3 ty 47 i0 _ .i64 .i64 Tryz.underlying24 Tryz.underlying3 hi0 hz0 (some ⟨b, 0, none⟩) i c (cs.take (i * 2)) hold (n + m - i) (by omega) (by omega) (by omega) (by omega) (by rw [hzb]; omega) (by rw [hzb, hik]; exact growslice_fits hroom hbig)
    rw [hik] at h
    rw [hkk]
    exact h
  obtain ⟨G, hG⟩ : ∃ G, G = grownCap w (n + m) c 47 := ⟨_, rfl⟩
  obtain ⟨ROW, hROW⟩ : ∃ ROW : Array Value, ROW = (cs.take (i * 2)).toArray ++ Builtin.zeroCells #[.string ⟨#[]⟩, .int .i64 0] (n + m - i) ++ Builtin.zeroCells #[.string ⟨#[]⟩, .int .i64 0] (G - (n + m)) := ⟨_, rfl⟩
  rw [← hG] at hrz ⊢
  rw [← hROW] at hrz ⊢
  have hRl : (n + m) * 2 ≤ ROW.size := by
    rw [hROW]
    simp [Builtin.zeroCells]
    omega
  obtain ⟨W1, hW1⟩ : ∃ W1, W1 = w.drew.alloc (.cells ROW 47) := ⟨_, rfl⟩
  rw [← hW1] at hrz
  have hN : ∀ j, j < (n + m) * 2 → (W1.cell? ⟨w.heap.size, j, none⟩).isSome = true := fun j hj => by
    rw [hW1, World.cell?_alloc_at (w := w.drew) ROW _ w.heap.size j rfl, Array.getElem?_eq_getElem (by omega)]; rfl
  have hNf : ∀ j, W1.frozen? ⟨w.heap.size, j, none⟩ = false := fun j => by rw [hW1]; exact World.frozen?_alloc_at (w := w.drew) ROW _ w.heap.size j rfl
  have hOb : ∀ j v, w.cell? ⟨b, j, none⟩ = some v → W1.cell? ⟨b, j, none⟩ = some v := fun j v h => by rw [hW1, World.cell?_alloc_past (w := w.drew) _ b j hbw]; exact h
  have hOv : ∀ j v, w.cell? ⟨vb, j, none⟩ = some v → W1.cell? ⟨vb, j, none⟩ = some v := fun j v h => by rw [hW1, World.cell?_alloc_past (w := w.drew) _ vb j hvw]; exact h
  have hcpA : ∀ (W : World), (∀ x, W.cell? x = W1.cell? x) → (∀ x, W.frozen? x = W1.frozen? x) → ∀ ty dc, (Builtin.copy_ #[24, 24] ty #[.slice (some ⟨w.heap.size, i * 2, none⟩) (n + m - i) dc, .slice (some ⟨vb, 0, none⟩) m vc]).run Tryz.prog W = .ok (goInt (Nat.min m (n + m - i))) (W.setCells w.heap.size (i * 2) vs) := fun W hWc hWf ty dc =>
    run_copy_cells_k 2 W _ _ ty 47 w.heap.size (i * 2) (n + m - i) dc ⟨vb, 0, none⟩ m vc vs Tryz.underlying24 hsz (by rw [hvl]; simp only [Nat.min_def]; split <;> omega)
      (fun j v hj => by rw [Addr.add_lit, Nat.zero_add, hWc]; exact hOv _ v (hvs j v hj))
      (fun j hj => by rw [hWc]; exact hN _ (by omega)) (fun j hj => by rw [hWf]; exact hNf _) h1v
  have hGn : n + m ≤ G := by rw [hG]; exact grownCap_ge w _ _ _
  have hG63 : G ≤ 9223372036854775807 := by
    have := grownCap_le_maxLen w (n + m) c 47 (by unfold maxLen; omega)
    rw [← hG] at this
    unfold maxLen at this
    omega
  have hGi : ¬ (G = i) := by omega
  have hGim : ¬ (G = i + m) := by omega
  have hci : ¬ (c = i) := by omega
  have hbN : b ≠ w.heap.size := by omega
  have hdl : (cs.drop (i * 2)).length = (n - i) * 2 := by rw [List.length_drop, hcl]; omega
  have hcpB : ∀ (W : World), (∀ x, W.cell? x = (W1.setCells w.heap.size (i * 2) vs).cell? x) → (∀ x, W.frozen? x = (W1.setCells w.heap.size (i * 2) vs).frozen? x) → ∀ ty dc sc, (Builtin.copy_ #[24, 24] ty #[.slice (some ⟨w.heap.size, (i + m) * 2, none⟩) (n + m - (i + m)) dc, .slice (some ⟨b, i * 2, none⟩) (n - i) sc]).run Tryz.prog W = .ok (goInt (Nat.min (n - i) (n + m - (i + m)))) (W.setCells w.heap.size ((i + m) * 2) (cs.drop (i * 2))) := fun W hWc hWf ty dc sc =>
    run_copy_cells_k 2 W _ _ ty 47 w.heap.size ((i + m) * 2) (n + m - (i + m)) dc ⟨b, i * 2, none⟩ (n - i) sc (cs.drop (i * 2)) Tryz.underlying24 hsz (by rw [hdl]; simp only [Nat.min_def]; split <;> omega)
      (fun j v hj => by
        rw [Addr.add_lit, hWc, World.cell?_setCells_out _ _ _ _ _ (fun h _ => absurd h hbN)]
        exact hOb _ v (hcs (i * 2 + j) v (by rwa [List.getElem?_drop] at hj)))
      (fun j hj => by rw [hWc]; exact isSome_setCells' w.heap.size vs (i * 2) W1 (fun t ht => hN _ (by omega)) _ (hN _ (by omega)))
      (fun j hj => by rw [hWf, World.frozen?_setCells]; exact hNf _) (fun v hv => h1c v (List.mem_of_mem_drop hv))
  subst hW1
  have hE1 : ∀ x, ((w.alloc (.cells ROW 47)).drew).cell? x = (w.drew.alloc (.cells ROW 47)).cell? x := fun x => rfl
  have hE2 : ∀ x, ((w.alloc (.cells ROW 47)).drew).frozen? x = (w.drew.alloc (.cells ROW 47)).frozen? x := fun x => rfl
  have hF1 : ∀ x, (((w.alloc (.cells ROW 47)).drew.setCells w.heap.size (i * 2) vs).drew).cell? x = ((w.drew.alloc (.cells ROW 47)).setCells w.heap.size (i * 2) vs).cell? x := fun x => rfl
  have hF2 : ∀ x, (((w.alloc (.cells ROW 47)).drew.setCells w.heap.size (i * 2) vs).drew).frozen? x = ((w.drew.alloc (.cells ROW 47)).setCells w.heap.size (i * 2) vs).frozen? x := fun x => rfl
  have hw1 : IntKind.i64.wrap ((i : Int) + (m : Int)) = (i : Int) + (m : Int) := by rw [IntKind.wrap_i64]; omega
  have hb1 : (0 : Int) ≤ (i : Int) + (m : Int) := by omega
  have hin : i ≤ n := by omega
  have htn : ((i : Int) + (m : Int)).toNat = i + m := by omega
  have hb3 : (i : Int) ≤ (n : Int) := by omega
  clear hkk hik hold hROW hG hRl
  go_enter Tryz.func175, Tryz.ntmps175
  go_wp2_with (first
    | (at_builtin; refine Lib.wpList_append_run _ rfl _ _ _ _ rfl _ _ rfl rfl _ _ (hrz _) ?_)
    | (at_builtin; refine wpList_copy_runI _ rfl _ _ 24 24 rfl _ _ rfl rfl (hcpA _ hE1 hE2 _ _) ?_)
    | (at_builtin; refine wpList_copy_runI _ rfl _ _ 24 24 rfl _ _ rfl rfl (hcpB _ (fun _ => rfl) (fun _ => rfl) _ _ _) ?_))
  go_region_law_o (refine step_copy_runI rfl _ _ 24 24 rfl (.slice (some ⟨w.heap.size, (i + m) * 2, none⟩) (n + m - (i + m)) (G - (i + m))) (.slice (some ⟨b, i * 2, none⟩) (n - i) (c - i)) (by simp [Act.eval, Act.put]) (by simp [Act.eval, Act.put]) (hcpB _ hF1 hF2 3 (G - (i + m)) (c - i)) ?_)
  go_wp2
  go_ret
  exact ⟨rfl, rfl⟩

def insAtH (l : List HeadD) (i : Nat) (f : HeadD) : List HeadD := l.take i ++ (f :: l.drop i)
theorem eInsH (l : List HeadD) (i : Nat) (f : HeadD) : (eHeads l).take i ++ (eHeads [f] ++ (eHeads l).drop i) = eHeads (insAtH l i f) := by simp [eHeads, insAtH, List.map_take, List.map_drop]
end Vx
end Go.Proofs.YtnmmlcjnjnooaaaGreatDoor
/-
  Contracts: MarkPut, both sides.
-/
namespace Go.Proofs.YtnmmlcjnjnooaaaGreatDoor
namespace Vx
open Go.RowKit
set_option maxRecDepth 8000

theorem eHeads_one (b : HeadD) (p : Str) (x : Int) : (eHeads [b] = [[D.str p, D.int .i64 x]]) = (b = ⟨p, x⟩) := by
  obtain ⟨q, y⟩ := b
  simp -implicitDefEqProofs [eHeads, eHead]
theorem eHeads_one' (b : HeadD) (p : Str) (x : Int) : ([[D.str p, D.int .i64 x]] = eHeads [b]) = (b = ⟨p, x⟩) := by
  rw [← eHeads_one]; exact propext ⟨Eq.symm, Eq.symm⟩
def gtB (a b : Str) : Bool := !Go.Op.bytesLess a b && !decide (a = b)
def insKat (t : List HeadD) (p : Str) : Nat → Nat
  | 0 => 0
  | k + 1 => if gtB (t.getD k default).name p then insKat t p k else k + 1
theorem heads_flat (t : List HeadD) : ∀ x : List D, x ∈ eHeads t → ∀ d : D, d ∈ x → match d with | D.sl _ _ _ => False | _ => True := by
  intro x hx d hd
  simp only [eHeads, List.mem_map] at hx
  obtain ⟨h, _, rfl⟩ := hx
  simp only [eHead, List.mem_cons, List.not_mem_nil, or_false] at hd
  rcases hd with rfl | rfl <;> trivial
def insHd (t : List HeadD) (f : HeadD) : List HeadD := insAtH t (insKat t f.name t.length) f
theorem insKat_le (t : List HeadD) (p : Str) : ∀ k, insKat t p k ≤ k := by
  intro k
  induction k with
  | zero => exact Nat.le_refl _
  | succ k ih => unfold insKat; split <;> omega
theorem insHd_len (t : List HeadD) (f : HeadD) : (insHd t f).length = t.length + 1 := by
  have := insKat_le t f.name t.length
  unfold insHd
  simp -implicitDefEqProofs [insAtH]; omega

def markStep (f : HeadD) (s : List HeadD × Bool) (h : HeadD) : List HeadD × Bool := if !s.2 && gtB h.name f.name then (s.1 ++ [f, h], true) else (s.1 ++ [h], s.2)
def markF (m : List HeadD) (f : HeadD) (i : Nat) : List HeadD × Bool := (m.take i).foldl (markStep f) ([], false)
theorem markF_len (m : List HeadD) (f : HeadD) : ∀ i, i ≤ m.length → (markF m f i).1.length ≤ 2 * i := by
  intro i
  induction i with
  | zero => intro _; simp -implicitDefEqProofs [markF]
  | succ i ih =>
    intro h
    have s1 : markF m f (i + 1) = markStep f (markF m f i) m[i] := by
      unfold markF; rw [List.take_succ_eq_append_getElem (by omega), List.foldl_append]; rfl
    have := ih (by omega)
    rw [s1]; unfold markStep
    split <;> simp <;> omega
def markOut (m : List HeadD) (f : HeadD) : List HeadD := if (markF m f m.length).2 then (markF m f m.length).1 else (markF m f m.length).1 ++ [f]
def markPutS (a : RepoD × List HeadD × HeadD) : List HeadD × Bool := if marksI (a.1, a.2.1) then (if a.2.1.any (fun h => decide (h.name = a.2.2.name)) then (a.2.1, false) else if headsB a.1.commits.length (markOut a.2.1 a.2.2) then (markOut a.2.1 a.2.2, true) else (a.2.1, false)) else ([], false)
def markPutI (a : RepoD × List HeadD × HeadD) : List HeadD × Bool := if marksI (a.1, a.2.1) then (if headsB a.1.commits.length (insHd a.2.1 a.2.2) then (insHd a.2.1 a.2.2, true) else (a.2.1, false)) else ([], false)

end Vx
end Go.Proofs.YtnmmlcjnjnooaaaGreatDoor
/-
  Plain law: all paths of trees, in order, each once; heads put in their place.
-/
namespace Go.Proofs.YtnmmlcjnjnooaaaGreatDoor
namespace Vx
open Go.RowKit
set_option maxRecDepth 8000

/-- In order, each once. -/
def srt (l : List Str) : Prop := l.Pairwise fun a b => a < b
theorem putS_mem (l : List Str) (s x : Str) : x ∈ putS l s ↔ x = s ∨ x ∈ l := by
  induction l with
  | nil => simp -implicitDefEqProofs [putS]
  | cons y l ih =>
    unfold putS
    split
    · simp only [List.mem_cons, ih]
      constructor
      · rintro (h | h | h) <;> simp -implicitDefEqProofs [h]
      · rintro (h | h | h) <;> simp -implicitDefEqProofs [h]
    · split
      · rename_i h
        subst h
        simp only [List.mem_cons]
        constructor
        · intro h; exact .inr h
        · rintro (h | h)
          · exact .inl h
          · exact h
      · simp only [List.mem_cons]
theorem putS_srt {l : List Str} (h : srt l) (s : Str) : srt (putS l s) := by
  induction l with
  | nil => simp -implicitDefEqProofs [putS, srt]
  | cons y l ih =>
    obtain ⟨h1, h2⟩ := List.pairwise_cons.1 h
    unfold putS
    rw [less_eq]
    split
    · rename_i hl
      have hl : y < s := by simpa using hl
      refine List.pairwise_cons.2 ⟨fun z hz => ?_, ih h2⟩
      rcases (putS_mem l s z).1 hz with rfl | hz
      · exact hl
      · exact h1 z hz
    · rename_i hl
      have hl : ¬ y < s := by simpa using hl
      split
      · exact h
      · rename_i hn
        have hs := str_total y s hl hn
        refine List.pairwise_cons.2 ⟨fun z hz => ?_, h⟩
        rcases List.mem_cons.1 hz with rfl | hz
        · exact hs
        · exact str_trans hs (h1 z hz)
theorem putFs_srt (t : List FileD) : ∀ {l : List Str}, srt l → srt (putFs l t) ∧ ∀ x, x ∈ putFs l t ↔ x ∈ l ∨ x ∈ t.map (·.path) := by
  induction t with
  | nil => intro l h; exact ⟨h, fun x => by simp -implicitDefEqProofs [putFs]⟩
  | cons f t ih =>
    intro l h
    obtain ⟨h1, h2⟩ := ih (putS_srt h f.path)
    refine ⟨h1, fun x => ?_⟩
    show x ∈ putFs (putS l f.path) t ↔ _
    rw [h2, putS_mem, List.map_cons, List.mem_cons]
    constructor
    · rintro ((h | h) | h) <;> simp -implicitDefEqProofs [h]
    · rintro (h | h | h) <;> simp -implicitDefEqProofs [h]
theorem paths6_srt (o a b : List FileD) : srt (paths6 o a b) ∧ ∀ x, x ∈ paths6 o a b ↔ x ∈ (o ++ a ++ b).map (·.path) := by
  obtain ⟨h1, h2⟩ := putFs_srt o (l := []) .nil
  obtain ⟨h3, h4⟩ := putFs_srt a h1
  obtain ⟨h5, h6⟩ := putFs_srt b h3
  refine ⟨h5, fun x => ?_⟩
  show x ∈ putFs (putFs (putFs [] o) a) b ↔ _
  rw [h6, h4, h2]
  simp -implicitDefEqProofs [or_assoc]
theorem srt_eq : ∀ {l m : List Str}, srt l → srt m → (∀ x, x ∈ l ↔ x ∈ m) → l = m
  | [], [], _, _, _ => rfl
  | [], y :: m, _, _, h => absurd ((h y).2 (by simp)) (by simp)
  | x :: l, [], _, _, h => absurd ((h x).1 (by simp)) (by simp)
  | x :: l, y :: m, hl, hm, h => by
    obtain ⟨l1, l2⟩ := List.pairwise_cons.1 hl
    obtain ⟨m1, m2⟩ := List.pairwise_cons.1 hm
    have e : x = y := by
      rcases List.mem_cons.1 ((h x).1 (by simp)) with e | hx
      · exact e
      · rcases List.mem_cons.1 ((h y).2 (by simp)) with e | hy
        · exact e.symm
        · exact absurd (l1 y hy) (str_asymm (m1 x hx))
    subst e
    congr 1
    refine srt_eq l2 m2 fun z => ?_
    have hz := h z
    simp only [List.mem_cons] at hz
    constructor
    · intro q
      rcases hz.1 (.inr q) with rfl | q2
      · exact absurd (l1 z q) (str_irrefl z)
      · exact q2
    · intro q
      rcases hz.2 (.inr q) with rfl | q2
      · exact absurd (m1 z q) (str_irrefl z)
      · exact q2

/-- A head put in its place. -/
theorem insHd_pre (l : List HeadD) (f : HeadD) (hp : l.Pairwise fun a b => Go.Op.bytesLess a.name b.name = true) : ∀ k, k ≤ l.length → (∀ i, insKat l f.name k ≤ i → i < k → gtB (l.getD i default).name f.name = true) ∧ (0 < insKat l f.name k → gtB (l.getD (insKat l f.name k - 1) default).name f.name = false) := by
  intro k
  induction k with
  | zero => intro _; exact ⟨fun i h1 h2 => by omega, fun h => by simp -implicitDefEqProofs [insKat] at h⟩
  | succ k ih =>
    intro hk
    unfold insKat
    split
    · rename_i h
      obtain ⟨h1, h2⟩ := ih (by omega)
      refine ⟨fun i h3 h4 => ?_, h2⟩
      rcases Nat.lt_or_ge i k with h5 | h5
      · exact h1 i h3 h5
      · have : i = k := by omega
        subst this; exact h
    · rename_i h
      exact ⟨fun i h3 h4 => by omega, fun _ => by simpa using h⟩
theorem hL_ins (n : Str) (a : Int) : ∀ (l X : List HeadD) (k : Nat), k ≤ l.length → (∀ i, i < k → Go.Op.bytesLess (l.getD i default).name n = true) → (∀ i, k ≤ i → i < l.length → Go.Op.bytesLess (l.getD i default).name n = false ∧ ¬ (l.getD i default).name = n) →
    l.foldl (hStep n a) (X, false) = if k < l.length then (X ++ l.take k ++ [⟨n, a⟩] ++ l.drop k, true) else (X ++ l, false)
  | [], X, k, hk, _, _ => by simp
  | g :: l, X, 0, _, _, h2 => by
    have hg := h2 0 (by omega) (by simp)
    have hg1 : Go.Op.bytesLess g.name n = false ∧ ¬ g.name = n := by simpa using hg
    have e : hStep n a (X, false) g = (X ++ [⟨n, a⟩] ++ [g], true) := by unfold hStep; simp -implicitDefEqProofs [hg1]
    have e2 : l.filter (fun g => decide (g.name ≠ n)) = l := by
      rw [List.filter_eq_self]
      intro z hz
      obtain ⟨i, hi, rfl⟩ := List.getElem_of_mem hz
      have := h2 (i + 1) (by omega) (by simp; omega)
      simp -implicitDefEqProofs [List.getD_eq_getElem?_getD, hi] at this
      simp -implicitDefEqProofs [this.2]
    rw [List.foldl_cons, e, hL_true, e2]; simp
  | g :: l, X, k + 1, hk, h1, h2 => by
    have hg := h1 0 (by omega)
    have hg : Go.Op.bytesLess g.name n = true := by simpa using hg
    have hn : ¬ g.name = n := fun e => by rw [e, less_irrefl] at hg; cases hg
    have e : hStep n a (X, false) g = (X ++ [g], false) := by unfold hStep; simp -implicitDefEqProofs [hg, hn]
    rw [List.foldl_cons, e, hL_ins n a l (X ++ [g]) k (by simpa using hk) (fun i hi => by have := h1 (i + 1) (by omega); simpa using this) (fun i h3 h4 => by have := h2 (i + 1) (by omega) (by simp; omega); simpa using this)]
    by_cases hc : k < l.length
    · simp -implicitDefEqProofs [hc]
    · simp -implicitDefEqProofs [hc]
theorem hSet_ins {l : List HeadD} {n : Str} {a : Int} (hl : ∀ i, 0 < i → i < l.length → Go.Op.bytesLess (l.getD (i - 1) default).name (l.getD i default).name = true) (hn : ∀ h ∈ l, ¬ h.name = n) :
    hSet l n a = insHd l ⟨n, a⟩ := by
  have hp := heads_pw hl
  obtain ⟨h1, h2⟩ := insHd_pre l ⟨n, a⟩ hp l.length (Nat.le_refl _)
  have hk := insKat_le l n l.length
  unfold insHd
  generalize hkk : insKat l (⟨n, a⟩ : HeadD).name l.length = k at h1 h2 ⊢
  have hk : k ≤ l.length := by rw [← hkk]; exact hk
  have hne : ∀ i (hi : i < l.length), ¬ (l.getD i default).name = n := fun i hi => by
    have := hn l[i] (List.getElem_mem hi)
    simpa [List.getD_eq_getElem?_getD, hi] using this
  have hlt : ∀ i j, (hij : i < j) → (hj : j < l.length) → Go.Op.bytesLess (l.getD i default).name (l.getD j default).name = true := fun i j hij hj => by
    have := List.pairwise_iff_getElem.1 hp i j (by omega) hj hij
    simpa [List.getD_eq_getElem?_getD, hj, (show i < l.length by omega)] using this
  have b1 : ∀ i, i < k → Go.Op.bytesLess (l.getD i default).name n = true := fun i hi => by
    have q := h2 (by omega)
    have q : Go.Op.bytesLess (l.getD (k - 1) default).name n = true := by
      unfold gtB at q
      simp only [Bool.and_eq_false_iff, Bool.not_eq_false', decide_eq_true_eq] at q
      rcases q with q | q
      · exact q
      · exact absurd q (hne (k - 1) (by omega))
    rcases Nat.lt_or_ge i (k - 1) with h3 | h3
    · exact less_trans (hlt i (k - 1) h3 (by omega)) q
    · have : i = k - 1 := by omega
      rw [this]; exact q
  have b2 : ∀ i, k ≤ i → i < l.length → Go.Op.bytesLess (l.getD i default).name n = false ∧ ¬ (l.getD i default).name = n := fun i h3 h4 => by
    have q := h1 i h3 h4
    unfold gtB at q
    simp only [Bool.and_eq_true, Bool.not_eq_true', decide_eq_false_iff_not] at q
    exact q
  unfold hSet hL
  rw [hL_ins n a l [] k hk b1 b2]
  by_cases hc : k < l.length
  · simp -implicitDefEqProofs [hc, insAtH]
  · have : k = l.length := by omega
    subst this
    simp -implicitDefEqProofs [insAtH]

end Vx
end Go.Proofs.YtnmmlcjnjnooaaaGreatDoor
/-
  DERIVED: THE SHELF's CONTRACTS AT THIS DUMP, IN PLAIN WORDS (tools/lay-plain.mjs out of 'YtnmmlcjnjnooaaaGreatDoorShelf.lean', which tools/lay-shelf.mjs wrote): THE SAME DECLARATIONS UNDER THE SAME NAMES: 'import', 'namespace', 'open', 'def', 'theorem' AND NOTHING ELSE: no command of the shelf's: FOR A HAND-IN. Each laying: the table of numbers ('.._ren') and one theorem, a field a fact of the dump's own or the kernel's comparison; each contract: ONE APPLICATION.
-/
namespace Go.Proofs
open Go.Shelf
def Tryz.laysSort_ren : Go.Shelf.Ren := ⟨fun | 190 => 171 | 125 => 220 | 258 => 219 | 128 => 257 | 129 => 258 | 302 => 248 | 303 => 249 | 304 => 250 | 305 => 251 | 306 => 252 | 307 => 253 | 308 => 254 | 309 => 255 | 310 => 256 | 333 => 290 | 329 => 291 | 330 => 292 | 334 => 293 | 335 => 294 | 336 => 295 | 344 => 322 | n => n, fun | 31 => 34 | 9 => 9 | 3 => 3 | 46 => 231 | 0 => 0 | 51 => 260 | 53 => 262 | 4 => 4 | 183 => 254 | 182 => 253 | 131 => 139 | 5 => 5 | 218 => 290 | 222 => 294 | 228 => 319 | 229 => 54 | n => n, fun | n => n⟩
theorem Tryz.laysSort : Go.Proofs.Lays.n190 Tryz.prog Tryz.laysSort_ren := {
  mixed := by kernel_rfl
  f125 := Tryz.func220.trans (congrArg some (by kernel_rfl))
  f128 := Tryz.func257.trans (congrArg some (by kernel_rfl))
  f129 := Tryz.func258.trans (congrArg some (by kernel_rfl))
  f190 := Tryz.func171.trans (congrArg some (by kernel_rfl))
  f258 := Tryz.func219.trans (congrArg some (by kernel_rfl))
  f302 := Tryz.func248.trans (congrArg some (by kernel_rfl))
  f303 := Tryz.func249.trans (congrArg some (by kernel_rfl))
  f304 := Tryz.func250.trans (congrArg some (by kernel_rfl))
  f305 := Tryz.func251.trans (congrArg some (by kernel_rfl))
  f306 := Tryz.func252.trans (congrArg some (by kernel_rfl))
  f307 := Tryz.func253.trans (congrArg some (by kernel_rfl))
  f308 := Tryz.func254.trans (congrArg some (by kernel_rfl))
  f309 := Tryz.func255.trans (congrArg some (by kernel_rfl))
  f310 := Tryz.func256.trans (congrArg some (by kernel_rfl))
  f329 := Tryz.func291.trans (congrArg some (by kernel_rfl))
  f330 := Tryz.func292.trans (congrArg some (by kernel_rfl))
  f333 := Tryz.func290.trans (congrArg some (by kernel_rfl))
  f334 := Tryz.func293.trans (congrArg some (by kernel_rfl))
  f335 := Tryz.func294.trans (congrArg some (by kernel_rfl))
  f336 := Tryz.func295.trans (congrArg some (by kernel_rfl))
  f344 := Tryz.func322.trans (congrArg some (by kernel_rfl))
  t0 := Tryz.underlying0
  a0 := Tryz.isAgg0
  z0 := Tryz.sizeOf0
  v0 := Tryz.zeroValue0
  t3 := Tryz.underlying3
  a3 := Tryz.isAgg3
  z3 := Tryz.sizeOf3
  v3 := Tryz.zeroValue3
  t4 := Tryz.underlying4
  a4 := Tryz.isAgg4
  z4 := Tryz.sizeOf4
  v4 := Tryz.zeroValue4
  t5 := Tryz.underlying5
  a5 := Tryz.isAgg5
  z5 := Tryz.sizeOf5
  v5 := Tryz.zeroValue5
  t9 := Tryz.underlying9
  a9 := Tryz.isAgg9
  z9 := Tryz.sizeOf9
  v9 := Tryz.zeroValue9
  t31 := Tryz.underlying34
  a31 := Tryz.isAgg34
  z31 := Tryz.sizeOf34
  v31 := Tryz.zeroValue34
  t46 := Tryz.underlying231
  a46 := Tryz.isAgg231
  z46 := Tryz.sizeOf231
  v46 := Tryz.zeroValue231
  t51 := Tryz.underlying260
  a51 := Tryz.isAgg260
  z51 := Tryz.sizeOf260
  v51 := Tryz.zeroValue260
  t53 := Tryz.underlying262
  a53 := Tryz.isAgg262
  z53 := Tryz.sizeOf262
  v53 := Tryz.zeroValue262
  t131 := Tryz.underlying139
  a131 := Tryz.isAgg139
  z131 := Tryz.sizeOf139
  v131 := Tryz.zeroValue139
  t182 := Tryz.underlying253
  a182 := Tryz.isAgg253
  z182 := Tryz.sizeOf253
  v182 := Tryz.zeroValue253
  t183 := Tryz.underlying254
  a183 := Tryz.isAgg254
  z183 := Tryz.sizeOf254
  v183 := Tryz.zeroValue254
  t218 := Tryz.underlying290
  a218 := Tryz.isAgg290
  z218 := Tryz.sizeOf290
  v218 := Tryz.zeroValue290
  t222 := Tryz.underlying294
  a222 := Tryz.isAgg294
  z222 := Tryz.sizeOf294
  v222 := Tryz.zeroValue294
  t228 := Tryz.underlying319
  a228 := Tryz.isAgg319
  z228 := Tryz.sizeOf319
  v228 := Tryz.zeroValue319
  t229 := Tryz.underlying54
  a229 := Tryz.isAgg54
  z229 := Tryz.sizeOf54
  v229 := Tryz.zeroValue54 }
def Tryz.laysCompact_ren : Go.Shelf.Ren := ⟨fun | 194 => 172 | n => n, fun | 31 => 34 | 9 => 9 | 3 => 3 | 4 => 4 | 0 => 0 | n => n, fun | n => n⟩
theorem Tryz.laysCompact : Go.Proofs.Lays.n194 Tryz.prog Tryz.laysCompact_ren := {
  mixed := by kernel_rfl
  f194 := Tryz.func172.trans (congrArg some (by kernel_rfl))
  t0 := Tryz.underlying0
  a0 := Tryz.isAgg0
  z0 := Tryz.sizeOf0
  v0 := Tryz.zeroValue0
  t3 := Tryz.underlying3
  a3 := Tryz.isAgg3
  z3 := Tryz.sizeOf3
  v3 := Tryz.zeroValue3
  t4 := Tryz.underlying4
  a4 := Tryz.isAgg4
  z4 := Tryz.sizeOf4
  v4 := Tryz.zeroValue4
  t9 := Tryz.underlying9
  a9 := Tryz.isAgg9
  z9 := Tryz.sizeOf9
  v9 := Tryz.zeroValue9
  t31 := Tryz.underlying34
  a31 := Tryz.isAgg34
  z31 := Tryz.sizeOf34
  v31 := Tryz.zeroValue34 }
end Go.Proofs
/-
  slices.Sort and slices.Compact at strings, off the library's shelf.
-/
namespace Go.Proofs.YtnmmlcjnjnooaaaGreatDoor
namespace Vx
open Go.RowKit Go.Sort

theorem own_at {j : Nat} {v : Value} {c : Cx} {s : St} {a : Act} {w w' : World} {β : Nat → Value} {fp : Nat → List (Nat × Nat)} (S : SatI c s a w β fp) {e k : Nat} {R : List (List D)} {f : List (Nat × Nat)}
    (hpin : ∀ p ∈ c.pins, v = p.2 ∧ p.1 = j) (hb : BlkOk w' (get? [(j, Blk.own e k true R)]) (fun _ => v) c j f (.own e k true R)) (hnd : (Ob (fun _ => v) j f (.own e k true R)).Nodup) (hfree : ∀ x ∈ Ob (fun _ => v) j f (.own e k true R), ¬ c.G x)
    (hG : ∀ b, c.G b → w'.heap[b]? = w.heap[b]?) (hsize : w.heap.size ≤ w'.heap.size) (hos : w'.os = w.os) (htape : w'.tape = w.tape) (hout : w'.output = w.output) :
    ∃ β' fp' a', SatI c ⟨fun _ => none, get? [(j, .own e k true R)]⟩ a' w' β' fp' ∧ RelL w' (get? [(j, .own e k true R)]) β' c [.own j k R] [v] := by
  refine ⟨fun _ => v, fun _ => f, ⟨Array.replicate c.n undef, []⟩, ⟨?_, ?_, ?_, ?_, ?_, S.fg, fun b hb => ⟨(S.old b hb).1, (hG b hb).trans (S.old b hb).2⟩, hos.trans S.os, htape.trans S.tape, hout.trans S.output, Nat.le_trans S.size hsize, rfl, by simp, fun p hp => ?_⟩, ?_⟩
  · intro t g av h; cases h
  · intro h blk hm; obtain ⟨rfl, rfl⟩ := get1 hm; exact hb
  · intro h blk hm; obtain ⟨rfl, rfl⟩ := get1 hm; exact hnd
  · intro h h' blk blk' hm hm' hne; obtain ⟨rfl, rfl⟩ := get1 hm; obtain ⟨rfl, rfl⟩ := get1 hm'; exact absurd rfl hne
  · intro h blk hm x hx; obtain ⟨rfl, rfl⟩ := get1 hm; exact hfree x hx
  · obtain ⟨h1, h2⟩ := hpin p hp
    exact ⟨h1, by rw [h2]; simp [get?]⟩
  · exact own_rel (h := j) (fps := fun _ => f) (by simp [get?]) hb hnd (fun h' blk' hm hne => by obtain ⟨rfl, rfl⟩ := get1 hm; exact absurd rfl hne) hfree

theorem rd_strs {q : Bool} {w : World} : ∀ {l : List Str}, (∀ s ∈ l, s.length ≤ maxLen) → RdL q w (eStrs l).flatten (l.map encStr) []
  | [], _ => .nil
  | s :: l, h => .str (h s (by simp)) (rd_strs fun x hx => h x (by simp [hx]))
theorem rd_strs_inv {q : Bool} {w : World} : ∀ {l : List Str} {vs f}, RdL q w (eStrs l).flatten vs f → vs = l.map encStr ∧ f = [] ∧ ∀ s ∈ l, s.length ≤ maxLen
  | [], vs, f, h => by cases h; exact ⟨rfl, rfl, by simp⟩
  | s :: l, vs, f, h => by
    cases h with
    | str h1 h2 =>
      obtain ⟨rfl, rfl, h3⟩ := rd_strs_inv (l := l) h2
      exact ⟨rfl, rfl, by simpa using ⟨h1, h3⟩⟩

/-- The world behind: a block's first cells hold other strings. -/
theorem put_at {w : World} {n b : Nat} {d : List Str} {os : Array Obj} {cs : Array Value} {e : Nat} {fr : Nat × Nat} (hb : w.heap[b]? = some (.cells cs e fr)) :
    (grow (putRow encStr (Sort.ahead w n) b 0 d.toArray) os).heap[b]? = some (.cells (putCells encStr 0 d.toArray cs) e fr) ∧
    (∀ x, x < w.heap.size → x ≠ b → (grow (putRow encStr (Sort.ahead w n) b 0 d.toArray) os).heap[x]? = w.heap[x]?) ∧ w.heap.size ≤ (grow (putRow encStr (Sort.ahead w n) b 0 d.toArray) os).heap.size ∧
    (putCells encStr 0 d.toArray cs).size = cs.size ∧ ∀ k, k ≤ d.length → k ≤ cs.size → (putCells encStr 0 d.toArray cs).toList.take k = (d.take k).map encStr := by
  have hlt : b < w.heap.size := (Array.getElem?_eq_some_iff.1 hb).1
  refine ⟨?_, fun x hx hne => ?_, ?_, by simp [putCells], fun k hk hk2 => ?_⟩
  · simp only [grow, putRow, mapBlock, Sort.ahead]
    rw [Array.getElem?_append_left (by simpa using hlt), Array.getElem?_modify, if_pos rfl, hb]
    rfl
  · simp only [grow, putRow, mapBlock, Sort.ahead]
    rw [Array.getElem?_append_left (by simpa using hx), Array.getElem?_modify, if_neg (Ne.symm hne)]
  · simp [grow, putRow, mapBlock, Sort.ahead]
  · apply List.ext_getElem
    · simp [putCells]; omega
    · intro i h1 h2
      have hi : i < d.length := by simp at h2; omega
      simp only [List.getElem_take, List.getElem_map, putCells, Array.getElem_toList, Array.getElem_mapIdx]
      rw [if_pos (by simp; omega)]
      simp [hi]

def sortL (l : List Str) : List Str := l.mergeSort fun x y => decide (x ≤ y)
def cSortS : Con := { A := List Str, X := Unit, n := 11, args := fun l => [.own 0 1 (eStrs l)], boxes := fun _ => [], pre := fun l => l.length ≤ 1048576, post := fun _ _ => True, res := fun _ _ => .tup [], fin := fun l _ => [(0, .own 9 1 true (eStrs (sortL l)))], owns := fun l => [(0, 9, 1, eStrs l)], lends := [0], mv := true }
theorem sortL_len (l : List Str) : (sortL l).length = l.length := by simp [sortL]
theorem sortL_mem (l : List Str) (x : Str) : x ∈ sortL l ↔ x ∈ l := by simp [sortL]
set_option maxHeartbeats 4000000 in
theorem sortS_has : Has Tryz.prog 171 cSortS := by
  refine ⟨fun args w => Go.MuLone.run_callFunc_enter Tryz.func171 (by kernel_rfl) rfl args w, fun _ => ⟨(), trivial⟩, fun _ _ => rfl, ?_, trivial, .inl rfl⟩
  intro (l : List Str) (h1 : l.length ≤ 1048576) c _ vs β fp hn hpin hlen hlen2 S
  have hp : c.pins = [(0, β 0)] := hpin
  have hr := start_rel hlen S
  obtain ⟨v0, vs1, rfl, r0, hr⟩ := hr.uncons
  cases hr
  have m0 : (cSortS.start2 l).m 0 = some (.own 9 1 true (eStrs l)) := rfl
  have e0 : v0 = β 0 := by cases r0 with | own _ _ h3 _ => exact (h3 _ _ _ _ m0).1
  subst e0
  have hnd := S.nodup 0 _ m0
  have hfr := S.free 0 _ m0
  have hGlt : ∀ b, c.G b → b < c.w0.heap.size := fun b hG => (S.old b hG).1
  have fin : ∀ {w' : World}, (∃ β' fp' a', SatI c ⟨fun _ => none, get? [(0, .own 9 1 true (eStrs (sortL l)))]⟩ a' w' β' fp' ∧ RelL w' (get? [(0, .own 9 1 true (eStrs (sortL l)))]) β' c [.own 0 1 (eStrs (sortL l))] [β 0]) →
      ∃ x, cSortS.post l x ∧ ∃ v, Ending.returned (.tuple #[]) = Ending.returned v ∧ ∃ β' fp' a', SatI c (cSortS.end_ l x) a' w' β' fp' ∧ RelL w' (get? (cSortS.fin l x)) β' c [cSortS.res l x] [v] :=
    fun ⟨β', fp', a', g1, g2⟩ => ⟨(), trivial, _, rfl, β', fp', a', g1, .tup .lnil .lnil⟩
  obtain ⟨_, _, B0⟩ := S.mem 0 _ m0
  rcases B0 with ⟨q1, q2, q3⟩ | ⟨b, cap, cs, f0, q1, q2, q3, q4, q5, q6, q7, _⟩
  · have hl : l = [] := by simpa using q2
    subst hl
    rw [q1]
    refine (Any.slices_Sort_string_none Tryz.laysSort none 0 c.w0).mono ?_
    rintro e w' ⟨rfl, rfl⟩
    have := own_at (w' := c.w0) (j := 0) (v := β 0) (f := []) (e := 9) (k := 1) (R := []) S (by rw [hp]; intro p hp; simp at hp; subst hp; exact ⟨rfl, rfl⟩) ⟨by omega, by simp, .inl ⟨q1, rfl, rfl⟩⟩ (by simp [Ob, q1]) (by simp [Ob, q1]) (fun _ _ => rfl) (Nat.le_refl _) rfl rfl rfl
    exact fin (by simpa [sortL] using this)
  · rw [eStrs_length] at q1 q3 q6
    obtain ⟨u1, u2, u3⟩ := rd_strs_inv q6
    have q7 := q7 rfl
    rw [u2] at q7
    have hlt : b < c.w0.heap.size := (Array.getElem?_eq_some_iff.1 q2).1
    have hH : Holds encStr c.w0 b 0 l.toArray := by
      intro j hj
      have hj : j < l.length := by simpa using hj
      have hjc : j < cs.size := by omega
      constructor
      · have : (cs.toList.take (l.length * 1))[j]? = some (encStr l[j]) := by rw [u1]; simp [hj]
        rw [List.getElem?_take, if_pos (by omega)] at this
        simp only [World.cell?, q2]
        simpa [hj] using this
      · simp [World.frozen?, q2]
    rw [q1]
    refine (Any.slices_Sort_string Tryz.laysSort b 0 cap l c.w0 hH hlt (by omega)).mono ?_
    rintro e w' ⟨rfl, n, os, rfl⟩
    obtain ⟨z1, z2, z3, z4, z5⟩ := put_at (n := n) (d := sortL l) (os := os) q2
    have hob : Ob β 0 (fp 0) (.own 9 1 true (eStrs l)) = [b] := by simp [Ob, q1, q7]
    rw [hob] at hfr
    have := own_at (j := 0) (v := β 0) (f := []) (e := 9) (k := 1) (R := eStrs (sortL l)) (w' := grow (putRow encStr (Sort.ahead c.w0 n) b 0 (sortL l).toArray) os) S (by rw [hp]; intro p hp; simp at hp; subst hp; exact ⟨rfl, rfl⟩)
      ⟨by omega, by simp [eStrs, eStr], .inr ⟨b, cap, putCells encStr 0 (sortL l).toArray cs, [], by rw [eStrs_length, sortL_len]; exact q1, z1, by rw [eStrs_length, sortL_len]; exact q3, q4, by rw [z4]; exact q5, by
        rw [eStrs_length, Nat.mul_one, z5 _ (Nat.le_refl _) (by rw [sortL_len]; omega), List.take_length]
        exact rd_strs fun s hs => u3 s ((sortL_mem l s).1 hs), fun _ => rfl, by simp⟩⟩
      (by simp [Ob, q1]) (by simpa [Ob, q1] using hfr) (fun x hG => z2 x (hGlt x hG) fun e => by subst e; exact hfr x (by simp) hG) z3 rfl rfl rfl
    rw [q1] at this fin
    exact fin this

/-- A row of words in its own block's first cells. -/
theorem front_blk {w : World} {m : Nat → Option Blk} {β : Nat → Value} {c : Cx} {h b cap : Nat} {cells : Array Value} {C : List Str} (hv : β h = .slice (some ⟨b, 0, none⟩) C.length cap) (hw : w.heap[b]? = some (.cells cells 9 (0, 0))) (hcap : C.length ≤ cap) (q4 : cap ≤ maxLen) (q5 : cells.size = cap * 1)
    (htk : cells.toList.take C.length = C.map encStr) (hu : ∀ s ∈ C, s.length ≤ maxLen) : BlkOk w m β c h [] (.own 9 1 true (eStrs C)) := by
  refine ⟨by omega, by simp [eStrs, eStr], .inr ⟨b, cap, cells, [], ?_, hw, ?_, q4, q5, ?_, fun _ => rfl, by simp⟩⟩
  · rw [eStrs_length]; exact hv
  · rw [eStrs_length]; exact hcap
  · rw [eStrs_length, Nat.mul_one, htk]
    exact rd_strs hu

def cCompactS : Con := { A := List Str, X := Unit, n := 61, args := fun l => [.own 0 1 (eStrs l)], boxes := fun _ => [], pre := fun l => l.length ≤ 1048576, post := fun _ _ => True, res := fun l _ => .own 8 1 (eStrs (Lib.compact l)), fin := fun l _ => [(8, .own 9 1 true (eStrs (Lib.compact l)))], owns := fun l => [(0, 9, 1, eStrs l)], mv := true }
theorem compact_len (l : List Str) : (Lib.compact l).length ≤ l.length := by
  unfold Lib.compact Lib.compactUpTo
  rw [List.length_map]
  exact Nat.le_trans (List.length_filter_le _ _) (by simp)
theorem compact_mem1 (l : List Str) : ∀ s ∈ Lib.compact l, s ∈ l := by
  intro s hs
  unfold Lib.compact Lib.compactUpTo at hs
  obtain ⟨j, hj, rfl⟩ := List.mem_map.1 hs
  have hj : j < l.length := by simpa using (List.mem_filter.1 hj).1
  rw [getElem!_pos _ j (by simpa using hj)]
  simp
set_option maxHeartbeats 400000 in
theorem compactS_has : Has Tryz.prog 172 cCompactS := by
  refine ⟨fun args w => Go.MuLone.run_callFunc_enter Tryz.func172 (by kernel_rfl) rfl args w, fun _ => ⟨(), trivial⟩, fun _ _ => rfl, ?_, trivial, .inl rfl⟩
  intro (l : List Str) (h1 : l.length ≤ 1048576) c _ vs β fp hn hpin hlen hlen2 S
  have hp : c.pins = [] := hpin
  have hr := start_rel hlen S
  obtain ⟨v0, vs1, rfl, r0, hr⟩ := hr.uncons
  cases hr
  have m0 : (cCompactS.start2 l).m 0 = some (.own 9 1 true (eStrs l)) := rfl
  have e0 : v0 = β 0 := by cases r0 with | own _ _ h3 _ => exact (h3 _ _ _ _ m0).1
  subst e0
  have hfr := S.free 0 _ m0
  have hGlt : ∀ b, c.G b → b < c.w0.heap.size := fun b hG => (S.old b hG).1
  have fin : ∀ {w' : World} {v : Value}, (∃ β' fp' a', SatI c ⟨fun _ => none, get? [(8, .own 9 1 true (eStrs (Lib.compact l)))]⟩ a' w' β' fp' ∧ RelL w' (get? [(8, .own 9 1 true (eStrs (Lib.compact l)))]) β' c [.own 8 1 (eStrs (Lib.compact l))] [v]) →
      ∃ x, cCompactS.post l x ∧ ∃ v', Ending.returned v = Ending.returned v' ∧ ∃ β' fp' a', SatI c (cCompactS.end_ l x) a' w' β' fp' ∧ RelL w' (get? (cCompactS.fin l x)) β' c [cCompactS.res l x] [v'] :=
    fun ⟨β', fp', a', g1, g2⟩ => ⟨(), trivial, _, rfl, β', fp', a', g1, g2⟩
  obtain ⟨_, _, B0⟩ := S.mem 0 _ m0
  rcases B0 with ⟨q1, q2, q3⟩ | ⟨b, cap, cs, f0, q1, q2, q3, q4, q5, q6, q7, _⟩
  · have hl : l = [] := by simpa using q2
    subst hl
    rw [q1]
    refine (Any.slices_Compact_string_empty Tryz.laysCompact none 0 c.w0).mono ?_
    rintro e w' ⟨rfl, rfl⟩
    have := own_at (w' := c.w0) (j := 8) (v := .slice none 0 0) (f := []) (e := 9) (k := 1) (R := []) S (by rw [hp]; simp) ⟨by omega, by simp, .inl ⟨rfl, rfl, rfl⟩⟩ (by simp [Ob]) (by simp [Ob]) (fun _ _ => rfl) (Nat.le_refl _) rfl rfl rfl
    exact fin (by simpa [Lib.compact, Lib.compactUpTo] using this)
  · rw [eStrs_length] at q1 q3 q6
    obtain ⟨u1, u2, u3⟩ := rd_strs_inv q6
    have q7 := q7 rfl
    rw [u2] at q7
    have hlt : b < c.w0.heap.size := (Array.getElem?_eq_some_iff.1 q2).1
    have hH : Holds encStr c.w0 b 0 l.toArray := by
      intro j hj
      have hj : j < l.length := by simpa using hj
      have hjc : j < cs.size := by omega
      constructor
      · have : (cs.toList.take (l.length * 1))[j]? = some (encStr l[j]) := by rw [u1]; simp [hj]
        rw [List.getElem?_take, if_pos (by omega)] at this
        simp only [World.cell?, q2]
        simpa [hj] using this
      · simp [World.frozen?, q2]
    rw [q1]
    refine (Any.slices_Compact_string Tryz.laysCompact b 0 cap l c.w0 hH (by omega) q3).mono ?_
    rintro e w' ⟨rfl, n, rfl⟩
    have hcl := compact_len l
    obtain ⟨z1, z2, z3, z4, z5⟩ := put_at (n := n) (d := Lib.compact l ++ List.replicate (l.length - (Lib.compact l).length) []) (os := #[]) q2
    simp only [grow_empty] at z1 z2 z3 z4 z5
    have hob : Ob β 0 (fp 0) (.own 9 1 true (eStrs l)) = [b] := by simp [Ob, q1, q7]
    rw [hob] at hfr
    have htk := z5 (Lib.compact l).length (by simp) (by omega)
    rw [List.take_left] at htk
    have hu : ∀ s ∈ Lib.compact l, s.length ≤ maxLen := fun s hs => u3 s (compact_mem1 l s hs)
    generalize hcs : putCells encStr 0 (Lib.compact l ++ List.replicate (l.length - (Lib.compact l).length) []).toArray cs = cells at z1 z4 htk
    generalize hw' : putRow encStr (Sort.ahead c.w0 n) b 0 (Lib.compact l ++ List.replicate (l.length - (Lib.compact l).length) []).toArray = w1 at z1 z2 z3
    have hos : w1.os = c.w0.os := by rw [← hw']; rfl
    have htp : w1.tape = c.w0.tape := by rw [← hw']; rfl
    have hou : w1.output = c.w0.output := by rw [← hw']; rfl
    have hw'' : putRow encStr (Sort.ahead c.w0 n) b 0 (Lib.compact l ++ List.replicate (l.length - (Lib.compact l).length) []).toArray = w1 := hw'
    clear hw' hcs
    generalize hC : Lib.compact l = C at *
    have := own_at (j := 8) (v := .slice (some ⟨b, 0, none⟩) C.length cap) (f := []) (e := 9) (k := 1) (R := eStrs C) (w' := w1) S (by rw [hp]; simp)
      (front_blk (cells := cells) rfl z1 (by omega) q4 (by rw [z4]; exact q5) htk hu) (by simp [Ob]) (by simpa [Ob] using hfr) (fun x hG => z2 x (hGlt x hG) fun e => by subst e; exact hfr x (by simp) hG) z3 hos htp hou
    exact fin this

end Vx
end Go.Proofs.YtnmmlcjnjnooaaaGreatDoor
/-
  Contracts: a file got out of a tree (the program's get, TreeGet).
-/
namespace Go.Proofs.YtnmmlcjnjnooaaaGreatDoor
namespace Vx
open Go.RowKit
set_option maxRecDepth 8000

def okSz (t : List FileD) : Prop := t.length ≤ 1048576 ∧ (∀ f ∈ t, f.text.length ≤ 1048576) ∧ ∀ f ∈ t, f.path.length ≤ 536870912
def getI (t : List FileD) (p : Str) : List Str × Bool := match t.find? (fun f => decide (f.path = p)) with
  | some f => (f.text, true)
  | none => ([], false)
theorem getI_hit {t : List FileD} {p : Str} {i : Nat} (h : i < t.length) (h1 : ∀ j (hj : j < t.length), j < i → ¬ t[j].path = p) (h2 : t[i].path = p) : getI t p = (t[i].text, true) := by
  have : t.find? (fun f => decide (f.path = p)) = some t[i] := by
    rw [List.find?_eq_some_iff_getElem]
    refine ⟨by simp -implicitDefEqProofs [h2], i, h, rfl, fun j hj => ?_⟩
    simpa using h1 j (by omega) hj
  unfold getI; rw [this]
theorem getI_none {t : List FileD} {p : Str} (h : ∀ j (hj : j < t.length), ¬ t[j].path = p) : getI t p = ([], false) := by
  have : t.find? (fun f => decide (f.path = p)) = none := by
    rw [List.find?_eq_none]
    intro f hf
    obtain ⟨j, hj, rfl⟩ := List.getElem_of_mem hf
    simpa using h j hj
  unfold getI; rw [this]
def cGetF : Con := .fn 22 (List FileD × Str) (fun a => [.sl true 2 (eFiles a.1), .str a.2]) (fun a => ∀ f ∈ a.1, f.text.length ≤ 1048576) (fun a => .tup [.own 8 1 (eStrs (getI a.1 a.2).1), .bool (getI a.1 a.2).2]) (fun a => ownStrs 8 (getI a.1 a.2).1)
set_option maxHeartbeats 4000000 in
theorem getF_has : Has Tryz.prog 112 cGetF := by
  refine has_walk mixed tTab_ok (l := [(176, cCopyText)]) (HasL.cons copyText_has HasL.nil) [0, 1, 4, 5, 7, 8, 9, 10] ((fun a n (_ : Nat) => (fun a _ => ⟨Nat, fun i => ⟨[(1, true, .str a.2), (4, true, .nil), (5, true, .bool false), (8, true, .sl true 2 (eFiles a.1)), (9, true, .int .i64 a.1.length), (10, true, .int .i64 i)], []⟩, fun i => i ≤ a.1.length ∧ ∀ j (hj : j < a.1.length), j < i → ¬ a.1[j].path = a.2, fun i => a.1.length - i⟩) a n)) [] Tryz.func112 (by kernel_rfl) (code := _) (by unfold Tryz.f112; rfl) (by kernel_rfl) (by decide) (fun _ => ⟨(), trivial⟩) (by intro h; first | exact fun _ => rfl | cases h) (by kernel_rfl) ?_
  intro a ha
  obtain ⟨t, p⟩ := a
  replace ha : ∀ f ∈ t, f.text.length ≤ 1048576 := ha
  simp -implicitDefEqProofs [cGetF, cCopyText, Con.fn, tTab]
  try dsimp only
  refine fun _ i hi hb => ⟨fun hlt => ⟨hlt, fun _ => ?_⟩, fun hge => ?_⟩
  · have hf := ha t[i] (List.getElem_mem hlt)
    have e1 := fun h => getI_hit (p := p) hlt hb h
    simp -implicitDefEqProofs [hlt, eFile, D.asStr, D.asRows, and_assoc]
    refine ⟨fun h => ⟨hf, by rw [e1 h]; exact ⟨rfl, rfl, rfl⟩⟩, fun h => ⟨by omega, by omega, fun _ _ => ⟨i + 1, by omega, by omega, fun j hj hji => ?_, by omega⟩⟩⟩
    by_cases e : j = i
    · subst e; exact h
    · exact hb j hj (by omega)
  · rw [getI_none fun j hj => hb j hj (by omega)]
    exact ⟨⟨rfl, rfl⟩, rfl⟩
def treeGetI (t : List FileD) (p : Str) : List Str × Bool := if treeI t then getI t p else ([], false)
theorem getI_eq (t : List FileD) (p : Str) : getI t p = getL t p := by
  unfold getI
  induction t with
  | nil => rfl
  | cons f t ih =>
    unfold getL
    by_cases h : f.path = p
    · simp -implicitDefEqProofs [h]
    · rw [List.find?_cons_of_neg (by simpa using h), if_neg h]; exact ih

end Vx
end Go.Proofs.YtnmmlcjnjnooaaaGreatDoor
/-
  Contracts: all paths of trees (the program's), in order, each once; what a tree has at a path.
-/
namespace Go.Proofs.YtnmmlcjnjnooaaaGreatDoor
namespace Vx
open Go.RowKit
set_option maxRecDepth 8000
--TAB tTabC
def tTabC : List (Nat × TI) := (186, ⟨false, [.sl 36 1], 24, [], 36⟩) :: (129, ⟨true, [.sl 9 1, .bool], 32, [(34, 0), (4, 1)], 0⟩) :: tTab
theorem tTabC_ok : ∀ t ti, get? tTabC t = some ti → TOk Tryz.prog t ti := tabChk_ok (by kernel_rfl)

theorem str_le_trans {a b c : Str} (h : a ≤ b) (h' : b ≤ c) : a ≤ c := List.le_trans h h'
theorem str_le_lt {a b : Str} (h : a ≤ b) (hne : a ≠ b) : a < b := str_total b a h (Ne.symm hne)
theorem sortL_pw (l : List Str) : (sortL l).Pairwise (· ≤ ·) := by
  have := List.pairwise_mergeSort (le := fun x y : Str => decide (x ≤ y)) (fun a b c h h' => by simp only [decide_eq_true_eq] at *; exact str_le_trans h h') (fun a b => by
    simp only [Bool.or_eq_true, decide_eq_true_eq]
    exact List.le_total a b) l
  refine List.Pairwise.imp ?_ this
  intro a b h; simpa using h
theorem compactUp {l : List Str} (h : l.Pairwise (· ≤ ·)) : ∀ m, m ≤ l.length → srt (Lib.compactUpTo l.toArray m) ∧ ∀ x, x ∈ Lib.compactUpTo l.toArray m ↔ x ∈ l.take m
  | 0, _ => ⟨by simp -implicitDefEqProofs [Lib.compactUpTo, srt], by simp -implicitDefEqProofs [Lib.compactUpTo]⟩
  | m + 1, hm => by
    obtain ⟨h1, h2⟩ := compactUp h m (by omega)
    have hlt : m < l.length := by omega
    have e : l.toArray[m]! = l[m] := by simp -implicitDefEqProofs [hlt]
    have hall : ∀ x ∈ l.take m, x ≤ l[m] := by
      intro x hx
      obtain ⟨i, hi, rfl⟩ := List.getElem_of_mem hx
      have hi' : i < m := by simp at hi; omega
      rw [List.getElem_take]
      exact List.pairwise_iff_getElem.1 h i m (by omega) hlt hi'
    rw [Lib.compactUpTo_succ, e, take_succ' hlt]
    by_cases hk : Lib.keeps l.toArray m = true
    · rw [if_pos hk]
      refine ⟨List.pairwise_append.2 ⟨h1, by simp, fun x hx y hy => ?_⟩, fun x => by rw [List.mem_append, List.mem_append, h2]⟩
      have : y = l[m] := by simpa using hy
      subst this
      have hx := (h2 x).1 hx
      have hle := hall x hx
      refine str_le_lt hle fun e2 => ?_
      have hm0 : 0 < m := by
        rcases Nat.eq_zero_or_pos m with h0 | h0
        · subst h0; simp at hx
        · exact h0
      have hne : l[m] ≠ l[m - 1] := by
        have := hk
        unfold Lib.keeps at this
        simp only [decide_eq_true_eq] at this
        rcases this with h0 | h0
        · omega
        · simpa [hlt, show m - 1 < l.length by omega] using h0
      obtain ⟨i, hi, rfl⟩ := List.getElem_of_mem hx
      have hi' : i < m := by simp at hi; omega
      rw [List.getElem_take] at e2 hle
      rcases Nat.lt_or_ge i (m - 1) with hq | hq
      · have q1 := List.pairwise_iff_getElem.1 h i (m - 1) (by omega) (by omega) hq
        have q2 := List.pairwise_iff_getElem.1 h (m - 1) m (by omega) hlt (by omega)
        have q3 := str_le_lt q2 (Ne.symm hne)
        rw [← e2] at q3
        exact q1 q3
      · have : i = m - 1 := by omega
        subst this
        exact hne e2.symm
    · rw [if_neg hk, List.append_nil]
      refine ⟨h1, fun x => ?_⟩
      rw [h2, List.mem_append]
      have hk : Lib.keeps l.toArray m = false := by simpa using hk
      unfold Lib.keeps at hk
      simp only [decide_eq_false_iff_not, not_or, Classical.not_not] at hk
      obtain ⟨k1, k2⟩ := hk
      have k3 : l[m] = l[m - 1] := by simpa [hlt, show m - 1 < l.length by omega] using k2
      refine ⟨.inl, fun hx => hx.elim id fun hx => ?_⟩
      have : x = l[m] := by simpa using hx
      rw [this, k3]
      exact List.mem_take_iff_getElem.2 ⟨m - 1, by omega, rfl⟩
theorem compact_sort (l : List Str) : srt (Lib.compact (sortL l)) ∧ ∀ x, x ∈ Lib.compact (sortL l) ↔ x ∈ l := by
  obtain ⟨h1, h2⟩ := compactUp (sortL_pw l) (sortL l).length (Nat.le_refl _)
  exact ⟨h1, fun x => by
    unfold Lib.compact
    rw [h2, List.take_length, sortL_mem]⟩

def allP (ts : List (List FileD)) : List Str := Lib.compact (sortL (ts.flatten.map (·.path)))
theorem allP_3 (o a b : List FileD) : allP [o, a, b] = paths6 o a b := by
  obtain ⟨h1, h2⟩ := compact_sort (([o, a, b] : List (List FileD)).flatten.map (·.path))
  obtain ⟨h3, h4⟩ := paths6_srt o a b
  refine srt_eq h1 h3 fun x => ?_
  unfold allP at *
  rw [h2, h4]; simp
theorem allP_2 (o a : List FileD) : allP [o, a] = paths6 o a [] := by
  obtain ⟨h1, h2⟩ := compact_sort (([o, a] : List (List FileD)).flatten.map (·.path))
  obtain ⟨h3, h4⟩ := paths6_srt o a []
  refine srt_eq h1 h3 fun x => ?_
  unfold allP at *
  rw [h2, h4]; simp
theorem allP_len (ts : List (List FileD)) : (allP ts).length ≤ ts.flatten.length := by
  have h1 := compact_len (sortL (ts.flatten.map (·.path)))
  rw [sortL_len, List.length_map] at h1
  exact h1

def eTree (t : List FileD) : List D := [.sl 73 2 (eFiles t)]
def eTrees (ts : List (List FileD)) : List (List D) := ts.map eTree
@[simp] theorem eTrees_length (l : List (List FileD)) : (eTrees l).length = l.length := by simp -implicitDefEqProofs [eTrees]
@[simp] theorem eTrees_get (l : List (List FileD)) (i : Nat) : (eTrees l)[i]? = l[i]?.map eTree := by simp -implicitDefEqProofs [eTrees]
def preP (ts : List (List FileD)) (i j : Nat) : List Str := ((ts.take i).flatten ++ (ts.getD i []).take j).map (·.path)
theorem preP_0 (ts : List (List FileD)) : preP ts 0 0 = [] := by simp -implicitDefEqProofs [preP]
theorem preP_end (ts : List (List FileD)) : preP ts ts.length 0 = ts.flatten.map (·.path) := by simp -implicitDefEqProofs [preP]
theorem preP_next {ts : List (List FileD)} {i : Nat} (h : i < ts.length) : preP ts i (ts.getD i []).length = preP ts (i + 1) 0 := by
  have e3 : ts.getD i [] = ts[i] := by simp -implicitDefEqProofs [List.getD_eq_getElem?_getD, h]
  unfold preP
  rw [take_succ' h, e3, List.take_length, List.flatten_append, List.take_zero, List.append_nil]
  simp only [List.flatten_cons, List.flatten_nil, List.append_nil]
theorem preP_succ {ts : List (List FileD)} {i j : Nat} (h : j < (ts.getD i []).length) : preP ts i (j + 1) = preP ts i j ++ [(ts.getD i [])[j].path] := by
  unfold preP
  rw [take_succ' h, ← List.append_assoc, List.map_append]; rfl
theorem flat_le {ts : List (List FileD)} {i : Nat} (j : Nat) (h : i < ts.length) : ((ts.take i).flatten ++ (ts.getD i []).take j).length ≤ ts.flatten.length := by
  have e := List.take_append_drop (i + 1) ts
  have e2 : ts.flatten.length = ((ts.take (i + 1)).flatten ++ (ts.drop (i + 1)).flatten).length := by rw [← List.flatten_append, e]
  rw [e2, take_succ' h]
  have e3 : ts.getD i [] = ts[i] := by simp -implicitDefEqProofs [List.getD_eq_getElem?_getD, h]
  rw [e3]
  have : (List.take j ts[i]).length ≤ ts[i].length := by rw [List.length_take]; omega
  simp only [List.length_append, List.flatten_append, List.flatten_cons, List.flatten_nil, List.append_nil]
  omega
theorem preP_len {ts : List (List FileD)} {i : Nat} (j : Nat) (h : i < ts.length) : (preP ts i j).length ≤ ts.flatten.length := by
  unfold preP; rw [List.length_map]; exact flat_le j h
def apI (ts : List (List FileD)) : Inv := ⟨Nat, fun i => ⟨[(2, true, .nil), (3, true, .own 9 1 (eStrs (preP ts i 0))), (8, true, .sl true 1 (eTrees ts)), (9, true, .int .i64 ts.length), (10, true, .int .i64 i)], [(9, .own 9 1 true (eStrs (preP ts i 0)))]⟩, fun i => i ≤ ts.length, fun i => ts.length - i⟩
def apJ (ts : List (List FileD)) (g : Nat) : Inv := ⟨Nat, fun j => ⟨[(2, true, .nil), (3, true, .own 9 1 (eStrs (preP ts g j))), (8, true, .sl true 1 (eTrees ts)), (9, true, .int .i64 ts.length), (10, true, .int .i64 g), (14, true, .sl true 2 (eFiles (ts.getD g []))), (15, true, .int .i64 (ts.getD g []).length), (16, true, .int .i64 j)], [(9, .own 9 1 true (eStrs (preP ts g j)))]⟩, fun j => g < ts.length ∧ j ≤ (ts.getD g []).length, fun j => (ts.getD g []).length - j⟩
def apInv (ts : List (List FileD)) (n g : Nat) : Inv := if n = 3 then apI ts else apJ ts g
theorem apInv_3 (ts g) : apInv ts 3 g = apI ts := rfl
theorem apInv_6 (ts g) : apInv ts 6 g = apJ ts g := rfl
def cAllPaths : Con := .fn 31 (List (List FileD)) (fun ts => [.sl true 1 (eTrees ts)]) (fun ts => ts.flatten.length ≤ 1048576 ∧ ts.length ≤ 1048576) (fun ts => .own 8 1 (eStrs (allP ts))) (fun ts => ownStrs 8 (allP ts))
set_option maxHeartbeats 4000000 in
theorem allPaths_has : Has Tryz.prog 103 cAllPaths := by
  refine has_walk mixed tTabC_ok (l := [(171, cSortS), (172, cCompactS)]) (HasL.cons sortS_has (HasL.cons compactS_has HasL.nil)) [0, 2, 3, 5, 7, 8, 9, 10, 14, 15, 16] (apInv) [] Tryz.func103 (by kernel_rfl) (code := _) (by unfold Tryz.f103; rfl) (by kernel_rfl) (by decide) (fun _ => ⟨(), trivial⟩) (by intro h; first | exact fun _ => rfl | cases h) (by kernel_rfl) ?_
  intro (ts : List (List FileD)) ha
  obtain ⟨h1, h2⟩ : ts.flatten.length ≤ 1048576 ∧ ts.length ≤ 1048576 := ha
  simp (maxSteps := 4000000) [cAllPaths, cSortS, cCompactS, Con.fn, tTabC, tTab, apInv_3, apInv_6, apI, apJ]
  try dsimp only
  refine fun _ => ⟨⟨0, ⟨⟨preP_0 ts, rfl⟩, preP_0 ts⟩, Nat.zero_le _⟩, fun i hi => ⟨fun hlt => ⟨hlt, fun _ => ?_⟩, fun hge => ?_⟩⟩
  · have qq : Option.map eTree ts[i]? = some (eTree ts[i]) := by simp -implicitDefEqProofs [hlt]
    have e3 : ts[i]?.getD [] = ts[i] := by simp -implicitDefEqProofs [hlt]
    have e4 : (ts[i]?.getD []).length = ts[i].length := by rw [e3]
    have hb : ∀ j, (preP ts i j).length ≤ ts.flatten.length := fun j => preP_len j hlt
    rw [qq]
    simp -implicitDefEqProofs [eTree, D.asRows]
    refine fun _ => ⟨i, ⟨0, ⟨⟨rfl, rfl, by rw [e3], by rw [e3], rfl⟩, rfl⟩, hlt, Nat.zero_le _⟩, fun j hg hj => ⟨fun hjl => ⟨hjl, fun _ => ?_⟩, fun hjg => ⟨by omega, fun _ _ => ⟨i + 1, ⟨⟨?_, by omega⟩, ?_⟩, by omega, by omega⟩⟩⟩⟩
    · have q2 : Option.map eFile (ts[i]?.getD [])[j]? = some (eFile (ts[i]?.getD [])[j]) := by simp -implicitDefEqProofs [hjl]
      have q3 : preP ts i (j + 1) = preP ts i j ++ [(ts[i]?.getD [])[j].path] := preP_succ (ts := ts) (i := i) (j := j) hjl
      have hbj := hb j
      rw [q2]
      simp -implicitDefEqProofs [eFile, D.asRows, D.asStr]
      refine ⟨⟨by omega, by omega⟩, by omega, fun _ _ => ⟨j + 1, ⟨⟨?_, by omega⟩, ?_⟩, ⟨hg, by omega⟩, by omega⟩⟩
      · rw [q3, ← eStrs_snoc]
      · rw [q3, ← eStrs_snoc]
    · rw [show j = (ts.getD i []).length by rw [List.getD_eq_getElem?_getD]; omega, preP_next hlt]
    · rw [show j = (ts.getD i []).length by rw [List.getD_eq_getElem?_getD]; omega, preP_next hlt]
  · have : i = ts.length := by omega
    subst this
    rw [sortL_len, preP_end, List.length_map]
    exact ⟨h1, h1, rfl, rfl⟩

def cHasAt : Con := .fn 16 (List FileD × Str) (fun a => [.sl true 2 (eFiles a.1), .str a.2]) (fun a => ∀ f ∈ a.1, f.text.length ≤ 1048576) (fun a => .agg [.own 8 1 (eStrs (getI a.1 a.2).1), .bool (getI a.1 a.2).2]) (fun a => ownStrs 8 (getI a.1 a.2).1)
set_option maxHeartbeats 4000000 in
theorem hasAt_has : Has Tryz.prog 104 cHasAt := by
  refine has_walk mixed tTabC_ok (l := [(112, cGetF)]) (HasL.cons getF_has HasL.nil) [0, 1, 4, 5, 6] ((fun a n (_ : Nat) => (fun _ => noInv) a n)) [] Tryz.func104 (by kernel_rfl) (code := _) (by unfold Tryz.f104; rfl) (by kernel_rfl) (by decide) (fun _ => ⟨(), trivial⟩) (by intro h; first | exact fun _ => rfl | cases h) (by kernel_rfl) ?_
  intro a ha
  obtain ⟨t, p⟩ := a
  replace ha : ∀ f ∈ t, f.text.length ≤ 1048576 := ha
  simp -implicitDefEqProofs [cHasAt, cGetF, Con.fn, tTabC, tTab]
  try dsimp only
  exact ⟨t, p, ⟨rfl, rfl⟩, ha, fun h => ⟨⟨rfl, h⟩, rfl⟩, fun h => ⟨⟨rfl, h⟩, rfl⟩⟩

end Vx
end Go.Proofs.YtnmmlcjnjnooaaaGreatDoor
/-
  Contracts: common lines (the program's lcs, match).
-/
namespace Go.Proofs.YtnmmlcjnjnooaaaGreatDoor
namespace Vx
open Go.RowKit
set_option maxRecDepth 8000

/-- A table half laid out. -/
def iniT (n w i : Nat) : List (List Int) := List.replicate i (List.replicate w 0) ++ List.replicate (n - i) []
theorem iniT_len {n w i : Nat} (h : i ≤ n) : (iniT n w i).length = n := by simp -implicitDefEqProofs [iniT]; omega
theorem iniT_0 (n w : Nat) : eRows (iniT n w 0) = List.replicate n [D.sl 3 1 []] := by simp -implicitDefEqProofs [iniT, eRows, eRow]
theorem iniT_end (n w : Nat) : iniT n w n = List.replicate n (List.replicate w 0) := by simp -implicitDefEqProofs [iniT]
theorem iniT_set {n w i : Nat} (h : i < n) : (eRows (iniT n w i)).set i [D.sl 3 1 (List.replicate w [D.int .i64 0])] = eRows (iniT n w (i + 1)) := by
  have e : (iniT n w i).set i (List.replicate w 0) = iniT n w (i + 1) := by
    apply List.ext_getElem
    · rw [List.length_set, iniT_len (by omega), iniT_len (by omega)]
    · intro k h1 h2
      rw [List.getElem_set]
      simp only [iniT, List.getElem_append, List.length_replicate, List.getElem_replicate]
      by_cases hk : i = k
      · subst hk; simp
      · rw [if_neg hk]
        by_cases h3 : k < i
        · rw [dif_pos h3, dif_pos (by omega)]
        · rw [dif_neg h3, dif_neg (by omega)]
  rw [← e]
  simp -implicitDefEqProofs [eRows, List.map_set, eRow, eInts, eInt]
def lcA (a b : List Str) : Inv := ⟨Nat, fun i => ⟨[(0, true, .sl true 1 (eStrs a)), (1, true, .sl true 1 (eStrs b)), (4, true, .nil), (5, true, .own 9 1 (eRows (iniT (a.length + 1) (b.length + 1) i))), (14, true, .int .i64 (a.length + 1 : Nat)), (15, true, .int .i64 i)], [(9, .own 29 1 true (eRows (iniT (a.length + 1) (b.length + 1) i)))]⟩, fun i => i ≤ a.length + 1, fun i => a.length + 1 - i⟩
def lcB (a b : List Str) : Inv := ⟨Nat, fun p => ⟨[(0, true, .sl true 1 (eStrs a)), (1, true, .sl true 1 (eStrs b)), (4, true, .nil), (5, true, .own 9 1 (eRows (tabF a b p (b.length + 1)))), (7, true, .int .i64 ((p : Int) - 1))], [(9, .own 29 1 true (eRows (tabF a b p (b.length + 1))))]⟩, fun p => p ≤ a.length, fun p => p⟩
def lcC (a b : List Str) (g : Nat) : Inv := ⟨Nat, fun q => ⟨[(0, true, .sl true 1 (eStrs a)), (1, true, .sl true 1 (eStrs b)), (4, true, .nil), (5, true, .own 9 1 (eRows (tabF a b g q))), (7, true, .int .i64 ((g : Int) - 1)), (8, true, .int .i64 ((q : Int) - 1))], [(9, .own 29 1 true (eRows (tabF a b g q)))]⟩, fun q => q ≤ b.length ∧ 0 < g ∧ g ≤ a.length, fun q => q⟩
def lcInv (a b : List Str) (n g : Nat) : Inv := if n = 3 then lcA a b else if n = 8 then lcB a b else lcC a b g
theorem lcInv_3 (a b g) : lcInv a b 3 g = lcA a b := rfl
theorem lcInv_8 (a b g) : lcInv a b 8 g = lcB a b := rfl
theorem lcInv_11 (a b g) : lcInv a b 11 g = lcC a b g := rfl
def cLcsI : Con := .fn 89 (List Str × List Str) (fun a => [.sl true 1 (eStrs a.1), .sl true 1 (eStrs a.2)]) (fun a => a.1.length ≤ 1048576 ∧ a.2.length ≤ 1048576) (fun a => .own 8 1 (eRows (tabF a.1 a.2 0 0))) (fun a => [(8, .own 29 1 true (eRows (tabF a.1 a.2 0 0)))])
set_option maxHeartbeats 4000000 in
theorem lcsI_has : Has Tryz.prog 105 cLcsI := by
  refine has_walk mixed tTab_ok (l := []) HasL.nil [0, 1, 4, 5, 6, 7, 8, 14, 15] (fun a => lcInv a.1 a.2) [] Tryz.func105 (by kernel_rfl) (code := _) (by unfold Tryz.f105; rfl) (by kernel_rfl) (by decide) (fun _ => ⟨(), trivial⟩) (by intro h; first | exact fun _ => rfl | cases h) (by kernel_rfl) ?_
  intro a ha
  obtain ⟨a, b⟩ := a
  obtain ⟨h1, h2⟩ : a.length ≤ 1048576 ∧ b.length ≤ 1048576 := ha
  simp (maxSteps := 4000000) [cLcsI, Con.fn, tTab, lcInv_3, lcInv_8, lcInv_11, lcA, lcB, lcC]
  try dsimp only
  refine fun _ => ⟨by omega, fun _ _ => ⟨by omega, fun _ _ _ _ => ⟨⟨0, ⟨⟨iniT_0 _ _, rfl⟩, (iniT_0 _ _).symm⟩, Nat.zero_le _⟩, fun i hi => ⟨fun hlt _ => ⟨by omega, fun _ _ => ⟨by omega, fun _ _ _ => ⟨by rw [iniT_len hi]; omega, fun hx => ⟨hx, by omega, fun _ _ => ⟨i + 1, ⟨⟨(iniT_set (by omega)).symm, by omega⟩, iniT_set (by omega)⟩, by omega, by omega⟩⟩⟩⟩⟩, fun hge _ => ⟨by omega, fun _ _ => ⟨⟨a.length, ⟨⟨?_, rfl⟩, ?_⟩, Nat.le_refl _⟩, fun p hp => ⟨fun h1p _ => ⟨by omega, fun _ _ => ⟨p, ⟨b.length, ⟨⟨?_, rfl, rfl⟩, ?_⟩, Nat.le_refl _, by omega, hp⟩, fun q hq hg hga => ⟨fun hq1 => ?_, fun hq0 => ⟨by omega, fun _ _ => ⟨p - 1, ⟨⟨?_, by omega⟩, ?_⟩, by omega, by omega⟩⟩⟩⟩⟩, fun hp0 => ?_⟩⟩⟩⟩⟩⟩⟩
  · rw [show i = a.length + 1 by omega, iniT_end, tab_first rfl]
  · rw [show i = a.length + 1 by omega, iniT_end, tab_first rfl]
  · rw [tab_col]
  · rw [tab_col]
  · obtain ⟨T, hT⟩ : ∃ T, T = tabF a b p q := ⟨_, rfl⟩
    have t1 := @tab_len a b p q
    have t2 := tab_row (a := a) (b := b) (p := p) (q := q) (r := p) (by omega)
    have t3 := tab_row (a := a) (b := b) (p := p) (q := q) (r := p - 1) (by omega)
    have t4 : a[p - 1]? = some a[p - 1] := List.getElem?_eq_getElem (by omega)
    have t5 : b[q - 1]? = some b[q - 1] := List.getElem?_eq_getElem (by omega)
    have u1 := @tabR_len a b p q p
    have u2 := @tabR_len a b p q (p - 1)
    have u3 : (tabR a b p q p)[q]? = some (lcs (a.drop p) (b.drop q)) := by rw [tabR_get (by omega), if_pos (by omega)]
    have u4 : (tabR a b p q p)[q - 1]? = some (lcs (a.drop p) (b.drop (q - 1))) := by rw [tabR_get (by omega), if_pos (by omega)]
    have u5 : (tabR a b p q (p - 1))[q]? = some (lcs (a.drop (p - 1)) (b.drop q)) := by rw [tabR_get (by omega), if_pos (by omega)]
    have v1 := lcs_bd (a.drop p) (b.drop q)
    have v2 := lcs_bd (a.drop p) (b.drop (q - 1))
    have v3 := lcs_bd (a.drop (p - 1)) (b.drop q)
    have v4 : (a.drop p).length ≤ a.length := by simp
    have v5 : (a.drop (p - 1)).length ≤ a.length := by simp
    have w1 := tab_put (a := a) (b := b) (p := p) (q := q) hg hga (by omega) hq
    have w2 := lcs_step (a := a) (b := b) (p := p) (q := q) hg hga (by omega) hq
    rw [← hT] at t1 t2 t3 w1 ⊢
    clear hT
    generalize lcs (a.drop p) (b.drop q) = L11 at *
    generalize lcs (a.drop p) (b.drop (q - 1)) = L10 at *
    generalize lcs (a.drop (p - 1)) (b.drop q) = L01 at *
    generalize tabR a b p q p = rB at *
    generalize tabR a b p q (p - 1) = rA at *
    simp -implicitDefEqProofs [t1, t2, t3, t4, t5, u1, u2, u3, u4, u5, eInt, eStr, D.asStr, eRow, D.asRows, D.asInt, and_assoc]
    have fin : ∀ v, v = lcs (a.drop (p - 1)) (b.drop (q - 1)) → ∃ t', eRows (tabF a b p t') = (eRows T).set (p - 1) [D.sl 3 1 ((eInts rA).set (q - 1) [D.int .i64 v])] ∧ (t' : Int) = q - 1 ∧ (eRows T).set (p - 1) [D.sl 3 1 ((eInts rA).set (q - 1) [D.int .i64 v])] = eRows (tabF a b p t') ∧ t' ≤ b.length ∧ 0 < p ∧ p ≤ a.length ∧ t' < q :=
      fun v hv => ⟨q - 1, (w1 v hv).symm, by omega, w1 v hv, by omega, hg, hga, by omega⟩
    have fin1 := fun h => fin (L11 + 1) (by rw [w2, if_pos h])
    have fin2 := fun (h : ¬ a[p - 1] = b[q - 1]) => fin (if L10 < L01 then L01 else L10) (by rw [w2, if_neg h]; split <;> split <;> omega)
    clear w1 w2 fin
    repeat' (first | intro _ | apply And.intro)
    all_goals first | omega | exact fin1 (by assumption) | exact fin2 (by assumption)
  · rw [show q = 0 by omega, tab_next (by omega)]
  · rw [show q = 0 by omega, tab_next (by omega)]
  · rw [show p = 0 by omega, tab_zero]; exact ⟨rfl, rfl⟩

def maI (a b : List Str) : Inv := ⟨Nat × Nat × List Int, fun t => ⟨[(0, true, .sl true 1 (eStrs a)), (1, true, .sl true 1 (eStrs b)), (4, true, .nil), (5, true, .own 9 1 (eRows (tabF a b 0 0))), (6, true, .own 10 1 (eInts t.2.2)), (8, true, .int .i64 t.2.1), (7, true, .int .i64 t.1)], [(9, .own 29 1 true (eRows (tabF a b 0 0))), (10, .own 3 1 true (eInts t.2.2))]⟩,
  fun t => t.1 ≤ a.length ∧ t.2.1 ≤ b.length ∧ t.2.2.length = t.1 ∧ t.2.2 ++ mt (a.drop t.1) (b.drop t.2.1) t.2.1 = mt a b 0, fun t => (a.length - t.1) + (b.length - t.2.1)⟩
end Vx
end Go.Proofs.YtnmmlcjnjnooaaaGreatDoor
/-
  Contracts: parts of merged texts (the reference's l3Part, l3Put, l3Of, l3Text).
-/
namespace Go.Proofs.YtnmmlcjnjnooaaaGreatDoor
namespace Vx
open Go.RowKit
set_option maxRecDepth 8000

theorem put3_e0 {l : List PartD} {p : PartD} (h : p.clash = false) (h' : p.lines = []) : put3 l p = l := by unfold put3; rw [if_pos ⟨h, h'⟩]
theorem put3_e1 {m : List PartD} {q p : PartD} (h : q.clash = false) (h' : p.clash = false) (hx : ¬ p.lines = []) : put3 (m ++ [q]) p = m ++ [⟨q.clash, q.lines ++ p.lines, q.old, q.one, q.two⟩] := by unfold put3; rw [if_neg (by simp -implicitDefEqProofs [hx])]; simp -implicitDefEqProofs [h, h']
theorem put3_e2 {m : List PartD} {q p : PartD} (h : q.clash = true) (hx : ¬ (p.clash = false ∧ p.lines = [])) : put3 (m ++ [q]) p = m ++ [q] ++ [p] := by unfold put3; rw [if_neg hx]; simp -implicitDefEqProofs [h]
theorem put3_e3 {l : List PartD} {p : PartD} (h : p.clash = true) : put3 l p = l ++ [p] := by
  unfold put3; rw [if_neg (by simp -implicitDefEqProofs [h])]
  split
  · simp -implicitDefEqProofs [h]
  · rfl
theorem put3_e4 {p : PartD} (h : ¬ (p.clash = false ∧ p.lines = [])) : put3 [] p = [p] := by unfold put3; rw [if_neg h]; simp

/-- Calls are of two kinds: with a part all of which is handed over, and with one of lines alone. -/
def l3A : (List PartD × PartD) ⊕ (List PartD × List Str) → List PartD
  | .inl a => a.1
  | .inr a => a.1
def l3P : (List PartD × PartD) ⊕ (List PartD × List Str) → PartD
  | .inl a => a.2
  | .inr a => ⟨false, a.2, [], [], []⟩
def l3Args : (List PartD × PartD) ⊕ (List PartD × List Str) → List AV
  | .inl a => [.own 0 5 (eParts a.1), .agg [.bool a.2.clash, .own 1 1 (eStrs a.2.lines), .own 2 1 (eStrs a.2.old), .own 3 1 (eStrs a.2.one), .own 4 1 (eStrs a.2.two)]]
  | .inr a => [.own 0 5 (eParts a.1), .agg [.bool false, .own 1 1 (eStrs a.2), .nil, .nil, .nil]]
def l3Owns : (List PartD × PartD) ⊕ (List PartD × List Str) → List (Nat × Nat × Nat × List (List D))
  | .inl a => [(0, 337, 5, eParts a.1), (1, 9, 1, eStrs a.2.lines), (2, 9, 1, eStrs a.2.old), (3, 9, 1, eStrs a.2.one), (4, 9, 1, eStrs a.2.two)]
  | .inr a => [(0, 337, 5, eParts a.1), (1, 9, 1, eStrs a.2)]
end Vx
end Go.Proofs.YtnmmlcjnjnooaaaGreatDoor
/-
  Contracts: merged texts (the reference's l3Of, l3Text).
-/
namespace Go.Proofs.YtnmmlcjnjnooaaaGreatDoor
namespace Vx
open Go.RowKit
set_option maxRecDepth 8000

theorem mtE_snoc (o a : List Str) : eInts (mt o a 0) ++ [[D.int .i64 (a.length : Int)]] = eInts (mtE o a) := by simp -implicitDefEqProofs [mtE, eInts, eInt]
def l3oI (o a b : List Str) : Inv := ⟨Nat, fun i => ⟨[(0, true, .sl true 1 (eStrs o)), (1, true, .sl true 1 (eStrs a)), (2, true, .sl true 1 (eStrs b)), (6, true, .nil), (7, true, .own 9 5 (eParts (run3 o a b i).out)), (8, true, .own 10 1 (eInts (mtE o a))), (9, true, .own 11 1 (eInts (mtE o b))), (10, true, .int .i64 (run3 o a b i).io), (11, true, .int .i64 (run3 o a b i).ia), (12, true, .int .i64 (run3 o a b i).ib), (13, true, .int .i64 i)], [(9, .own 337 5 true (eParts (run3 o a b i).out)), (10, .own 3 1 true (eInts (mtE o a))), (11, .own 3 1 true (eInts (mtE o b)))]⟩, fun i => i ≤ o.length + 1, fun i => o.length + 1 - i⟩
def linesF (l : List PartD) (i : Nat) : List Str := (l.take i).flatMap (·.lines)
end Vx
end Go.Proofs.YtnmmlcjnjnooaaaGreatDoor
/-
  Contracts: trees made one (the reference's l6Same, l6One).
-/
namespace Go.Proofs.YtnmmlcjnjnooaaaGreatDoor
namespace Vx
open Go.RowKit
set_option maxRecDepth 8000

theorem of3_bd (o a b : List Str) : (of3 o a b).length ≤ 2 * (o.length + 1) ∧ ∀ q ∈ of3 o a b, q.lines.length ≤ o.length + a.length + b.length + 3 := by
  obtain ⟨h1, h2, h3, h4, h5, h6, h7⟩ := ok3_run o a b (o.length + 1) (Nat.le_refl _)
  exact ⟨h6, fun q hq => by have := h7 q hq; omega⟩
end Vx
end Go.Proofs.YtnmmlcjnjnooaaaGreatDoor
/-
  Contracts: paths of trees, trees made one (the reference's l5Put, l6Paths, l6Of, l6Join).
-/
namespace Go.Proofs.YtnmmlcjnjnooaaaGreatDoor
namespace Vx
open Go.RowKit
set_option maxRecDepth 8000

def cL5Put : Con := .fn 48 (List Str × Str) (fun a => [.sl true 1 (eStrs a.1), .str a.2]) (fun a => a.1.length ≤ 1073741824) (fun a => .sl false 1 (eStrs (putS a.1 a.2))) (fun _ => [])
set_option maxHeartbeats 4000000 in
theorem l5Put_has : Has Tryz.prog 199 cL5Put := by
  refine has_walk mixed tTab_ok (l := []) HasL.nil [0, 1, 4, 5, 6] ((fun a n (_ : Nat) => (fun a _ => ⟨Nat, fun k => ⟨[(0, true, .sl true 1 (eStrs a.1)), (1, true, .str a.2), (4, true, .nil), (5, true, .int .i64 k)], []⟩, fun k => k ≤ a.1.length ∧ a.1.take k ++ putS (a.1.drop k) a.2 = putS a.1 a.2, fun k => a.1.length - k⟩) a n)) [] Tryz.func199 (by kernel_rfl) (code := _) (by unfold Tryz.f199; rfl) (by kernel_rfl) (by decide) (fun _ => ⟨(), trivial⟩) (by intro h; first | exact fun _ => rfl | cases h) (by kernel_rfl) ?_
  intro a ha
  obtain ⟨l, s⟩ := a
  replace ha : l.length ≤ 1073741824 := ha
  simp -implicitDefEqProofs [cL5Put, Con.fn, tTab]
  try dsimp only
  have f : ∀ (t : List Str), ∀ x ∈ eStrs t, ∀ d ∈ x, match d with | .sl _ _ _ => False | _ => True := fun t => (eStrs_flat t).mpr trivial
  have f1 : ∀ t, ∀ x ∈ List.take t (eStrs l), ∀ d ∈ x, match d with | .sl _ _ _ => False | _ => True := fun t => by rw [eStrs_take]; exact f _
  have f2 : ∀ t, ∀ x ∈ List.take (l.length - t) (List.drop t (eStrs l)), ∀ d ∈ x, match d with | .sl _ _ _ => False | _ => True := fun t => by rw [eStrs_drop, eStrs_take]; exact f _
  have fin : ∀ t, putS l s = l.take t ++ [s] ++ l.drop t → eStrs (putS l s) = List.take t (eStrs l) ++ [D.str s] :: List.take (l.length - t) (List.drop t (eStrs l)) := fun t h => by
    rw [h, eStrs_drop, eStrs_take, eStrs_take, List.take_of_length_le (show (l.drop t).length ≤ l.length - t by simp)]
    simp -implicitDefEqProofs [eStrs, eStr]
  refine fun t ht hp _ => ⟨fun hlt => ⟨hlt, fun _ => ?_⟩, fun hge _ => ⟨fun hlt => absurd hlt (by omega), fun _ => ⟨ht, fun _ => ⟨f1 t, ⟨by omega, by omega⟩, ⟨by omega, by omega⟩, ht, fun _ => ⟨f2 t, ⟨by omega, by omega⟩, fin t (putS_end hge hp)⟩⟩⟩⟩⟩
  have qq : Option.map eStr l[t]? = some (eStr l[t]) := by simp -implicitDefEqProofs [hlt]
  rw [qq]
  have g1 := putS_step hlt hp
  have g2 := putS_eq hlt hp
  have g3 := putS_ne hlt hp
  generalize l[t] = y at *
  simp -implicitDefEqProofs [eStr, D.asStr]
  refine ⟨fun h => ⟨⟨by omega, by omega⟩, fun _ _ => ⟨t + 1, by omega, ⟨by omega, g1 h⟩, by omega⟩⟩, fun h _ => ⟨fun _ => ⟨hlt, fun _ => ⟨fun e => g2 h e, fun e => ⟨ht, fun _ => ⟨f1 t, ⟨by omega, by omega⟩, ⟨by omega, by omega⟩, ht, fun _ => ⟨f2 t, ⟨by omega, by omega⟩, fin t (g3 h e)⟩⟩⟩⟩⟩, fun hge => absurd hlt (by omega)⟩⟩

def l6pI1 (o a b : List FileD) : Inv := ⟨Nat, fun i => ⟨[(0, true, .sl true 2 (eFiles o)), (1, true, .sl true 2 (eFiles a)), (2, true, .sl true 2 (eFiles b)), (6, true, .nil), (7, true, .sl false 1 (eStrs (putFs [] (o.take i)))), (8, true, .int .i64 i)], []⟩, fun i => i ≤ o.length, fun i => o.length - i⟩
def l6pI2 (o a b : List FileD) : Inv := ⟨Nat, fun i => ⟨[(0, true, .sl true 2 (eFiles o)), (1, true, .sl true 2 (eFiles a)), (2, true, .sl true 2 (eFiles b)), (6, true, .nil), (7, true, .sl false 1 (eStrs (putFs (putFs [] o) (a.take i)))), (9, true, .int .i64 i)], []⟩, fun i => i ≤ a.length, fun i => a.length - i⟩
def l6pI3 (o a b : List FileD) : Inv := ⟨Nat, fun i => ⟨[(0, true, .sl true 2 (eFiles o)), (1, true, .sl true 2 (eFiles a)), (2, true, .sl true 2 (eFiles b)), (6, true, .nil), (7, true, .sl false 1 (eStrs (putFs (putFs (putFs [] o) a) (b.take i)))), (10, true, .int .i64 i)], []⟩, fun i => i ≤ b.length, fun i => b.length - i⟩
def l6pInv (o a b : List FileD) (n : Nat) : Inv := if n = 3 then l6pI1 o a b else if n = 7 then l6pI2 o a b else l6pI3 o a b
theorem l6pInv_3 (o a b : List FileD) : l6pInv o a b 3 = l6pI1 o a b := rfl
theorem l6pInv_7 (o a b : List FileD) : l6pInv o a b 7 = l6pI2 o a b := rfl
theorem l6pInv_11 (o a b : List FileD) : l6pInv o a b 11 = l6pI3 o a b := rfl
def cL6Paths : Con := .fn 52 (List FileD × List FileD × List FileD) (fun a => [.sl true 2 (eFiles a.1), .sl true 2 (eFiles a.2.1), .sl true 2 (eFiles a.2.2)]) (fun a => a.1.length ≤ 1048576 ∧ a.2.1.length ≤ 1048576 ∧ a.2.2.length ≤ 1048576) (fun a => .sl false 1 (eStrs (paths6 a.1 a.2.1 a.2.2))) (fun _ => [])
set_option maxHeartbeats 4000000 in
theorem l6Paths_has : Has Tryz.prog 166 cL6Paths := by
  refine has_walk mixed tTab_ok (l := [(199, cL5Put)]) (HasL.cons l5Put_has HasL.nil) [0, 1, 2, 6, 7, 8, 9, 10] ((fun a n (_ : Nat) => (fun a n => l6pInv a.1 a.2.1 a.2.2 n) a n)) [] Tryz.func166 (by kernel_rfl) (code := _) (by unfold Tryz.f166; rfl) (by kernel_rfl) (by decide) (fun _ => ⟨(), trivial⟩) (by intro h; first | exact fun _ => rfl | cases h) (by kernel_rfl) ?_
  intro a ha
  obtain ⟨o, a, b⟩ := a
  obtain ⟨h1, h2, h3⟩ : o.length ≤ 1048576 ∧ a.length ≤ 1048576 ∧ b.length ≤ 1048576 := ha
  simp -implicitDefEqProofs [cL6Paths, cL5Put, Con.fn, tTab, l6pInv_3, l6pInv_7, l6pInv_11, l6pI1, l6pI2, l6pI3]
  try dsimp only
  have b1 := putFs_len o []
  have b2 := putFs_len a (putFs [] o)
  simp only [List.length_nil] at b1
  have z : ([] : List Str).length = 0 := rfl
  refine ⟨⟨0, ⟨rfl, rfl⟩, Nat.zero_le _⟩, fun t ht _ => ⟨fun hlt => ⟨hlt, fun _ => ?_⟩, fun hge => ⟨⟨0, ⟨by rw [List.take_of_length_le hge]; rfl, rfl⟩, Nat.zero_le _⟩, fun u hu _ => ⟨fun hlt => ⟨hlt, fun _ => ?_⟩, fun hge => ⟨⟨0, ⟨by rw [List.take_of_length_le hge]; rfl, rfl⟩, Nat.zero_le _⟩, fun v hv _ => ⟨fun hlt => ⟨hlt, fun _ => ?_⟩, fun hge => by rw [List.take_of_length_le hge]; rfl⟩⟩⟩⟩⟩⟩
  · have hb := putFs_len (o.take t) ([])
    have hl : (o.take t).length ≤ o.length := by simp; omega
    have qq : Option.map eFile o[t]? = some (eFile o[t]) := by simp -implicitDefEqProofs [hlt]
    have hs := putFs_succ (l := []) hlt
    rw [qq]
    simp -implicitDefEqProofs [eFile, D.asStr]
    exact ⟨_, _, ⟨rfl, rfl⟩, by omega, ⟨by omega, by omega⟩, fun _ _ => ⟨t + 1, ⟨hs, by omega⟩, by omega, by omega⟩⟩
  · have hb := putFs_len (a.take u) (putFs [] o)
    have hl : (a.take u).length ≤ a.length := by simp; omega
    have qq : Option.map eFile a[u]? = some (eFile a[u]) := by simp -implicitDefEqProofs [hlt]
    have hs := putFs_succ (l := putFs [] o) hlt
    rw [qq]
    simp -implicitDefEqProofs [eFile, D.asStr]
    exact ⟨_, _, ⟨rfl, rfl⟩, by omega, ⟨by omega, by omega⟩, fun _ _ => ⟨u + 1, ⟨hs, by omega⟩, by omega, by omega⟩⟩
  · have hb := putFs_len (b.take v) (putFs (putFs [] o) a)
    have hl : (b.take v).length ≤ b.length := by simp; omega
    have qq : Option.map eFile b[v]? = some (eFile b[v]) := by simp -implicitDefEqProofs [hlt]
    have hs := putFs_succ (l := putFs (putFs [] o) a) hlt
    rw [qq]
    simp -implicitDefEqProofs [eFile, D.asStr]
    exact ⟨_, _, ⟨rfl, rfl⟩, by omega, ⟨by omega, by omega⟩, fun _ _ => ⟨v + 1, ⟨hs, by omega⟩, by omega, by omega⟩⟩

abbrev ownClash (h : Nat) (a : List HeadD) : List (Nat × Blk) := [(h, .own 248 2 true (eHeads a))]
def l6oI (o a b : List FileD) : Inv := ⟨Nat, fun i => ⟨[(0, true, .sl true 2 (eFiles o)), (1, true, .sl true 2 (eFiles a)), (2, true, .sl true 2 (eFiles b)), (6, true, .nil), (7, true, .nil), (8, true, .own 9 2 (eFiles (runJ o a b ((paths6 o a b).take i)).1)), (9, true, .own 10 2 (eHeads (runJ o a b ((paths6 o a b).take i)).2)), (10, true, .sl false 1 (eStrs (paths6 o a b))), (11, true, .int .i64 i)], [(9, .own 73 2 true (eFiles (runJ o a b ((paths6 o a b).take i)).1)), (10, .own 248 2 true (eHeads (runJ o a b ((paths6 o a b).take i)).2))]⟩, fun i => i ≤ (paths6 o a b).length, fun i => (paths6 o a b).length - i⟩
def szT (t : List FileD) : Prop := t.length ≤ 100000 ∧ ∀ f ∈ t, f.text.length ≤ 64
end Vx
end Go.Proofs.YtnmmlcjnjnooaaaGreatDoor
/-
  Operations (impl.Op): data, models, plain lemmas.
-/
namespace Go.Proofs.YtnmmlcjnjnooaaaGreatDoor
namespace Vx
open Go.RowKit
set_option maxRecDepth 8000

structure OpD where
  kind : Int
  branch : Str
  who : Str
  path : Str
  to_ : Str
  at_ : Int
  text : List Str
  deriving DecidableEq, Inhabited

def eOp (a : OpD) : List D := [.int .i64 a.kind, .str a.branch, .str a.who, .str a.path, .str a.to_, .int .i64 a.at_, .sl 9 1 (eStrs a.text)]
@[simp] theorem eOp_inj (a b : OpD) : (eOp a = eOp b) = (a = b) := by
  cases a; cases b; simp -implicitDefEqProofs [eOp]
@[simp] theorem OpD.eta (a : OpD) : (⟨a.kind, a.branch, a.who, a.path, a.to_, a.at_, a.text⟩ : OpD) = a := rfl
theorem OpD.eq_iff (a b : OpD) : (a = b) = (a.kind = b.kind ∧ a.branch = b.branch ∧ a.who = b.who ∧ a.path = b.path ∧ a.to_ = b.to_ ∧ a.at_ = b.at_ ∧ a.text = b.text) := by
  cases a; cases b; simp
@[simp] theorem OpD.ex1 (x_kind : Int) (x_branch : Str) (x_who : Str) (x_path : Str) (x_to_ : Str) (x_at_ : Int) (x_text : List Str) (Q : OpD → Prop) : (∃ a : OpD, a.kind = x_kind ∧ a.branch = x_branch ∧ a.who = x_who ∧ a.path = x_path ∧ a.to_ = x_to_ ∧ a.at_ = x_at_ ∧ a.text = x_text ∧ Q a) = Q ⟨x_kind, x_branch, x_who, x_path, x_to_, x_at_, x_text⟩ := by
  apply propext
  constructor
  · rintro ⟨⟨_, _, _, _, _, _, _⟩, rfl, rfl, rfl, rfl, rfl, rfl, rfl, h⟩; exact h
  · intro h; exact ⟨⟨x_kind, x_branch, x_who, x_path, x_to_, x_at_, x_text⟩, rfl, rfl, rfl, rfl, rfl, rfl, rfl, h⟩
@[simp] theorem OpD.ex2 (x_kind : Int) (x_branch : Str) (x_who : Str) (x_path : Str) (x_to_ : Str) (x_at_ : Int) (x_text : List Str) (Q : OpD → Prop) : (∃ a : OpD, (a.kind = x_kind ∧ a.branch = x_branch ∧ a.who = x_who ∧ a.path = x_path ∧ a.to_ = x_to_ ∧ a.at_ = x_at_ ∧ a.text = x_text) ∧ Q a) = Q ⟨x_kind, x_branch, x_who, x_path, x_to_, x_at_, x_text⟩ := by
  apply propext
  constructor
  · rintro ⟨⟨_, _, _, _, _, _, _⟩, ⟨rfl, rfl, rfl, rfl, rfl, rfl, rfl⟩, h⟩; exact h
  · intro h; exact ⟨⟨x_kind, x_branch, x_who, x_path, x_to_, x_at_, x_text⟩, ⟨rfl, rfl, rfl, rfl, rfl, rfl, rfl⟩, h⟩
@[simp] theorem OpD.ex0 (x_kind : Int) (x_branch : Str) (x_who : Str) (x_path : Str) (x_to_ : Str) (x_at_ : Int) (x_text : List Str) : (∃ a : OpD, a.kind = x_kind ∧ a.branch = x_branch ∧ a.who = x_who ∧ a.path = x_path ∧ a.to_ = x_to_ ∧ a.at_ = x_at_ ∧ a.text = x_text) = True := by
  simp only [eq_iff_iff, iff_true]
  exact ⟨⟨x_kind, x_branch, x_who, x_path, x_to_, x_at_, x_text⟩, rfl, rfl, rfl, rfl, rfl, rfl, rfl⟩
def eOps (l : List OpD) : List (List D) := l.map eOp
@[simp] theorem eOps_length (l : List OpD) : (eOps l).length = l.length := by simp -implicitDefEqProofs [eOps]
@[simp] theorem eOps_nil : eOps [] = [] := rfl
@[simp] theorem eOps_get (l : List OpD) (i : Nat) : (eOps l)[i]? = l[i]?.map eOp := by simp -implicitDefEqProofs [eOps]
@[simp] theorem eOps_getElem (l : List OpD) (i : Nat) (h : i < (eOps l).length) : (eOps l)[i] = eOp (l[i]'(by simpa using h)) := by simp -implicitDefEqProofs [eOps]
@[simp] theorem eOps_inj (a b : List OpD) : (eOps a = eOps b) = (a = b) := by
  apply propext
  constructor
  · intro h
    exact List.map_inj_right (fun x y h => by simpa using h) |>.1 h
  · rintro rfl; rfl
@[simp] theorem eOps_eq_nil (a : List OpD) : (eOps a = []) = (a = []) := by simp -implicitDefEqProofs [eOps]
@[simp] theorem nil_eq_eOps (a : List OpD) : ([] = eOps a) = (a = []) := by simp -implicitDefEqProofs [eOps, eq_comm]
theorem eOps_append (a b : List OpD) : eOps (a ++ b) = eOps a ++ eOps b := by simp -implicitDefEqProofs [eOps]
theorem eOps_take (l : List OpD) (i : Nat) : (eOps l).take i = eOps (l.take i) := by simp -implicitDefEqProofs [eOps]
theorem eOps_drop (l : List OpD) (i : Nat) : (eOps l).drop i = eOps (l.drop i) := by simp -implicitDefEqProofs [eOps]
theorem eOps_snoc (a : List OpD) (k : Int) (b w p t : Str) (i : Int) (x : List Str) : eOps a ++ [[.int .i64 k, .str b, .str w, .str p, .str t, .int .i64 i, .sl 9 1 (eStrs x)]] = eOps (a ++ [⟨k, b, w, p, t, i, x⟩]) := by simp -implicitDefEqProofs [eOps, eOp]

abbrev vOp (o : OpD) : AV := .agg [.int .i64 o.kind, .str o.branch, .str o.who, .str o.path, .str o.to_, .int .i64 o.at_, .sl true 1 (eStrs o.text)]
def bOp (o : OpD) : Blk := .box 239 [.int .i64 o.kind, .str o.branch, .str o.who, .str o.path, .str o.to_, .int .i64 o.at_, .sl true 1 (eStrs o.text)]

def opBare (o : OpD) (p t a x : Bool) : Bool := (p || decide (o.path = [])) && (t || decide (o.to_ = [])) && (a || decide (o.at_ = 0)) && (x || decide (o.text = []))
def barB (s : Str) : Bool := s.all fun b => decide (b ≠ 124)
def lines19 (t : List Str) : Bool := t.all barB && textB t
def opB (o : OpD) : Bool := (nameB o.branch && nameB o.who) &&
  (if o.kind = 1 then opBare o true false false true && pathS o.path && lines19 o.text
  else if o.kind = 2 then opBare o true false false false && pathS o.path
  else if o.kind = 3 then opBare o true true false false && pathS o.path && pathS o.to_
  else if o.kind = 4 ∨ o.kind = 5 then opBare o false true false false && nameB o.to_
  else if o.kind = 6 ∨ o.kind = 7 then opBare o false false true false && (decide (0 ≤ o.at_) && decide (o.at_ ≤ 15))
  else false)
def tree19 (r : RepoD) (o : OpD) (x : List FileD × Bool) : RepoD × Int := if x.2 then (if (repoCommitS r o.branch o.who x.1).2 then ((repoCommitS r o.branch o.who x.1).1, 0) else (r, 5)) else (r, 1)
def treeOf (r : RepoD) (n : Str) : List FileD := if 0 ≤ atL r.heads n then treeAt r (atL r.heads n) else []
def do19 (r : RepoD) (o : OpD) : RepoD × Int :=
  if o.kind = 1 then tree19 r o (treeSetS (treeOf r o.branch) ⟨o.path, o.text⟩)
  else if o.kind = 2 then tree19 r o (treeDropS (treeOf r o.branch) o.path)
  else if o.kind = 3 then tree19 r o (treeMoveS (treeOf r o.branch) o.path o.to_)
  else if o.kind = 4 then (if (repoBranchS r o.to_ (atL r.heads o.branch)).2 then ((repoBranchS r o.to_ (atL r.heads o.branch)).1, 0) else (r, 1))
  else if o.kind = 5 then uniteS r o.branch o.who (atL r.heads o.to_)
  else if o.kind = 6 then pickS false r o.branch o.who o.at_
  else pickS true r o.branch o.who o.at_
def playF (l : List OpD) : RepoD := l.foldl (fun r o => if opB o then (do19 r o).1 else r) noR
theorem playF_succ {l : List OpD} {i : Nat} (h : i < l.length) : playF (l.take (i + 1)) = if opB l[i] then (do19 (playF (l.take i)) l[i]).1 else playF (l.take i) := by
  unfold playF
  rw [take_succ' h, List.foldl_append]; rfl
def playS (l : List OpD) : RepoD := playF (l.take 30)
def repoDoS (r : RepoD) (o : OpD) : RepoD × Int := if repoS r then (if opB o then do19 r o else (r, 1)) else (noR, 1)
/-- What holds of a repository that was played. -/
def plR (r : RepoD) : Prop := repoS r = true ∧ (r.commits ≠ [] → r.heads ≠ [])
theorem plR_no : plR noR := ⟨rfl, fun h => absurd rfl h⟩
theorem repoCommitS_ok {r : RepoD} {n w : Str} {t : List FileD} (h : (repoCommitS r n w t).2 = true) : plR (repoCommitS r n w t).1 := by
  unfold repoCommitS at h ⊢
  split
  · rename_i h1
    rw [if_pos h1] at h
    split
    · rename_i h2; exact ⟨h2, fun _ => hSet_ne _ _ _⟩
    · rename_i h2; rw [if_neg h2] at h; cases h
  · rename_i h1; rw [if_neg h1] at h; cases h
theorem repoBranchS_ok {r : RepoD} {n : Str} {a : Int} (h : (repoBranchS r n a).2 = true) : plR (repoBranchS r n a).1 := by
  unfold repoBranchS at h ⊢
  split
  · rename_i h1
    rw [if_pos h1] at h
    split
    · rename_i h2; rw [if_pos h2] at h; cases h
    · rename_i h2
      have : repoS ⟨r.commits, hSet r.heads n a⟩ = true := by
        cases q : repoS ⟨r.commits, hSet r.heads n a⟩ with
        | true => rfl
        | false => exact absurd (.inr q) h2
      exact ⟨this, fun _ => hSet_ne _ _ _⟩
  · rename_i h1; rw [if_neg h1] at h; cases h
theorem tree19_ok {r : RepoD} {o : OpD} {x : List FileD × Bool} (h : plR r) : plR (tree19 r o x).1 := by
  unfold tree19
  split
  · split
    · rename_i q; exact repoCommitS_ok q
    · exact h
  · exact h
theorem do19_ok {r : RepoD} {o : OpD} (h : plR r) : plR (do19 r o).1 := by
  unfold do19
  repeat' split
  · exact tree19_ok h
  · exact tree19_ok h
  · exact tree19_ok h
  · rename_i q; exact repoBranchS_ok q
  · exact h
  · exact uniteS_ok h.1 h.2
  · exact pickS_ok h.1 h.2
  · exact pickS_ok h.1 h.2
theorem playF_ok (l : List OpD) : plR (playF l) := by
  have : ∀ (l : List OpD) (r : RepoD), plR r → plR (l.foldl (fun r o => if opB o then (do19 r o).1 else r) r) := by
    intro l
    induction l with
    | nil => intro r h; exact h
    | cons o l ih =>
      intro r h
      refine ih _ ?_
      show plR (if opB o = true then _ else _)
      split
      · exact do19_ok h
      · exact h
  exact this l noR plR_no

end Vx
end Go.Proofs.YtnmmlcjnjnooaaaGreatDoor
/-
  Contracts: operations looked at (the reference's l19Bare, l19Lines, l19Ok).
-/
namespace Go.Proofs.YtnmmlcjnjnooaaaGreatDoor
namespace Vx
open Go.RowKit
set_option maxRecDepth 8000

def l19O (t : List Str) : Inv := ⟨Nat, fun i => ⟨[(0, true, .sl true 1 (eStrs t)), (2, true, .bool false), (3, true, .int .i64 i)], []⟩, fun i => i ≤ t.length ∧ (t.take i).all barB = true, fun i => t.length - i⟩
def l19I (t : List Str) (g : Nat) : Inv := ⟨Nat, fun k => ⟨[(0, true, .sl true 1 (eStrs t)), (2, true, .bool false), (3, true, .int .i64 g), (4, true, .int .i64 k)], []⟩, fun k => g < t.length ∧ (t.take g).all barB = true ∧ k ≤ (t.getD g []).length ∧ ((t.getD g []).take k).all (fun b => decide (b ≠ 124)) = true, fun k => (t.getD g []).length - k⟩
def l19Inv (t : List Str) (n g : Nat) : Inv := if n = 2 then l19O t else l19I t g
theorem l19Inv_2 (t g) : l19Inv t 2 g = l19O t := rfl
theorem l19Inv_5 (t g) : l19Inv t 5 g = l19I t g := rfl
end Vx
end Go.Proofs.YtnmmlcjnjnooaaaGreatDoor
/-
  Contracts: the last commits from which two come (the reference's l8Bases).
-/
namespace Go.Proofs.YtnmmlcjnjnooaaaGreatDoor
namespace Vx
open Go.RowKit
set_option maxRecDepth 8000
--TAB tTabB

def l8bA (r : RepoD) (a b : Int) : Inv := ⟨Nat, fun i => ⟨[(3, true, .ptr 10 0), (6, true, .nil), (7, true, .sl false 1 (eInts (listT (anc r a)))), (8, true, .sl false 1 (eInts (listT (anc r b)))), (9, true, .own 9 1 (eInts (both8 r a b i))), (10, true, .int .i64 i)], [(10, bRepo r), (9, .own 3 1 true (eInts (both8 r a b i)))]⟩, fun i => i ≤ (listT (anc r a)).length, fun i => (listT (anc r a)).length - i⟩
def l8bB (r : RepoD) (L : List Int) : Inv := ⟨Nat, fun i => ⟨[(3, true, .ptr 10 0), (6, true, .nil), (9, true, .own 9 1 (eInts L)), (11, true, .own 11 1 (eInts (baseF r L i))), (12, true, .int .i64 i)], [(10, bRepo r), (9, .own 3 1 true (eInts L)), (11, .own 3 1 true (eInts (baseF r L i)))]⟩, fun i => i ≤ L.length, fun i => L.length - i⟩
def l8bC (r : RepoD) (L : List Int) (g : Nat) : Inv := ⟨Nat, fun k => ⟨[(3, true, .ptr 10 0), (6, true, .nil), (9, true, .own 9 1 (eInts L)), (11, true, .own 11 1 (eInts (baseF r L g))), (12, true, .int .i64 g), (13, true, .bool (bestF r L g k)), (14, true, .int .i64 k)], [(10, bRepo r), (9, .own 3 1 true (eInts L)), (11, .own 3 1 true (eInts (baseF r L g)))]⟩, fun k => k ≤ L.length ∧ g < L.length, fun k => L.length - k⟩
def l8bInv (r : RepoD) (a b : Int) (n g : Nat) : Inv := if n = 5 then l8bA r a b else if n = 11 then l8bB r (both8 r a b (listT (anc r a)).length) else l8bC r (both8 r a b (listT (anc r a)).length) g
theorem l8bInv_5 (r a b g) : l8bInv r a b 5 g = l8bA r a b := rfl
theorem l8bInv_11 (r a b g) : l8bInv r a b 11 g = l8bB r (both8 r a b (listT (anc r a)).length) := rfl
theorem l8bInv_15 (r a b g) : l8bInv r a b 15 g = l8bC r (both8 r a b (listT (anc r a)).length) g := rfl
end Vx
end Go.Proofs.YtnmmlcjnjnooaaaGreatDoor
/-
  Contracts: branches made one, picks, operations done (the reference's).
-/
namespace Go.Proofs.YtnmmlcjnjnooaaaGreatDoor
namespace Vx
open Go.RowKit
set_option maxRecDepth 8000
--TAB tTabB

theorem repoS_tree {r : RepoD} (h : repoS r = true) (i : Nat) : treeS (r.commits.getD i default).tree = true := by
  rcases Nat.lt_or_ge i r.commits.length with hi | hi
  · have := ((repoS_iff r).1 h).1 i hi
    unfold okCS okS1 at this
    simp only [Bool.and_eq_true] at this
    exact this.2.2
  · have : r.commits.getD i default = default := by simp -implicitDefEqProofs [List.getD_eq_getElem?_getD, hi]
    rw [this]; rfl
theorem repoS_treeAt {r : RepoD} (h : repoS r = true) (c : Int) : treeS (treeAt r c) = true := repoS_tree h _
theorem repoS_sz {r : RepoD} (h : repoS r = true) : rpSz r := by
  obtain ⟨h1, h2, h3⟩ := (repoS_iff r).1 h
  refine ⟨by omega, fun c hc => ?_, by have := ((headsB_iff _ _).1 h2).1; omega⟩
  obtain ⟨i, hi, rfl⟩ := List.getElem_of_mem hc
  have h4 := h1 i hi
  have e : r.commits.getD i default = r.commits[i] := by simp -implicitDefEqProofs [List.getD_eq_getElem?_getD, hi]
  unfold okCS okS1 at h4
  rw [e] at h4
  simp only [Bool.and_eq_true, decide_eq_true_eq] at h4
  obtain ⟨t1, t2⟩ := treeS_le _ h4.2.2
  exact ⟨by omega, by omega, fun g hg => by have := t2 g hg; omega⟩

theorem cget {r : RepoD} {c : Int} (h0 : 0 ≤ c) (h1 : c < r.commits.length) : Option.map eCommit r.commits[c.toNat]? = some [D.sl 3 1 (eInts (r.commits.getD c.toNat default).parents), D.str (r.commits.getD c.toNat default).who, D.sl 73 2 (eFiles (treeAt r c))] := by
  have h : c.toNat < r.commits.length := by omega
  have e : r.commits.getD c.toNat default = r.commits[c.toNat] := by simp -implicitDefEqProofs [List.getD_eq_getElem?_getD, h]
  unfold treeAt
  rw [e]; simp -implicitDefEqProofs [h, eCommit]
theorem both8_mem {r : RepoD} {a b : Int} {i : Nat} : ∀ x ∈ both8 r a b i, 0 ≤ x ∧ x < r.commits.length := fun x hx => by
  unfold both8 at hx
  obtain ⟨j, q1, _, rfl⟩ := listT_mem.1 (List.mem_of_mem_take (List.mem_filter.1 hx).1)
  rw [anc_len] at q1
  omega
theorem bases8_mem {r : RepoD} {a b : Int} : ∀ x ∈ bases8 r a b, 0 ≤ x ∧ x < r.commits.length := fun x hx => by
  unfold bases8 baseF at hx
  obtain ⟨j, hj, rfl⟩ := List.mem_map.1 hx
  have hj := List.mem_range.1 (List.mem_filter.1 hj).1
  rw [List.getD_eq_getElem?_getD, List.getElem?_eq_getElem hj, Option.getD_some]
  exact both8_mem _ (List.getElem_mem hj)
theorem bases8_len {r : RepoD} (h : repoI r = true) {a b : Int} : (bases8 r a b).length ≤ 16 := by
  have h6 := repo_n h
  have h1 := listF_len (anc r a) (anc r a).length
  unfold bases8 baseF
  rw [List.length_map]
  refine Nat.le_trans (List.length_filter_le _ _) ?_
  rw [List.length_range]
  unfold both8
  refine Nat.le_trans (List.length_filter_le _ _) ?_
  rw [anc_len] at h1
  simp only [List.length_take, listT, anc_len]; omega
theorem base9_tree {r : RepoD} (h : repoS r = true) (a b : Int) : treeS (base9 r a b) = true := by
  unfold base9
  split
  · rfl
  · exact repoS_treeAt h _
theorem ahead10_tree {r : RepoD} (h : repoS r = true) (c : Int) : treeS (ahead10 r c) = true := by
  unfold ahead10
  split
  · rfl
  · exact repoS_treeAt h _
theorem treeS_szT {t : List FileD} (h : treeS t = true) : szT t := by
  obtain ⟨h1, h2⟩ := treeS_le t h
  exact ⟨by omega, h2⟩
def cL10Ahead : Con := .fn 26 (RepoD × Int) (fun a => [vRepo a.1, .int .i64 a.2]) (fun a => repoS a.1 = true ∧ 0 ≤ a.2 ∧ a.2 < a.1.commits.length) (fun a => .sl true 2 (eFiles (ahead10 a.1 a.2))) (fun _ => [])
set_option maxHeartbeats 4000000 in
theorem l10Ahead_has : Has Tryz.prog 98 cL10Ahead := by
  refine has_walk mixed tTabB_ok (l := []) HasL.nil [0, 1, 2, 4] ((fun a n (_ : Nat) => (fun _ => noInv) a n)) [] Tryz.func98 (by kernel_rfl) (code := _) (by unfold Tryz.f98; rfl) (by kernel_rfl) (by decide) (fun _ => ⟨(), trivial⟩) (by intro h; first | exact fun _ => rfl | cases h) (by kernel_rfl) ?_
  intro a ha
  obtain ⟨r, c⟩ := a
  obtain ⟨h1, h2, h3⟩ : repoS r = true ∧ 0 ≤ c ∧ c < r.commits.length := ha
  simp -implicitDefEqProofs [cL10Ahead, Con.fn, tTabB, tTab, bRepo_def]
  try dsimp only
  simp -implicitDefEqProofs only [and_assoc, exists_eq_left, exists_and_left, RepoD.ex1, RepoD.eta]
  have cg := cget (r := r) h2 h3
  have hp : ahead10 r c = match (r.commits.getD c.toNat default).parents with | [] => [] | p :: _ => treeAt r p := rfl
  have hmem : ∀ p ∈ (r.commits.getD c.toNat default).parents, 0 ≤ p ∧ p < r.commits.length := fun p hp => by
    have hc : c.toNat < r.commits.length := by omega
    have := (repo_use (r := r) (by rw [repo_eq]; exact h1) hc).2.1 p (by simpa [List.getD_eq_getElem?_getD, hc] using hp)
    omega
  have hl : (r.commits.getD c.toNat default).parents.length ≤ 1000 := by
    have hc : c.toNat < r.commits.length := by omega
    have := (repo_use (r := r) (by rw [repo_eq]; exact h1) hc).1
    simpa [List.getD_eq_getElem?_getD, hc] using by omega
  rw [cg]
  generalize (r.commits.getD c.toNat default).parents = P at *
  cases P with
  | nil => simp -implicitDefEqProofs [D.asRows, hp]; omega
  | cons p P =>
    have hq := hmem p (by simp)
    have cp := cget hq.1 hq.2
    have hp : ahead10 r c = treeAt r p := hp
    simp -implicitDefEqProofs [D.asRows, hp, eInts, eInt, D.asInt, cp]
    exact ⟨h2, h3, fun _ _ _ => ⟨h2, h3, fun _ _ => hq⟩⟩

end Vx
end Go.Proofs.YtnmmlcjnjnooaaaGreatDoor
/-
  Contracts: sizes of repositories.
-/
namespace Go.Proofs.YtnmmlcjnjnooaaaGreatDoor
namespace Vx
open Go.RowKit

def szI (a : List Int) (l : Int) : Int := if l - a.length < 0 then -1 else l - a.length
theorem szI_le {a : List Int} {l : Int} (h : 0 ≤ l) : szI a l ≤ l := by unfold szI; split <;> omega
def cSzIntS : Con := .fn 12 (List Int × Int) (fun a => [.sl true 1 (eInts a.1), .int .i64 a.2]) (fun a => 0 ≤ a.2 ∧ a.2 ≤ 1048576) (fun a => .int .i64 (szI a.1 a.2)) (fun _ => [])
set_option maxHeartbeats 4000000 in
theorem szIntS_has : Has Tryz.prog 215 cSzIntS := by
  refine has_walk mixed tTab_ok (l := []) HasL.nil [0, 1, 4] ((fun a n (_ : Nat) => (fun _ => noInv) a n)) [] Tryz.func215 (by kernel_rfl) (code := _) (by unfold Tryz.f215; rfl) (by kernel_rfl) (by decide) (fun _ => ⟨(), trivial⟩) (by intro h; first | exact fun _ => rfl | cases h) (by kernel_rfl) ?_
  intro a ha
  obtain ⟨f, n⟩ := a
  obtain ⟨h1, h2⟩ : 0 ≤ n ∧ n ≤ 1048576 := ha
  simp -implicitDefEqProofs [cSzIntS, Con.fn, tTab]
  try dsimp only
  try simp +contextual [eStr, eFile, cast_succ, cast_eq, cast_zero, List.getElem?_eq_getElem, eStrs_set, eFiles_set, eStrs_rep, eFiles_rep, ← eStrs_append, ← eFiles_append, eStrs_take, eStrs_drop, eFiles_take, eFiles_drop, eStrs_snoc, eFiles_snoc, and_assoc]
  repeat' (first | intro _ | apply And.intro)
  all_goals first | omega | grind [all_take, szI]

def szHd (f : HeadD) (l : Int) : Int := if l - f.name.length < 0 then -1 else l - f.name.length
theorem szHd_le {f : HeadD} {l : Int} (h : 0 ≤ l) : szHd f l ≤ l := by unfold szHd; split <;> omega
def cSzHead : Con := .fn 13 (HeadD × Int) (fun a => [.agg [.str a.1.name, .int .i64 a.1.at_], .int .i64 a.2]) (fun a => 0 ≤ a.2 ∧ a.2 ≤ 1048576) (fun a => .int .i64 (szHd a.1 a.2)) (fun _ => [])
set_option maxHeartbeats 4000000 in
theorem szHead_has : Has Tryz.prog 165 cSzHead := by
  refine has_walk mixed tTab_ok (l := []) HasL.nil [0, 1, 2, 4] ((fun a n (_ : Nat) => (fun _ => noInv) a n)) [] Tryz.func165 (by kernel_rfl) (code := _) (by unfold Tryz.f165; rfl) (by kernel_rfl) (by decide) (fun _ => ⟨(), trivial⟩) (by intro h; first | exact fun _ => rfl | cases h) (by kernel_rfl) ?_
  intro a ha
  obtain ⟨f, n⟩ := a
  obtain ⟨h1, h2⟩ : 0 ≤ n ∧ n ≤ 1048576 := ha
  simp -implicitDefEqProofs [cSzHead, Con.fn, tTab]
  try dsimp only
  try simp +contextual [eStr, eFile, cast_succ, cast_eq, cast_zero, List.getElem?_eq_getElem, eStrs_set, eFiles_set, eStrs_rep, eFiles_rep, ← eStrs_append, ← eFiles_append, eStrs_take, eStrs_drop, eFiles_take, eFiles_drop, eStrs_snoc, eFiles_snoc, and_assoc]
  repeat' (first | intro _ | apply And.intro)
  all_goals first | omega | grind [all_take, szHd]

def szHL : List HeadD → Int → Int
  | [], l => l
  | f :: r, l => if szHd f l < 0 then -1 else szHL r (szHd f l)
def szHeads (a : List HeadD) (l : Int) : Int := if l - a.length < 0 then -1 else szHL a (l - a.length)
theorem szHL_step {a : List HeadD} {i : Nat} {l : Int} (h : i < a.length) : szHL (a.drop i) l = if szHd a[i] l < 0 then -1 else szHL (a.drop (i + 1)) (szHd a[i] l) := by
  rw [List.drop_eq_getElem_cons h]; rfl
theorem szHL_end {a : List HeadD} {i : Nat} {l : Int} (h : a.length ≤ i) : szHL (a.drop i) l = l := by
  rw [List.drop_eq_nil_of_le h]; rfl
def cSzHeadS : Con := .fn 27 (List HeadD × Int) (fun a => [.sl true 2 (eHeads a.1), .int .i64 a.2]) (fun a => 0 ≤ a.2 ∧ a.2 ≤ 1048576) (fun a => .int .i64 (szHeads a.1 a.2)) (fun _ => [])
set_option maxHeartbeats 4000000 in
theorem szHeadS_has : Has Tryz.prog 96 cSzHeadS := by
  refine has_walk mixed tTab_ok (l := [(165, cSzHead)]) (HasL.cons szHead_has HasL.nil) [0, 1, 4, 5] ((fun a n (_ : Nat) => (fun a _ => ⟨Nat × Int, fun t => ⟨[(0, true, .sl true 2 (eHeads a.1)), (1, true, .int .i64 t.2), (4, true, .int .i64 0), (5, true, .int .i64 t.1)], []⟩, fun t => t.1 ≤ a.1.length ∧ 0 ≤ t.2 ∧ t.2 ≤ 1048576 ∧ szHL (a.1.drop t.1) t.2 = szHeads a.1 a.2, fun t => a.1.length - t.1⟩) a n)) [] Tryz.func96 (by kernel_rfl) (code := _) (by unfold Tryz.f96; rfl) (by kernel_rfl) (by decide) (fun _ => ⟨(), trivial⟩) (by intro h; first | exact fun _ => rfl | cases h) (by kernel_rfl) ?_
  intro a ha
  obtain ⟨l, n⟩ := a
  obtain ⟨h1, h2⟩ : 0 ≤ n ∧ n ≤ 1048576 := ha
  have hle : ∀ (f : HeadD) (l : Int), 0 ≤ l → szHd f l ≤ l := fun f l => szHd_le
  simp -implicitDefEqProofs [cSzHeadS, Con.fn, tTab, cSzHead]
  try dsimp only
  try simp +contextual [eStr, eFile, cast_succ, cast_eq, cast_zero, List.getElem?_eq_getElem, eStrs_set, eFiles_set, eStrs_rep, eFiles_rep, ← eStrs_append, ← eFiles_append, eStrs_take, eStrs_drop, eFiles_take, eFiles_drop, eStrs_snoc, eFiles_snoc, and_assoc, eInt, eHead, eCommit, lCommit, eInts_set, eInts_rep, eInts_take, eInts_drop, eInts_snoc, ← eInts_append, eHeads_set, eHeads_rep, eHeads_take, eHeads_drop, eHeads_snoc, ← eHeads_append, eCommits_set, eCommits_rep, eCommits_take, eCommits_drop, eCommits_snoc, ← eCommits_append, ← HeadD.eq_iff]
  repeat' (first | intro _ | apply And.intro)
  all_goals first | omega | grind [all_take, szHeads, szHL_step, szHL_end]

theorem szFL_leD : ∀ {a : List FileD} {l : Int}, 0 ≤ l → szFL a l ≤ l := by
  intro a
  induction a with
  | nil => intro l _; exact Int.le_refl l
  | cons s r ih =>
    intro l h
    simp only [szFL]
    split
    · omega
    · have h1 := szF_le (f := s) h
      have := ih (l := szF s l) (by omega); omega
theorem szFs_le {a : List FileD} {l : Int} (h : 0 ≤ l) : szFiles a l ≤ l := by
  unfold szFiles
  split
  · omega
  · have := szFL_leD (a := a) (l := l - a.length) (by omega); omega

def szCm (c : CommitD) (l : Int) : Int :=
  if szI c.parents l < 0 then -1 else if szI c.parents l - c.who.length < 0 then -1 else if szFiles c.tree (szI c.parents l - c.who.length) < 0 then -1 else szFiles c.tree (szI c.parents l - c.who.length)
theorem szCm_le {c : CommitD} {l : Int} (h : 0 ≤ l) : szCm c l ≤ l := by
  unfold szCm
  have h1 := szI_le (a := c.parents) h
  split
  · omega
  · split
    · omega
    · split
      · omega
      · have := szFs_le (a := c.tree) (l := szI c.parents l - c.who.length) (by omega); omega
def cSzCommit : Con := .fn 25 (CommitD × Int) (fun a => [.agg [.sl true 1 (eInts a.1.parents), .str a.1.who, .sl true 2 (eFiles a.1.tree)], .int .i64 a.2]) (fun a => 0 ≤ a.2 ∧ a.2 ≤ 1048576) (fun a => .int .i64 (szCm a.1 a.2)) (fun _ => [])
set_option maxHeartbeats 4000000 in
theorem szCommit_has : Has Tryz.prog 164 cSzCommit := by
  refine has_walk mixed tTab_ok (l := [(215, cSzIntS), (216, cSzFileS)]) (HasL.cons szIntS_has (HasL.cons szFileS_has HasL.nil)) [0, 1, 2, 4] ((fun a n (_ : Nat) => (fun _ => noInv) a n)) [] Tryz.func164 (by kernel_rfl) (code := _) (by unfold Tryz.f164; rfl) (by kernel_rfl) (by decide) (fun _ => ⟨(), trivial⟩) (by intro h; first | exact fun _ => rfl | cases h) (by kernel_rfl) ?_
  intro a ha
  obtain ⟨f, n⟩ := a
  obtain ⟨h1, h2⟩ : 0 ≤ n ∧ n ≤ 1048576 := ha
  have h3 := szI_le (a := f.parents) h1
  simp -implicitDefEqProofs [cSzCommit, Con.fn, tTab, cSzIntS, cSzFileS]
  try dsimp only
  try simp +contextual [eStr, eFile, cast_succ, cast_eq, cast_zero, List.getElem?_eq_getElem, eStrs_set, eFiles_set, eStrs_rep, eFiles_rep, ← eStrs_append, ← eFiles_append, eStrs_take, eStrs_drop, eFiles_take, eFiles_drop, eStrs_snoc, eFiles_snoc, and_assoc]
  repeat' (first | intro _ | apply And.intro)
  all_goals first | omega | grind [all_take, szCm]

def szCL : List CommitD → Int → Int
  | [], l => l
  | f :: r, l => if szCm f l < 0 then -1 else szCL r (szCm f l)
def szCommits (a : List CommitD) (l : Int) : Int := if l - a.length < 0 then -1 else szCL a (l - a.length)
theorem szCL_step {a : List CommitD} {i : Nat} {l : Int} (h : i < a.length) : szCL (a.drop i) l = if szCm a[i] l < 0 then -1 else szCL (a.drop (i + 1)) (szCm a[i] l) := by
  rw [List.drop_eq_getElem_cons h]; rfl
theorem szCL_end {a : List CommitD} {i : Nat} {l : Int} (h : a.length ≤ i) : szCL (a.drop i) l = l := by
  rw [List.drop_eq_nil_of_le h]; rfl
theorem szCL_le : ∀ {a : List CommitD} {l : Int}, 0 ≤ l → szCL a l ≤ l := by
  intro a
  induction a with
  | nil => intro l _; exact Int.le_refl l
  | cons s r ih =>
    intro l h
    simp only [szCL]
    split
    · omega
    · have h1 := szCm_le (c := s) h
      have := ih (l := szCm s l) (by omega); omega
theorem szCommits_le {a : List CommitD} {l : Int} (h : 0 ≤ l) : szCommits a l ≤ l := by
  unfold szCommits
  split
  · omega
  · have := szCL_le (a := a) (l := l - a.length) (by omega); omega
def cSzCommitS : Con := .fn 27 (List CommitD × Int) (fun a => [.sl true 3 (lCommits a.1), .int .i64 a.2]) (fun a => 0 ≤ a.2 ∧ a.2 ≤ 1048576) (fun a => .int .i64 (szCommits a.1 a.2)) (fun _ => [])
set_option maxHeartbeats 4000000 in
theorem szCommitS_has : Has Tryz.prog 95 cSzCommitS := by
  refine has_walk mixed tTab_ok (l := [(164, cSzCommit)]) (HasL.cons szCommit_has HasL.nil) [0, 1, 4, 5] ((fun a n (_ : Nat) => (fun a _ => ⟨Nat × Int, fun t => ⟨[(0, true, .sl true 3 (lCommits a.1)), (1, true, .int .i64 t.2), (4, true, .int .i64 0), (5, true, .int .i64 t.1)], []⟩, fun t => t.1 ≤ a.1.length ∧ 0 ≤ t.2 ∧ t.2 ≤ 1048576 ∧ szCL (a.1.drop t.1) t.2 = szCommits a.1 a.2, fun t => a.1.length - t.1⟩) a n)) [] Tryz.func95 (by kernel_rfl) (code := _) (by unfold Tryz.f95; rfl) (by kernel_rfl) (by decide) (fun _ => ⟨(), trivial⟩) (by intro h; first | exact fun _ => rfl | cases h) (by kernel_rfl) ?_
  intro a ha
  obtain ⟨l, n⟩ := a
  obtain ⟨h1, h2⟩ : 0 ≤ n ∧ n ≤ 1048576 := ha
  have hle : ∀ (f : CommitD) (l : Int), 0 ≤ l → szCm f l ≤ l := fun f l => szCm_le
  simp -implicitDefEqProofs [cSzCommitS, Con.fn, tTab, cSzCommit]
  try dsimp only
  try simp +contextual [eStr, eFile, cast_succ, cast_eq, cast_zero, List.getElem?_eq_getElem, eStrs_set, eFiles_set, eStrs_rep, eFiles_rep, ← eStrs_append, ← eFiles_append, eStrs_take, eStrs_drop, eFiles_take, eFiles_drop, eStrs_snoc, eFiles_snoc, and_assoc, eInt, eHead, eCommit, lCommit, eInts_set, eInts_rep, eInts_take, eInts_drop, eInts_snoc, ← eInts_append, eHeads_set, eHeads_rep, eHeads_take, eHeads_drop, eHeads_snoc, ← eHeads_append, eCommits_set, eCommits_rep, eCommits_take, eCommits_drop, eCommits_snoc, ← eCommits_append, ← CommitD.eq_iff]
  repeat' (first | intro _ | apply And.intro)
  all_goals first | omega | grind [all_take, szCommits, szCL_step, szCL_end]

def szRp (r : RepoD) (l : Int) : Int := if szCommits r.commits l < 0 then -1 else if szHeads r.heads (szCommits r.commits l) < 0 then -1 else szHeads r.heads (szCommits r.commits l)
def cSzRepo : Con := .fn 18 (RepoD × Int) (fun a => [lRepo a.1, .int .i64 a.2]) (fun a => 0 ≤ a.2 ∧ a.2 ≤ 1048576) (fun a => .int .i64 (szRp a.1 a.2)) (fun _ => [])
set_option maxHeartbeats 4000000 in
theorem szRepo_has : Has Tryz.prog 28 cSzRepo := by
  refine has_walk mixed tTab_ok (l := [(95, cSzCommitS), (96, cSzHeadS)]) (HasL.cons szCommitS_has (HasL.cons szHeadS_has HasL.nil)) [0, 1, 2, 4] ((fun a n (_ : Nat) => (fun _ => noInv) a n)) [] Tryz.func28 (by kernel_rfl) (code := _) (by unfold Tryz.f28; rfl) (by kernel_rfl) (by decide) (fun _ => ⟨(), trivial⟩) (by intro h; first | exact fun _ => rfl | cases h) (by kernel_rfl) ?_
  intro a ha
  obtain ⟨f, n⟩ := a
  obtain ⟨h1, h2⟩ : 0 ≤ n ∧ n ≤ 1048576 := ha
  have h3 := szCommits_le (a := f.commits) h1
  simp -implicitDefEqProofs [cSzRepo, Con.fn, tTab, cSzCommitS, cSzHeadS]
  try dsimp only
  try simp +contextual [eStr, eFile, cast_succ, cast_eq, cast_zero, List.getElem?_eq_getElem, eStrs_set, eFiles_set, eStrs_rep, eFiles_rep, ← eStrs_append, ← eFiles_append, eStrs_take, eStrs_drop, eFiles_take, eFiles_drop, eStrs_snoc, eFiles_snoc, and_assoc]
  repeat' (first | intro _ | apply And.intro)
  all_goals first | omega | grind [all_take, szRp]

end Vx
end Go.Proofs.YtnmmlcjnjnooaaaGreatDoor
/-
  Contracts: comparisons of repositories.
-/
namespace Go.Proofs.YtnmmlcjnjnooaaaGreatDoor
namespace Vx
open Go.RowKit

def cEqIntS : Con := .fn 26 (List Int × List Int) (fun a => [.sl true 1 (eInts a.1), .sl true 1 (eInts a.2)]) (fun _ => True) (fun a => .bool (decide (a.1 = a.2))) (fun _ => [])
set_option maxHeartbeats 4000000 in
theorem eqIntS_has : Has Tryz.prog 221 cEqIntS := by
  refine has_walk mixed tTab_ok (l := []) HasL.nil [0, 1, 2, 3, 4, 5] ((fun a n (_ : Nat) => (fun a _ => ⟨Nat, fun i => ⟨[(0, true, .sl true 1 (eInts a.1)), (1, true, .sl true 1 (eInts a.2)), (4, true, .bool false), (5, true, .int .i64 i)], []⟩, fun i => i ≤ a.1.length ∧ a.1.length = a.2.length ∧ a.1.take i = a.2.take i, fun i => a.1.length - i⟩) a n)) [] Tryz.func221 (by kernel_rfl) (code := _) (by unfold Tryz.f221; rfl) (by kernel_rfl) (by decide) (fun _ => ⟨(), trivial⟩) (by intro h; first | exact fun _ => rfl | cases h) (by kernel_rfl) ?_
  intro a _
  obtain ⟨l, r⟩ := a
  simp -implicitDefEqProofs [cEqIntS, Con.fn, tTab]
  try dsimp only
  try simp +contextual [eStr, eFile, cast_succ, cast_eq, cast_zero, List.getElem?_eq_getElem, eStrs_set, eFiles_set, eStrs_rep, eFiles_rep, ← eStrs_append, ← eFiles_append, eStrs_take, eStrs_drop, eFiles_take, eFiles_drop, eStrs_snoc, eFiles_snoc, and_assoc, eInt, eHead, eCommit, lCommit, eInts_set, eInts_rep, eInts_take, eInts_drop, eInts_snoc, ← eInts_append, eHeads_set, eHeads_rep, eHeads_take, eHeads_drop, eHeads_snoc, ← eHeads_append, eCommits_set, eCommits_rep, eCommits_take, eCommits_drop, eCommits_snoc, ← eCommits_append]
  repeat' (first | intro _ | apply And.intro)
  all_goals first | omega | grind [all_take, eq_take, eq_end]

def cEqHead : Con := .fn 15 (HeadD × HeadD) (fun a => [.agg [.str a.1.name, .int .i64 a.1.at_], .agg [.str a.2.name, .int .i64 a.2.at_]]) (fun _ => True) (fun a => .bool (decide (a.1 = a.2))) (fun _ => [])
set_option maxHeartbeats 4000000 in
theorem eqHead_has : Has Tryz.prog 174 cEqHead := by
  refine has_walk mixed tTab_ok (l := []) HasL.nil [0, 1, 2, 3, 4] ((fun a n (_ : Nat) => (fun _ => noInv) a n)) [] Tryz.func174 (by kernel_rfl) (code := _) (by unfold Tryz.f174; rfl) (by kernel_rfl) (by decide) (fun _ => ⟨(), trivial⟩) (by intro h; first | exact fun _ => rfl | cases h) (by kernel_rfl) ?_
  intro a _
  obtain ⟨⟨p, x⟩, ⟨q, y⟩⟩ := a
  simp -implicitDefEqProofs [cEqHead, Con.fn, tTab]
  try dsimp only
  try simp +contextual [eStr, eFile, cast_succ, cast_eq, cast_zero, List.getElem?_eq_getElem, eStrs_set, eFiles_set, eStrs_rep, eFiles_rep, ← eStrs_append, ← eFiles_append, eStrs_take, eStrs_drop, eFiles_take, eFiles_drop, eStrs_snoc, eFiles_snoc, and_assoc]
  repeat' (first | intro _ | apply And.intro)
  all_goals first | omega | grind [all_take]

def cEqHeadS : Con := .fn 27 (List HeadD × List HeadD) (fun a => [.sl true 2 (eHeads a.1), .sl true 2 (eHeads a.2)]) (fun _ => True) (fun a => .bool (decide (a.1 = a.2))) (fun _ => [])
set_option maxHeartbeats 4000000 in
theorem eqHeadS_has : Has Tryz.prog 107 cEqHeadS := by
  refine has_walk mixed tTab_ok (l := [(174, cEqHead)]) (HasL.cons eqHead_has HasL.nil) [0, 1, 2, 3, 4, 5] ((fun a n (_ : Nat) => (fun a _ => ⟨Nat, fun i => ⟨[(0, true, .sl true 2 (eHeads a.1)), (1, true, .sl true 2 (eHeads a.2)), (4, true, .bool false), (5, true, .int .i64 i)], []⟩, fun i => i ≤ a.1.length ∧ a.1.length = a.2.length ∧ a.1.take i = a.2.take i, fun i => a.1.length - i⟩) a n)) [] Tryz.func107 (by kernel_rfl) (code := _) (by unfold Tryz.f107; rfl) (by kernel_rfl) (by decide) (fun _ => ⟨(), trivial⟩) (by intro h; first | exact fun _ => rfl | cases h) (by kernel_rfl) ?_
  intro a _
  obtain ⟨l, r⟩ := a
  simp -implicitDefEqProofs [cEqHeadS, Con.fn, tTab, cEqHead]
  try dsimp only
  try simp +contextual [eStr, eFile, cast_succ, cast_eq, cast_zero, List.getElem?_eq_getElem, eStrs_set, eFiles_set, eStrs_rep, eFiles_rep, ← eStrs_append, ← eFiles_append, eStrs_take, eStrs_drop, eFiles_take, eFiles_drop, eStrs_snoc, eFiles_snoc, and_assoc, eInt, eHead, eCommit, lCommit, eInts_set, eInts_rep, eInts_take, eInts_drop, eInts_snoc, ← eInts_append, eHeads_set, eHeads_rep, eHeads_take, eHeads_drop, eHeads_snoc, ← eHeads_append, eCommits_set, eCommits_rep, eCommits_take, eCommits_drop, eCommits_snoc, ← eCommits_append, ← HeadD.eq_iff]
  repeat' (first | intro _ | apply And.intro)
  all_goals first | omega | grind [all_take, eq_take, eq_end]

def cEqCommit : Con := .fn 22 (CommitD × CommitD) (fun a => [.agg [.sl true 1 (eInts a.1.parents), .str a.1.who, .sl true 2 (eFiles a.1.tree)], .agg [.sl true 1 (eInts a.2.parents), .str a.2.who, .sl true 2 (eFiles a.2.tree)]]) (fun _ => True) (fun a => .bool (decide (a.1 = a.2))) (fun _ => [])
set_option maxHeartbeats 4000000 in
theorem eqCommit_has : Has Tryz.prog 173 cEqCommit := by
  refine has_walk mixed tTab_ok (l := [(221, cEqIntS), (222, cEqFileS)]) (HasL.cons eqIntS_has (HasL.cons eqFileS_has HasL.nil)) [0, 1, 2, 3, 4] ((fun a n (_ : Nat) => (fun _ => noInv) a n)) [] Tryz.func173 (by kernel_rfl) (code := _) (by unfold Tryz.f173; rfl) (by kernel_rfl) (by decide) (fun _ => ⟨(), trivial⟩) (by intro h; first | exact fun _ => rfl | cases h) (by kernel_rfl) ?_
  intro a _
  obtain ⟨⟨p, x, s⟩, ⟨q, y, t⟩⟩ := a
  simp -implicitDefEqProofs [cEqCommit, Con.fn, tTab, cEqIntS, cEqFileS]
  try dsimp only
  try simp +contextual [eStr, eFile, cast_succ, cast_eq, cast_zero, List.getElem?_eq_getElem, eStrs_set, eFiles_set, eStrs_rep, eFiles_rep, ← eStrs_append, ← eFiles_append, eStrs_take, eStrs_drop, eFiles_take, eFiles_drop, eStrs_snoc, eFiles_snoc, and_assoc]
  repeat' (first | intro _ | apply And.intro)
  all_goals first | omega | grind [all_take]

def cEqCommitS : Con := .fn 27 (List CommitD × List CommitD) (fun a => [.sl true 3 (eCommits a.1), .sl true 3 (eCommits a.2)]) (fun _ => True) (fun a => .bool (decide (a.1 = a.2))) (fun _ => [])
set_option maxHeartbeats 4000000 in
theorem eqCommitS_has : Has Tryz.prog 106 cEqCommitS := by
  refine has_walk mixed tTab_ok (l := [(173, cEqCommit)]) (HasL.cons eqCommit_has HasL.nil) [0, 1, 2, 3, 4, 5] ((fun a n (_ : Nat) => (fun a _ => ⟨Nat, fun i => ⟨[(0, true, .sl true 3 (eCommits a.1)), (1, true, .sl true 3 (eCommits a.2)), (4, true, .bool false), (5, true, .int .i64 i)], []⟩, fun i => i ≤ a.1.length ∧ a.1.length = a.2.length ∧ a.1.take i = a.2.take i, fun i => a.1.length - i⟩) a n)) [] Tryz.func106 (by kernel_rfl) (code := _) (by unfold Tryz.f106; rfl) (by kernel_rfl) (by decide) (fun _ => ⟨(), trivial⟩) (by intro h; first | exact fun _ => rfl | cases h) (by kernel_rfl) ?_
  intro a _
  obtain ⟨l, r⟩ := a
  simp -implicitDefEqProofs [cEqCommitS, Con.fn, tTab, cEqCommit]
  try dsimp only
  try simp +contextual [eStr, eFile, cast_succ, cast_eq, cast_zero, List.getElem?_eq_getElem, eStrs_set, eFiles_set, eStrs_rep, eFiles_rep, ← eStrs_append, ← eFiles_append, eStrs_take, eStrs_drop, eFiles_take, eFiles_drop, eStrs_snoc, eFiles_snoc, and_assoc, eInt, eHead, eCommit, lCommit, eInts_set, eInts_rep, eInts_take, eInts_drop, eInts_snoc, ← eInts_append, eHeads_set, eHeads_rep, eHeads_take, eHeads_drop, eHeads_snoc, ← eHeads_append, eCommits_set, eCommits_rep, eCommits_take, eCommits_drop, eCommits_snoc, ← eCommits_append, ← CommitD.eq_iff]
  repeat' (first | intro _ | apply And.intro)
  all_goals first | omega | grind [all_take, eq_take, eq_end]

def cEqRepo : Con := .fn 17 (RepoD × RepoD) (fun a => [vRepo a.1, vRepo a.2]) (fun _ => True) (fun a => .bool (decide (a.1 = a.2))) (fun _ => [])
set_option maxHeartbeats 4000000 in
theorem eqRepo_has : Has Tryz.prog 32 cEqRepo := by
  refine has_walk mixed tTab_ok (l := [(106, cEqCommitS), (107, cEqHeadS)]) (HasL.cons eqCommitS_has (HasL.cons eqHeadS_has HasL.nil)) [0, 1, 2, 3, 4] ((fun a n (_ : Nat) => (fun _ => noInv) a n)) [] Tryz.func32 (by kernel_rfl) (code := _) (by unfold Tryz.f32; rfl) (by kernel_rfl) (by decide) (fun _ => ⟨(), trivial⟩) (by intro h; first | exact fun _ => rfl | cases h) (by kernel_rfl) ?_
  intro a _
  obtain ⟨⟨p, x⟩, ⟨q, y⟩⟩ := a
  simp -implicitDefEqProofs [cEqRepo, Con.fn, tTab, cEqCommitS, cEqHeadS]
  try dsimp only
  try simp +contextual [eStr, eFile, cast_succ, cast_eq, cast_zero, List.getElem?_eq_getElem, eStrs_set, eFiles_set, eStrs_rep, eFiles_rep, ← eStrs_append, ← eFiles_append, eStrs_take, eStrs_drop, eFiles_take, eFiles_drop, eStrs_snoc, eFiles_snoc, and_assoc]
  repeat' (first | intro _ | apply And.intro)
  all_goals first | omega | grind [all_take]

end Vx
end Go.Proofs.YtnmmlcjnjnooaaaGreatDoor
/-
  Laws: FnExactMarksOk.
-/
namespace Go.Proofs.YtnmmlcjnjnooaaaGreatDoor
namespace Vx
open Go.RowKit
set_option maxRecDepth 8000

theorem szCm_ok {c : CommitD} {l : Int} (hl : 0 ≤ l) (h : 0 ≤ szCm c l) : (c.parents.length : Int) ≤ l ∧ (c.who.length : Int) ≤ l ∧ (c.tree.length : Int) ≤ l ∧ ∀ f ∈ c.tree, (f.path.length : Int) ≤ l ∧ (f.text.length : Int) ≤ l ∧ ∀ s ∈ f.text, (s.length : Int) ≤ l := by
  unfold szCm at h
  have h0 := szI_le (a := c.parents) hl
  split at h
  · omega
  · split at h
    · omega
    · split at h
      · omega
      · rename_i h1 h2 h3
        obtain ⟨q1, q2⟩ := szFiles_ok (Int.not_lt.1 h3)
        have hp : (c.parents.length : Int) ≤ l := by
          unfold szI at h1
          split at h1 <;> omega
        refine ⟨hp, by omega, by omega, fun f hf => ?_⟩
        obtain ⟨r1, r2, r3⟩ := q2 f hf
        exact ⟨by omega, by omega, fun s hs => by have := r3 s hs; omega⟩
theorem szCL_ok : ∀ {a : List CommitD} {l : Int}, 0 ≤ l → 0 ≤ szCL a l → ∀ c ∈ a, (c.parents.length : Int) ≤ l ∧ (c.who.length : Int) ≤ l ∧ (c.tree.length : Int) ≤ l ∧ ∀ f ∈ c.tree, (f.path.length : Int) ≤ l ∧ (f.text.length : Int) ≤ l ∧ ∀ s ∈ f.text, (s.length : Int) ≤ l := by
  intro a
  induction a with
  | nil => intro l _ _ c hc; cases hc
  | cons x r ih =>
    intro l hl h c hc
    simp only [szCL] at h
    split at h
    · omega
    · rename_i h0
      rcases List.mem_cons.1 hc with rfl | hc
      · exact szCm_ok hl (by omega)
      · have hle := szCm_le (c := x) hl
        obtain ⟨h1, h2, h3, h4⟩ := ih (by omega) h c hc
        refine ⟨by omega, by omega, by omega, fun f hf => ?_⟩
        obtain ⟨r1, r2, r3⟩ := h4 f hf
        exact ⟨by omega, by omega, fun s hs => by have := r3 s hs; omega⟩
theorem szCommits_ok {a : List CommitD} {l : Int} (h : 0 ≤ szCommits a l) : (a.length : Int) ≤ l ∧ ∀ c ∈ a, (c.parents.length : Int) ≤ l ∧ (c.who.length : Int) ≤ l ∧ (c.tree.length : Int) ≤ l ∧ ∀ f ∈ c.tree, (f.path.length : Int) ≤ l ∧ (f.text.length : Int) ≤ l ∧ ∀ s ∈ f.text, (s.length : Int) ≤ l := by
  unfold szCommits at h
  split at h
  · omega
  · refine ⟨by omega, fun c hc => ?_⟩
    obtain ⟨h1, h2, h3, h4⟩ := szCL_ok (by omega) h c hc
    refine ⟨by omega, by omega, by omega, fun f hf => ?_⟩
    obtain ⟨r1, r2, r3⟩ := h4 f hf
    exact ⟨by omega, by omega, fun s hs => by have := r3 s hs; omega⟩
theorem szHL_le : ∀ {a : List HeadD} {l : Int}, 0 ≤ l → szHL a l ≤ l := by
  intro a
  induction a with
  | nil => intro l _; exact Int.le_refl l
  | cons s r ih =>
    intro l h
    simp only [szHL]
    split
    · omega
    · have h1 := szHd_le (f := s) h
      have := ih (l := szHd s l) (by omega); omega
theorem szHeads_le {a : List HeadD} {l : Int} (h : 0 ≤ l) : szHeads a l ≤ l := by
  unfold szHeads
  split
  · omega
  · have := szHL_le (a := a) (l := l - a.length) (by omega); omega
theorem szHL_ok : ∀ {a : List HeadD} {l : Int}, 0 ≤ l → 0 ≤ szHL a l → ∀ h ∈ a, (h.name.length : Int) ≤ l := by
  intro a
  induction a with
  | nil => intro l _ _ c hc; cases hc
  | cons x r ih =>
    intro l hl h c hc
    simp only [szHL] at h
    split at h
    · omega
    · rename_i h0
      have hle := szHd_le (f := x) hl
      rcases List.mem_cons.1 hc with rfl | hc
      · unfold szHd at h0
        split at h0 <;> omega
      · have := ih (by omega) h c hc; omega
theorem szHeads_ok {a : List HeadD} {l : Int} (h : 0 ≤ szHeads a l) : (a.length : Int) ≤ l ∧ ∀ h ∈ a, (h.name.length : Int) ≤ l := by
  unfold szHeads at h
  split at h
  · omega
  · exact ⟨by omega, fun c hc => by have := szHL_ok (by omega) h c hc; omega⟩
theorem szRp_le {r : RepoD} {l : Int} (h : 0 ≤ l) : szRp r l ≤ l := by
  unfold szRp
  have h1 := szCommits_le (a := r.commits) h
  split
  · omega
  · split
    · omega
    · have := szHeads_le (a := r.heads) (l := szCommits r.commits l) (by omega); omega
theorem szRp_ok {r : RepoD} {l : Int} (hl : 0 ≤ l) (h : 0 ≤ szRp r l) : ((r.commits.length : Int) ≤ l ∧ ∀ c ∈ r.commits, (c.parents.length : Int) ≤ l ∧ (c.who.length : Int) ≤ l ∧ (c.tree.length : Int) ≤ l ∧ ∀ f ∈ c.tree, (f.path.length : Int) ≤ l ∧ (f.text.length : Int) ≤ l ∧ ∀ s ∈ f.text, (s.length : Int) ≤ l) ∧
    (r.heads.length : Int) ≤ l ∧ ∀ h ∈ r.heads, (h.name.length : Int) ≤ l := by
  unfold szRp at h
  have h1 := szCommits_le (a := r.commits) hl
  split at h
  · omega
  · split at h
    · omega
    · rename_i h2 h3
      obtain ⟨q1, q2⟩ := szHeads_ok (Int.not_lt.1 h3)
      exact ⟨szCommits_ok (Int.not_lt.1 h2), by omega, fun c hc => by have := q2 c hc; omega⟩
theorem szRp_use {r : RepoD} (h : 0 ≤ szRp r 1048576) : rpSz r ∧ rpPre r := by
  obtain ⟨⟨h1, h2⟩, h3, h4⟩ := szRp_ok (by omega) h
  refine ⟨⟨by omega, fun c hc => ?_, by omega⟩, by omega, fun c hc f hf => ?_⟩
  · obtain ⟨q1, q2, q3, q4⟩ := h2 c hc
    exact ⟨by omega, by omega, fun g hg => by have := (q4 g hg).2.1; omega⟩
  · have := ((h2 c hc).2.2.2 f hf).1; omega

end Vx
end Go.Proofs.YtnmmlcjnjnooaaaGreatDoor
/-
  The nearest mark: the program's way and the reference's are the same; the law FnExactMarkNear.
-/
namespace Go.Proofs.YtnmmlcjnjnooaaaGreatDoor
namespace Vx
open Go.RowKit
set_option maxRecDepth 8000

theorem isT_mem {l : List Bool} {x : Int} (h0 : 0 ≤ x) (h1 : x.toNat < l.length) : isT l x.toNat = decide (x ∈ listT l) := by
  rw [Bool.eq_iff_iff, decide_eq_true_iff, listT_mem]
  constructor
  · intro h; exact ⟨x.toNat, h1, h, by omega⟩
  · rintro ⟨i, _, h2, rfl⟩
    simpa using h2
theorem isT_clr (ps : List Int) : ∀ (l : List Bool) (i : Nat), (∀ p ∈ ps, 0 ≤ p) → isT (clrT l ps) i = (isT l i && !decide ((i : Int) ∈ ps)) := by
  induction ps with
  | nil => intro l i _; simp [clrT]
  | cons p r ih =>
    intro l i h
    show isT (clrT (l.set p.toNat false) r) i = _
    rw [ih _ _ fun q hq => h q (by simp [hq])]
    have hp := h p (by simp)
    by_cases e : p.toNat = i
    · have hm : (i : Int) ∈ p :: r := by have : (i : Int) = p := by omega
                                         rw [this]; simp
      have hf : isT (l.set p.toNat false) i = false := by
        unfold isT
        rw [e, List.getD_eq_getElem?_getD, List.getElem?_set_self']
        cases l[i]? <;> rfl
      rw [hf, decide_eq_true hm]; simp
    · rw [isT_set_ne _ e]
      have : ¬ (i : Int) = p := by omega
      simp [this]
theorem listT_clr (l : List Bool) (ps : List Int) (h : ∀ p ∈ ps, 0 ≤ p) : listT (clrT l ps) = (listT l).filter fun x => !decide (x ∈ ps) := by
  unfold listT listF
  rw [clrT_len, List.filter_map, List.filter_filter]
  congr 1
  apply List.filter_congr
  intro i _
  rw [isT_clr ps l i h, Bool.and_comm]
  rfl
theorem sin_new {r : RepoD} {a h : Int} (hr : repoI r = true) (ha : inN r.commits.length a = true) (hh : inN r.commits.length h = true) : listT (sinL r a [h]) = newL r h a := by
  have e : sinL r a [h] = clrT (anc r a) (listT (anc r h)) := rfl
  rw [e, listT_clr]
  · unfold newL newF
    rw [hr, ha, hh, List.take_length]; rfl
  · intro p hp
    obtain ⟨i, _, _, rfl⟩ := listT_mem.1 hp
    omega
theorem near_eq (r : RepoD) (m : List HeadD) (a : Int) : nearI r m a = nearS r m a := by
  unfold nearI nearS
  split
  · rename_i h
    simp only [Bool.and_eq_true, decide_eq_true_eq] at h
    obtain ⟨hM, h0, h1⟩ := h
    unfold marksI at hM
    simp only [Bool.and_eq_true] at hM
    obtain ⟨hr, hh⟩ := hM
    have hat : ∀ x ∈ m, inN r.commits.length x.at_ = true := fun x hx => by
      obtain ⟨i, hi, rfl⟩ := List.getElem_of_mem hx
      have := ((headsB_iff _ _).1 hh).2 i hi
      simp only [okHd, List.getD_eq_getElem?_getD, List.getElem?_eq_getElem hi, Option.getD_some, Bool.and_eq_true] at this
      exact this.1.2
    have hal : inN r.commits.length a = true := by unfold inN; simp; omega
    have hstep : ∀ s, ∀ x ∈ m, nearStep r a s x = nearStepS r a s x := fun s x hx => by
      have hx' := hat x hx
      have hx2 := hx'
      simp only [inN, Bool.and_eq_true, decide_eq_true_eq] at hx2
      unfold nearStep nearStepS
      rw [sin_new hr hal hx', isT_mem hx2.1 (by rw [anc_len]; omega)]
      by_cases hm : x.at_ ∈ listT (anc r a)
      · simp only [hm, decide_true, if_true, Bool.true_and, Bool.or_eq_true, decide_eq_true_eq]
      · simp [hm]
    unfold nearF nearFS
    rw [List.take_length]
    clear hh
    have gen : ∀ (l : List HeadD) (s : Str × Int), (∀ s, ∀ x ∈ l, nearStep r a s x = nearStepS r a s x) → l.foldl (nearStep r a) s = l.foldl (nearStepS r a) s := by
      intro l
      induction l with
      | nil => intro s _; rfl
      | cons y l ih =>
        intro s h
        rw [List.foldl_cons, List.foldl_cons, h s y (by simp)]
        exact ih _ fun s x hx => h s x (by simp [hx])
    exact gen m _ hstep
  · rfl

end Vx
end Go.Proofs.YtnmmlcjnjnooaaaGreatDoor
/-
  A contract whose own result is only looked at.
-/
namespace Go.Proofs.YtnmmlcjnjnooaaaGreatDoor
namespace Vx
open Go.RowKit
set_option maxRecDepth 8000

/-- A contract whose own result is only looked at. -/
def Con.view (k : Con) (K : Nat) (rows : k.A → k.X → List (List D)) : Con := { k with res := fun a x => .sl false K (rows a x), fin := fun _ _ => [] }
theorem Has.view {P : Program} {f : Nat} {k : Con} (H : Has P f k) (K : Nat) (rows : k.A → k.X → List (List D)) (hr : ∀ a x, k.res a x = .own 8 K (rows a x)) (hb : ∀ a, k.boxes a = []) (hl : k.lends = []) : Has P f (k.view K rows) := by
  suffices key : ∀ (a : k.A), k.pre a → ∀ (c : Cx) (_ : Kn k.need c) (vs : List Value) (β : Nat → Value) (fp : Nat → List (Nat × Nat)), c.n = k.n → c.pins = k.pins2 a β → vs.length = (k.args a).length → vs.length ≤ k.n →
      SatI c (k.start2 a) ⟨vs.toArray ++ Array.replicate (k.n - vs.length) undef, []⟩ c.w0 β fp →
      Calls P f vs.toArray c.w0 fun e w' => ∃ x : k.X, k.post a x ∧ ∃ v, e = .returned v ∧ ∃ β' fp' a', SatI c ⟨fun _ => none, get? []⟩ a' w' β' fp' ∧ RelL w' (get? []) β' c [.sl false K (rows a x)] [v] by
    exact ⟨H.enter, H.tot, H.nob, fun (a : k.A) ha c hky vs β fp hn hpin hlen hlen2 S => key a ha c hky vs β fp hn hpin hlen hlen2 S, H.bldr, H.bt.imp id fun h a => ⟨(h a).1, fun x p hp => (by cases hp)⟩⟩
  intro a ha c hky vs β fp hn hpin hlen hlen2 S
  have hp : c.pins = [] := by rw [hpin]; simp -implicitDefEqProofs [Con.pins2, hb, hl]
  refine (H.calls a ha c hky vs β fp hn hpin hlen hlen2 S).mono ?_
  rintro e w' ⟨x, hx, v, rfl, β', fp', a', E, hv⟩
  rw [hr] at hv
  have hv2 : ∃ e, Vw w' (get? (k.fin a x)) β' c false [.sl e K (rows a x)] [v] := by cases hv with | own _ h2 _ _ => exact h2
  obtain ⟨e, f, h1, h2⟩ := hv2
  refine ⟨x, hx, v, rfl, β', fp', a', ⟨?_, ?_, ?_, ?_, ?_, E.fg, E.old, E.os, E.tape, E.output, E.size, E.defers, E.tn, by simp -implicitDefEqProofs [hp]⟩, .sl ⟨e, f, h1, fun z hz => ⟨⟨?_, ?_⟩, (h2 z hz).2⟩⟩ .lnil⟩
  · intro t g av h; cases h
  · intro h blk hm; cases hm
  · intro h blk hm; cases hm
  · intro h h' blk blk' hm; cases hm
  · intro h blk hm; cases hm
  · rintro ⟨h, ty, vs, hm, _⟩; cases hm
  · intro h e k d R n cc hm; cases hm

end Vx
end Go.Proofs.YtnmmlcjnjnooaaaGreatDoor
/-
  Contracts: commits asked for (the program's AncIs, AncNew, AncLine).
-/
namespace Go.Proofs.YtnmmlcjnjnooaaaGreatDoor
namespace Vx
open Go.RowKit
set_option maxRecDepth 8000
--TAB tTabB

theorem areB_iff {r : RepoD} {l : List Int} : areB r l = true ↔ repoI r = true ∧ ∀ a ∈ l, 0 ≤ a ∧ a < r.commits.length := by
  unfold areB
  simp only [Bool.and_eq_true, List.all_eq_true, decide_eq_true_eq]
  constructor
  · rintro ⟨h1, h2⟩; exact ⟨h1, fun a ha => by have := h2 a ha; omega⟩
  · rintro ⟨h1, h2⟩; exact ⟨h1, fun a ha => by have := h2 a ha; omega⟩
def ancIsI (r : RepoD) (a b : Int) : Bool := areB r [a, b] && isT (anc r b) a.toNat
def ancNewI (r : RepoD) (a b : Int) : List Int := if areB r [a, b] then listT (sinL r b [a]) else []
def ancLineI (r : RepoD) (a : Int) : List Int := if areB r [a] then lineP r a else []
end Vx
end Go.Proofs.YtnmmlcjnjnooaaaGreatDoor
/-
  Contracts: lines put in and taken out by a commit (StatOf), and the law FnExactStatOf.
-/
namespace Go.Proofs.YtnmmlcjnjnooaaaGreatDoor
namespace Vx
open Go.RowKit
set_option maxRecDepth 8000
--TAB tTabC

def moreP (a b : List FileD) (p : Str) : Int := ((getL b p).1.length : Int) - lcs (getL a p).1 (getL b p).1
def lessP (a b : List FileD) (p : Str) : Int := ((getL a p).1.length : Int) - lcs (getL a p).1 (getL b p).1
def more26 (a b : List FileD) (l : List Str) : Int := (l.map (moreP a b)).sum
def less26 (a b : List FileD) (l : List Str) : Int := (l.map (lessP a b)).sum
theorem more26_nil (a b) : more26 a b [] = 0 := rfl
theorem less26_nil (a b) : less26 a b [] = 0 := rfl
theorem more26_succ {a b : List FileD} {l : List Str} {i : Nat} (h : i < l.length) : more26 a b (l.take (i + 1)) = more26 a b (l.take i) + moreP a b l[i] := by
  unfold more26; rw [take_succ' h, List.map_append, List.sum_append]; simp only [List.map_cons, List.map_nil, List.sum_cons, List.sum_nil]; omega
theorem less26_succ {a b : List FileD} {l : List Str} {i : Nat} (h : i < l.length) : less26 a b (l.take (i + 1)) = less26 a b (l.take i) + lessP a b l[i] := by
  unfold less26; rw [take_succ' h, List.map_append, List.sum_append]; simp only [List.map_cons, List.map_nil, List.sum_cons, List.sum_nil]; omega
theorem sum_bd {f : Str → Int} (h : ∀ p, -1048576 ≤ f p ∧ f p ≤ 1048576) : ∀ l : List Str, -1048576 * (l.length : Int) ≤ (l.map f).sum ∧ (l.map f).sum ≤ 1048576 * (l.length : Int)
  | [] => by simp
  | x :: l => by
    have := sum_bd h l
    have h1 := h x
    simp only [List.map_cons, List.sum_cons, List.length_cons, Int.natCast_add, Int.natCast_one]
    omega
theorem moreP_bd {a b : List FileD} (ha : ∀ f ∈ a, f.text.length ≤ 1048576) (hb : ∀ f ∈ b, f.text.length ≤ 1048576) (p : Str) : -1048576 ≤ moreP a b p ∧ moreP a b p ≤ 1048576 := by
  have h1 := getL_len ha p
  have h2 := getL_len hb p
  have h3 := lcs_bd (getL a p).1 (getL b p).1
  unfold moreP; omega
theorem lessP_bd {a b : List FileD} (ha : ∀ f ∈ a, f.text.length ≤ 1048576) (hb : ∀ f ∈ b, f.text.length ≤ 1048576) (p : Str) : -1048576 ≤ lessP a b p ∧ lessP a b p ≤ 1048576 := by
  have h1 := getL_len ha p
  have h2 := getL_len hb p
  have h3 := lcs_bd (getL a p).1 (getL b p).1
  unfold lessP; omega
def txS (t : List FileD) : Prop := t.length ≤ 65536 ∧ ∀ f ∈ t, f.text.length ≤ 1048576
theorem m_take {a b : List FileD} (ha : txS a) (hb : txS b) {l : List Str} (hl : l.length ≤ 200000) (i : Nat) : -209715200000 ≤ more26 a b (l.take i) ∧ more26 a b (l.take i) ≤ 209715200000 ∧ -209715200000 ≤ less26 a b (l.take i) ∧ less26 a b (l.take i) ≤ 209715200000 := by
  have h1 := sum_bd (moreP_bd ha.2 hb.2) (l.take i)
  have h2 := sum_bd (lessP_bd ha.2 hb.2) (l.take i)
  have h3 : (l.take i).length ≤ l.length := by rw [List.length_take]; omega
  unfold more26 less26
  omega
theorem tab00 (X Y : List Str) : (tabF X Y 0 0)[0]? = some (tabR X Y 0 0 0) ∧ (tabR X Y 0 0 0)[0]? = some (lcs X Y) ∧ 0 < (tabF X Y 0 0).length ∧ 0 < (tabR X Y 0 0 0).length := by
  refine ⟨tab_row (Nat.zero_le _), ?_, by rw [tab_len]; omega, by rw [tabR_len]; omega⟩
  rw [tabR_get (Nat.zero_le _), if_pos (by omega)]; rfl
def linI (a b : List FileD) : Inv := ⟨Nat, fun i => ⟨[(0, true, .sl true 2 (eFiles a)), (1, true, .sl true 2 (eFiles b)), (4, true, .int .i64 0), (5, true, .int .i64 0), (6, true, .int .i64 (more26 a b ((paths6 a b []).take i))), (7, true, .int .i64 (less26 a b ((paths6 a b []).take i))), (8, true, .sl false 1 (eStrs (paths6 a b []))), (9, true, .int .i64 i)], []⟩, fun i => i ≤ (paths6 a b []).length, fun i => (paths6 a b []).length - i⟩
def cL26Lines : Con := .fn 63 (List FileD × List FileD) (fun a => [.sl true 2 (eFiles a.1), .sl true 2 (eFiles a.2)]) (fun a => txS a.1 ∧ txS a.2) (fun a => .tup [.int .i64 (more26 a.1 a.2 (paths6 a.1 a.2 [])), .int .i64 (less26 a.1 a.2 (paths6 a.1 a.2 []))]) (fun _ => [])
set_option maxHeartbeats 4000000 in
theorem l26Lines_has : Has Tryz.prog 97 cL26Lines := by
  refine has_walk mixed tTabC_ok (l := [(166, cL6Paths), (167, cL4Get), (168, cL1Table)]) (HasL.cons l6Paths_has (HasL.cons l4Get_has (HasL.cons l1Table_has HasL.nil))) [0, 1, 4, 5, 6, 7, 8, 9, 10, 12, 14] ((fun a n (_ : Nat) => (fun a _ => linI a.1 a.2) a n)) [] Tryz.func97 (by kernel_rfl) (code := _) (by unfold Tryz.f97; rfl) (by kernel_rfl) (by decide) (fun _ => ⟨(), trivial⟩) (by intro h; first | exact fun _ => rfl | cases h) (by kernel_rfl) ?_
  intro a ha
  obtain ⟨a, b⟩ := a
  obtain ⟨h1, h2⟩ : txS a ∧ txS b := ha
  have hb := @m_take a b h1 h2 (paths6 a b [])
  have hpl := paths6_len a b []
  have hl1 := h1.1
  have hl2 := h2.1
  simp only [List.length_nil, Nat.add_zero] at hpl
  have hb := hb (by omega)
  simp (maxSteps := 4000000) [cL26Lines, cL6Paths, cL4Get, cL1Table, Con.fn, tTabC, tTab, linI]
  try dsimp only
  refine ⟨a, b, [], ⟨rfl, rfl, rfl⟩, ⟨by omega, by omega, by simp⟩, ⟨0, ⟨by simp -implicitDefEqProofs [more26], by simp -implicitDefEqProofs [less26], rfl, rfl⟩, Nat.zero_le _⟩, fun t ht _ => ⟨fun hlt => ⟨hlt, fun _ => ?_⟩, fun hge => by rw [List.take_of_length_le hge]; exact ⟨rfl, rfl⟩⟩⟩
  have qq : Option.map eStr (paths6 a b [])[t]? = some (eStr (paths6 a b [])[t]) := by simp -implicitDefEqProofs [hlt]
  have ms := more26_succ (a := a) (b := b) hlt
  have ls := less26_succ (a := a) (b := b) hlt
  have hb0 := hb t
  have hb1 := hb (t + 1)
  rw [ms, ls] at hb1
  rw [qq]
  generalize (paths6 a b [])[t] = p at *
  have hx := getL_len h1.2 p
  have hy := getL_len h2.2 p
  have hm : moreP a b p = ((getL b p).1.length : Int) - lcs (getL a p).1 (getL b p).1 := rfl
  have hl : lessP a b p = ((getL a p).1.length : Int) - lcs (getL a p).1 (getL b p).1 := rfl
  rw [hm, hl] at hb1
  rw [hm] at ms
  rw [hl] at ls
  obtain ⟨t1, t2, t3, t4⟩ := tab00 (getL a p).1 (getL b p).1
  have hc := lcs_bd (getL a p).1 (getL b p).1
  simp -implicitDefEqProofs [eStr, D.asStr]
  refine ⟨a, p, ⟨rfl, rfl⟩, hlt, fun _ => ⟨b, p, ⟨rfl, rfl⟩, _, _, ⟨rfl, rfl⟩, ⟨hx, hy⟩, t3, fun _ => ?_⟩⟩
  generalize (getL a p).1 = X at *
  generalize (getL b p).1 = Y at *
  generalize lcs X Y = L at *
  generalize tabF X Y 0 0 = T at *
  generalize tabR X Y 0 0 0 = R at *
  have t5 : R.head? = some L := by rw [List.head?_eq_getElem?]; exact t2
  simp -implicitDefEqProofs [t1, t2, t5, eRow, eInt, D.asRows, D.asInt]
  have hX : (0 : Int) ≤ X.length := by omega
  have hY : (0 : Int) ≤ Y.length := by omega
  exact ⟨t4, fun _ _ => ⟨by omega, fun _ _ => ⟨by omega, fun _ _ _ => ⟨by omega, fun _ _ => ⟨by omega, fun _ _ => ⟨by omega, fun _ _ => ⟨t + 1, ⟨by rw [ms]; omega, by rw [ls]; omega, by omega⟩, by omega, by omega⟩⟩⟩⟩⟩⟩⟩

def treeN (r : RepoD) (n : Int) : List FileD := if n < 0 then [] else treeAt r n
def cTreeN : Con := .fn 13 (RepoD × Int) (fun a => [vRepo a.1, .int .i64 a.2]) (fun a => -1 ≤ a.2 ∧ a.2 < a.1.commits.length) (fun a => .sl true 2 (eFiles (treeN a.1 a.2))) (fun _ => [])
set_option maxHeartbeats 4000000 in
theorem treeN_has : Has Tryz.prog 101 cTreeN := by
  refine has_walk mixed tTabC_ok (l := []) HasL.nil [0, 1, 2, 4] ((fun a n (_ : Nat) => (fun _ => noInv) a n)) [] Tryz.func101 (by kernel_rfl) (code := _) (by unfold Tryz.f101; rfl) (by kernel_rfl) (by decide) (fun _ => ⟨(), trivial⟩) (by intro h; first | exact fun _ => rfl | cases h) (by kernel_rfl) ?_
  intro a ha
  obtain ⟨r, n⟩ := a
  obtain ⟨h1, h2⟩ : -1 ≤ n ∧ n < r.commits.length := ha
  by_cases h0 : n < 0
  · have e : treeN r n = [] := by unfold treeN; rw [if_pos h0]
    simp -implicitDefEqProofs [cTreeN, Con.fn, tTabC, tTab, e, h1, h2]
    try dsimp only
    exact fun h => absurd h (by omega)
  · have hi : n.toNat < r.commits.length := by omega
    have e : Option.map eCommit r.commits[n.toNat]? = some (eCommit r.commits[n.toNat]) := by simp -implicitDefEqProofs [hi]
    have e2 : treeN r n = r.commits[n.toNat].tree := by unfold treeN treeAt; rw [if_neg h0]; simp -implicitDefEqProofs [List.getD_eq_getElem?_getD, hi]
    simp -implicitDefEqProofs [cTreeN, Con.fn, tTabC, tTab, e, e2, eCommit, hi, h1, h2]
    try dsimp only
    exact fun h => absurd h h0

theorem ahead_eq (r : RepoD) (a : Int) (h : ∀ p ∈ (r.commits.getD a.toNat default).parents, 0 ≤ p) : ahead10 r a = treeN r (firstP r a) := by
  unfold ahead10 firstP
  cases hp : (r.commits.getD a.toNat default).parents with
  | nil => rfl
  | cons p l =>
    have := h p (by rw [hp]; simp)
    show treeAt r p = treeN r p
    unfold treeN
    rw [if_neg (by omega)]
theorem ahead_N {r : RepoD} (h : repoI r = true) {a : Int} (h0 : 0 ≤ a) (h1 : a < r.commits.length) : ahead10 r a = treeN r (firstP r a) := ahead_eq r a fun p hp => by
  have hc : a.toNat < r.commits.length := by omega
  exact ((repo_use h hc).2.1 p (by simpa [List.getD_eq_getElem?_getD, hc] using hp)).1
def statOf (r : RepoD) (a : Int) : Int × Int := if repoI r = true ∧ 0 ≤ a ∧ a < r.commits.length then (more26 (treeN r (firstP r a)) (treeAt r a) (paths6 (treeN r (firstP r a)) (treeAt r a) []), less26 (treeN r (firstP r a)) (treeAt r a) (paths6 (treeN r (firstP r a)) (treeAt r a) [])) else (-1, -1)
theorem tree_txS {r : RepoD} (h : repoI r = true) (a : Int) : txS (treeAt r a) := by
  have := repoS_treeAt (by rw [← repo_eq]; exact h) a
  obtain ⟨t1, t2⟩ := treeS_le _ this
  exact ⟨by omega, fun f hf => by have := t2 f hf; omega⟩
theorem treeN_txS {r : RepoD} (h : repoI r = true) (a : Int) : txS (treeN r a) := by
  unfold treeN
  split
  · exact ⟨by simp, by simp⟩
  · exact tree_txS h a
def cStatOfS : Con := .fn 30 (RepoD × Int) (fun a => [vRepo a.1, .int .i64 a.2]) (fun a => rpPre a.1) (fun a => .tup [.int .i64 (statOf a.1 a.2).1, .int .i64 (statOf a.1 a.2).2]) (fun _ => [])
set_option maxHeartbeats 4000000 in
theorem statOfS_has : Has Tryz.prog 29 cStatOfS := by
  refine has_walk mixed tTabC_ok (l := [(78, cL7Ok), (90, cL1In), (98, cL10Ahead), (97, cL26Lines)]) (HasL.cons l7Ok_has (HasL.cons l1In_has (HasL.cons l10Ahead_has (HasL.cons l26Lines_has HasL.nil)))) [0, 1, 2, 4, 5] ((fun a n (_ : Nat) => (fun _ => noInv) a n)) [] Tryz.func29 (by kernel_rfl) (code := _) (by unfold Tryz.f29; rfl) (by kernel_rfl) (by decide) (fun _ => ⟨(), trivial⟩) (by intro h; first | exact fun _ => rfl | cases h) (by kernel_rfl) ?_
  intro a ha
  obtain ⟨r, n⟩ := a
  replace ha : rpPre r := ha
  simp (maxSteps := 8000000) -implicitDefEqProofs [cStatOfS, cL7Ok, cL1In, cL10Ahead, cL26Lines, Con.fn, tTabC, tTab, bRepo_def]
  try dsimp only
  have e0 : (repoS r = false ∨ ¬ (0 ≤ n ∧ n < r.commits.length)) → statOf r n = (-1, -1) := fun h => by unfold statOf; rw [if_neg]; rw [repo_eq]; rintro ⟨q1, q2⟩; rcases h with h | h; rw [h] at q1; cases q1; exact h q2
  refine ⟨ha.1, fun h => by rw [e0 (.inl h)]; exact ⟨rfl, rfl⟩, fun h _ => ⟨by omega, fun _ _ => ⟨n, 0, _, ⟨rfl, rfl, rfl⟩, fun hq => by rw [e0 (.inr (by omega))]; exact ⟨rfl, rfl⟩, fun g0 g1 => ⟨r, n, ⟨⟨rfl, rfl⟩, rfl⟩, ⟨h, g0, by omega⟩, ⟨g0, by omega⟩, fun _ g2 => ?_⟩⟩⟩⟩
  have hI : repoI r = true := by rw [repo_eq]; exact h
  have cg := cget g0 g2
  have e1 : statOf r n = (more26 (treeN r (firstP r n)) (treeAt r n) (paths6 (treeN r (firstP r n)) (treeAt r n) []), less26 (treeN r (firstP r n)) (treeAt r n) (paths6 (treeN r (firstP r n)) (treeAt r n) [])) := by unfold statOf; rw [if_pos ⟨hI, g0, g2⟩]
  rw [cg, e1, ahead_N hI g0 g2]
  simp -implicitDefEqProofs [D.asRows]
  exact ⟨treeN r (firstP r n), treeAt r n, ⟨rfl, rfl⟩, ⟨treeN_txS hI _, tree_txS hI _⟩, rfl, rfl⟩

def soI (r : RepoD) (n : Int) : Inv := ⟨Nat, fun i => ⟨[(1, true, .int .i64 n), (2, true, .ptr 10 0), (4, true, .int .i64 0), (5, true, .int .i64 0), (6, true, .sl true 2 (eFiles (treeN r (firstP r n)))), (7, true, .sl true 2 (eFiles (treeAt r n))), (8, true, .int .i64 (more26 (treeN r (firstP r n)) (treeAt r n) ((paths6 (treeN r (firstP r n)) (treeAt r n) []).take i))), (9, true, .int .i64 (less26 (treeN r (firstP r n)) (treeAt r n) ((paths6 (treeN r (firstP r n)) (treeAt r n) []).take i))), (31, true, .own 9 1 (eStrs (paths6 (treeN r (firstP r n)) (treeAt r n) []))), (32, true, .int .i64 (paths6 (treeN r (firstP r n)) (treeAt r n) []).length), (33, true, .int .i64 i)], [(10, bRepo r), (9, .own 9 1 true (eStrs (paths6 (treeN r (firstP r n)) (treeAt r n) [])))]⟩, fun i => i ≤ (paths6 (treeN r (firstP r n)) (treeAt r n) []).length, fun i => (paths6 (treeN r (firstP r n)) (treeAt r n) []).length - i⟩
def cStatOfI : Con := .fn 67 (RepoD × Int) (fun a => [vRepo a.1, .int .i64 a.2]) (fun a => rpPre a.1) (fun a => .tup [.int .i64 (statOf a.1 a.2).1, .int .i64 (statOf a.1 a.2).2]) (fun _ => [])
set_option maxHeartbeats 4000000 in
theorem statOfI_has : Has Tryz.prog 31 cStatOfI := by
  refine has_walk mixed tTabC_ok (l := [(94, cAre), (102, cFirst), (101, cTreeN), (103, cAllPaths), (104, cHasAt), (105, cLcsI)]) (HasL.cons are_has (HasL.cons first_has (HasL.cons treeN_has (HasL.cons allPaths_has (HasL.cons hasAt_has (HasL.cons lcsI_has HasL.nil)))))) [0, 1, 2, 4, 5, 6, 7, 8, 9, 11, 12, 13, 14, 31, 32, 33] ((fun a n (_ : Nat) => (fun a _ => soI a.1 a.2) a n)) [] Tryz.func31 (by kernel_rfl) (code := _) (by unfold Tryz.f31; rfl) (by kernel_rfl) (by decide) (fun _ => ⟨(), trivial⟩) (by intro h; first | exact fun _ => rfl | cases h) (by kernel_rfl) ?_
  intro a ha
  obtain ⟨r, n⟩ := a
  replace ha : rpPre r := ha
  simp (maxSteps := 8000000) -implicitDefEqProofs [-kStep_move, -Bool.exists_bool, cStatOfI, cAre, cFirst, cTreeN, cAllPaths, cHasAt, cLcsI, Con.fn, tTabC, tTab, bRepo_def, soI]
  try dsimp only
  simp -implicitDefEqProofs only [and_assoc, exists_eq_left, exists_and_left, RepoD.ex1, RepoD.eta]
  refine ⟨[n], rfl, ha, fun h => ?_, fun h => ?_⟩
  · have e0 : statOf r n = (-1, -1) := by
      unfold statOf
      rw [if_neg]
      rintro ⟨q1, q2⟩
      rw [areB_iff.2 ⟨q1, by simpa using q2⟩] at h
      cases h
    rw [e0]; exact ⟨rfl, rfl⟩
  obtain ⟨hI, g0⟩ := areB_iff.1 h
  obtain ⟨g0, g1⟩ := g0 n (by simp)
  have e1 : statOf r n = (more26 (treeN r (firstP r n)) (treeAt r n) (paths6 (treeN r (firstP r n)) (treeAt r n) []), less26 (treeN r (firstP r n)) (treeAt r n) (paths6 (treeN r (firstP r n)) (treeAt r n) [])) := by unfold statOf; rw [if_pos ⟨hI, g0, g1⟩]
  obtain ⟨f1, f2⟩ := first_lt hI g0 g1
  have eN : treeN r n = treeAt r n := by unfold treeN; rw [if_neg (by omega)]
  have h1 := treeN_txS hI (firstP r n)
  have h2 := tree_txS hI n
  rw [e1, eN]
  generalize treeN r (firstP r n) = a at *
  generalize treeAt r n = b at *
  have hpl := paths6_len a b []
  have hl1 := h1.1
  have hl2 := h2.1
  simp only [List.length_nil, Nat.add_zero] at hpl
  have hb := @m_take a b h1 h2 (paths6 a b []) (by omega)
  refine ⟨g0, g1, f1, by omega, by omega, g1, [a, b], rfl, by simp; omega, by simp, fun _ => ⟨trivial, rfl, ⟨0, by simp -implicitDefEqProofs [more26], by simp -implicitDefEqProofs [less26], by rw [allP_2], by rw [allP_2], rfl, by rw [allP_2], Nat.zero_le _⟩, fun t ht => ⟨fun hlt => ⟨hlt, fun _ => ?_⟩, fun hge => by rw [List.take_of_length_le hge]; exact ⟨rfl, rfl⟩⟩⟩⟩
  have qq : Option.map eStr (paths6 a b [])[t]? = some (eStr (paths6 a b [])[t]) := by simp -implicitDefEqProofs [hlt]
  have ms := more26_succ (a := a) (b := b) hlt
  have ls := less26_succ (a := a) (b := b) hlt
  have hb0 := hb t
  have hb1 := hb (t + 1)
  rw [ms, ls] at hb1
  rw [qq]
  generalize (paths6 a b [])[t] = p at *
  have hx := getL_len h1.2 p
  have hy := getL_len h2.2 p
  have hm : moreP a b p = ((getL b p).1.length : Int) - lcs (getL a p).1 (getL b p).1 := rfl
  have hl : lessP a b p = ((getL a p).1.length : Int) - lcs (getL a p).1 (getL b p).1 := rfl
  rw [hm, hl] at hb1
  rw [hm] at ms
  rw [hl] at ls
  obtain ⟨t1, t2, t3, t4⟩ := tab00 (getL a p).1 (getL b p).1
  have hc := lcs_bd (getL a p).1 (getL b p).1
  simp -implicitDefEqProofs [eStr, D.asStr, getI_eq]
  refine ⟨h1.2, h2.2, hx, hy, t3, fun _ => ?_⟩
  generalize (getL a p).1 = X at *
  generalize (getL b p).1 = Y at *
  generalize lcs X Y = L at *
  generalize tabF X Y 0 0 = T at *
  generalize tabR X Y 0 0 0 = R at *
  have t5 : R.head? = some L := by rw [List.head?_eq_getElem?]; exact t2
  simp -implicitDefEqProofs [t1, t2, t5, eRow, eInt, D.asRows, D.asInt]
  have hX : (0 : Int) ≤ X.length := by omega
  have hY : (0 : Int) ≤ Y.length := by omega
  exact ⟨t4, fun _ _ => ⟨by omega, by omega, fun _ _ => ⟨by omega, by omega, fun _ _ _ => ⟨by omega, by omega, fun _ _ => ⟨by omega, by omega, fun _ _ => ⟨by omega, by omega, fun _ _ => ⟨t + 1, by rw [ms], by rw [ls], by omega, by omega, by omega⟩⟩⟩⟩⟩⟩⟩

def cFnExactStatOf : Con := .fn 44 (RepoD × Int) (fun a => [lRepo a.1, .int .i64 a.2]) (fun _ => True) (fun _ => .bool true) (fun _ => [])
set_option maxHeartbeats 4000000 in
theorem fnExactStatOf_has : Has Tryz.prog 5 cFnExactStatOf := by
  refine has_walk mixed tTabC_ok (l := [(28, cSzRepo), (30, cToRepo), (29, cStatOfS), (31, cStatOfI), (32, cEqRepo)]) (HasL.cons szRepo_has (HasL.cons toRepo_has (HasL.cons statOfS_has (HasL.cons statOfI_has (HasL.cons eqRepo_has HasL.nil))))) [0, 1, 2, 4, 5, 6, 7, 8, 9, 10] ((fun a n (_ : Nat) => (fun _ => noInv) a n)) [] Tryz.func5 (by kernel_rfl) (code := _) (by unfold Tryz.f5; rfl) (by kernel_rfl) (by decide) (fun _ => ⟨(), trivial⟩) (by intro h; first | exact fun _ => rfl | cases h) (by kernel_rfl) ?_
  intro a _
  obtain ⟨r, n⟩ := a
  have h1 : 0 ≤ szRp r 1048576 → rpSz r := fun h => (szRp_use h).1
  have h2 : 0 ≤ szRp r 1048576 → rpPre r := fun h => (szRp_use h).2
  simp -implicitDefEqProofs [cFnExactStatOf, cSzRepo, cToRepo, cStatOfS, cStatOfI, cEqRepo, Con.fn, tTabC, tTab]
  try dsimp only
  exact ⟨r, _, ⟨⟨rfl, rfl⟩, rfl⟩, ⟨by omega, by omega⟩, fun h => ⟨h1 h, r, n, ⟨⟨rfl, rfl⟩, rfl⟩, h2 h, h1 h, r, n, ⟨⟨rfl, rfl⟩, rfl⟩, h2 h, rfl, fun _ => ⟨rfl, fun _ => h1 h⟩⟩⟩

end Vx
end Go.Proofs.YtnmmlcjnjnooaaaGreatDoor
