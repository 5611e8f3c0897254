/-
  Joined by program (merge.py): Fb, Fc, Hg, Nb, Se, Nc, Md, Mk, Qa, Sr, Shs, Qb, Gt, Qc, Sb, Sa, Sc, Mf, Mg, Sd, Nd, Ga, Gb, Gc, Ne, Dh, Di, Kc, Tb, Mc, Nh, Ni, Me, Ml, Mh, Qd, Ua. It shows what the single texts show; conditions: none but those of each lemma.
-/
import Derived.Test.YtokdjnbcdokpjaaGreatDoorWa
import Derived.Shelf.Sort.Plain
import Derived.Shelf.Slices.In.SortNone
import Derived.Shelf.Slices.CompactS
import Derived.Test.YtokdjnbcdokpjaaGreatDoorProg
set_option linter.unusedVariables false
set_option linter.unusedSimpArgs false
set_option linter.unusedSectionVars false
namespace Go.Proofs.YtokdjnbcdokpjaaGreatDoor
namespace Vx
open Go.RowKit
theorem c8C {c : Cx} {s : St} {a : Act} {w : World} {β : Nat -> Value} {fp : Nat -> List (Nat × Nat)} (S : SatI c s a w β fp) (hp : c.pins = []) {e k : Nat} {R : List (List D)} (h8 : s.m 8 = some (.own e k true R)) :
  ∃ a', SatI c ⟨fun _ => none, get? [(8, .own e k true R)]⟩ a' w β fp /\ RelL w (get? [(8, .own e k true R)]) β c [.own 8 k R] [β 8] := by
 have hb : BlkOk w (get? [(8, Blk.own e k true R)]) β c 8 (fp 8) (.own e k true R) := by
  obtain ⟨p1, p2, p3⟩ := S.mem 8 _ h8
  refine ⟨p1, p2, ?_⟩
  rcases p3 with p3 | ⟨b', cap, cs, f0, r1, r2, r3, r4, r5, r6, r7, r8⟩
  ·exact .inl p3
  ·exact .inr ⟨b', cap, cs, f0, r1, r2, r3, r4, r5, r6, r7, by simp⟩
 refine ⟨⟨Array.replicate c.n undef, []⟩, ⟨?_, ?_, ?_, ?_, ?_, S.fg, S.old, S.os, S.tape, S.output, S.size, rfl, by simp, by simp [hp]⟩, ?_⟩
 ·intro t g av h; cases h
 ·intro h blk hm; obtain ⟨rfl, rfl⟩ := get1 hm; exact hb
 ·intro h blk hm; obtain ⟨rfl, rfl⟩ := get1 hm; exact S.nodup 8 _ h8
 ·intro h h' blk blk' hm hm' hne; obtain ⟨rfl, rfl⟩ := get1 hm; obtain ⟨rfl, rfl⟩ := get1 hm'; exact absurd rfl hne
 ·intro h blk hm x hx; obtain ⟨rfl, rfl⟩ := get1 hm; exact S.free 8 _ h8 x hx
 ·exact a3e (h := 8) (fps := fp) rfl hb (S.nodup 8 _ h8) (fun h' blk' hm hne => by obtain ⟨rfl, rfl⟩ := get1 hm; exact absurd rfl hne) (S.free 8 _ h8)
theorem a6L {w : World} {b : Nat} {cs : Array Value} {ty : Nat} {n : Nat} (h : w.heap[b]? = some (.cells cs ty (0, 0))) : ∀ (j : Nat) v, (cs.toList.take n)[j]? = some v -> w.cell? ⟨b, j, none⟩ = some v := by
 intro j v hj
 rw [World.cell_of h]
 rw [List.getElem?_take] at hj
 split at hj
 ·simpa using hj
 ·cases hj
theorem c1R {L olds news R : List Value} {i n : Nat} (hLl : (n + 1) * 2 <= L.length) (ho : olds.length = n * 2) (hn : news.length = 2) (hi : i <= n) (hL : L.take (i * 2) = olds.take (i * 2)) :
  (((L.take ((i + 1) * 2) ++ (olds.drop (i * 2) ++ R)).take (i * 2)) ++ (news ++ ((L.take ((i + 1) * 2) ++ (olds.drop (i * 2) ++ R)).drop (i * 2 + news.length)))).take ((n + 1) * 2) = olds.take (i * 2) ++ (news ++ olds.drop (i * 2)) := by
 have hl : (L.take ((i + 1) * 2)).length = (i + 1) * 2 := by rw [List.length_take]; omega
 have a1 : (L.take ((i + 1) * 2) ++ (olds.drop (i * 2) ++ R)).take (i * 2) = olds.take (i * 2) := by rw [List.take_append_of_le_length (by omega), List.take_take, Nat.min_eq_left (by omega), hL]
 have a2 : (L.take ((i + 1) * 2) ++ (olds.drop (i * 2) ++ R)).drop (i * 2 + news.length) = olds.drop (i * 2) ++ R := List.drop_left' (by omega)
 rw [a1, a2]
 rw [show olds.take (i * 2) ++ (news ++ (olds.drop (i * 2) ++ R)) = (olds.take (i * 2) ++ (news ++ olds.drop (i * 2))) ++ R by simp]
 exact List.take_left' (by simp only [List.length_append, List.length_take, List.length_drop]; omega)
theorem b9z {L olds news R : List Value} {i n m : Nat} (hLl : (n + 1) * 2 <= L.length) (ho : olds.length = n * 2) (hn : news.length = 2) (hi : i <= n) (hL : L.take (i * 2) = olds.take (i * 2)) :
  (((L.take (i * 2) ++ (news ++ L.drop m)).take ((i + 1) * 2)) ++ (olds.drop (i * 2) ++ R)).take ((n + 1) * 2) = olds.take (i * 2) ++ (news ++ olds.drop (i * 2)) := by
 have hl : (L.take (i * 2)).length = i * 2 := by rw [List.length_take]; omega
 have a1 : (L.take (i * 2) ++ (news ++ L.drop m)).take ((i + 1) * 2) = olds.take (i * 2) ++ news := by
  rw [<- List.append_assoc, hL]
  rw [hL] at hl
  exact List.take_left' (by rw [List.length_append]; omega)
 rw [a1]
 rw [show (olds.take (i * 2) ++ news) ++ (olds.drop (i * 2) ++ R) = (olds.take (i * 2) ++ (news ++ olds.drop (i * 2))) ++ R by simp]
 exact List.take_left' (by simp only [List.length_append, List.length_take, List.length_drop]; omega)
end Vx
end Go.Proofs.YtokdjnbcdokpjaaGreatDoor
namespace Go.Proofs.YtokdjnbcdokpjaaGreatDoor
set_option maxHeartbeats 4000000
namespace Vx
open Go.RowKit Go.Lib
set_option maxRecDepth 100000 in
theorem b9y (b n c i vb m vc : Nat) (cs vs : List Value) (w : World) (hi : i < n) (hm : 0 < m) (hroom : n + m <= c) (hc63 : c <= 9223372036854775807) (hvb : vb ≠ b)
  (hcl : cs.length = n * 2) (hvl : vs.length = m * 2)
  (hcs : ∀ (j : Nat) v, cs[j]? = some v -> w.cell? ⟨b, j, none⟩ = some v) (hsp : ∀ j, j < (n + m) * 2 -> (w.cell? ⟨b, j, none⟩).isSome = true) (hfz : ∀ j, j < (n + m) * 2 -> w.frozen? ⟨b, j, none⟩ = false)
  (hvs : ∀ (j : Nat) v, vs[j]? = some v -> w.cell? ⟨vb, j, none⟩ = some v) (h1c : ∀ v ∈ cs, v.oneCell' = true) (h1v : ∀ v ∈ vs, v.oneCell' = true)
  (tA tB : TypeId) (kA kB : Nat) (hsa : w.shape? vb = some (tA, kA)) (hsb : w.shape? b = some (tB, kB)) (hkB : kB ≠ 0) (hfa : w.frozen? ⟨vb, 0, none⟩ = false) (hfe : w.frozen? ⟨vb, kA, none⟩ = false) :
  Calls Tryz.prog 171 #[.slice (some ⟨b, 0, none⟩) n c, .int .i64 i, .slice (some ⟨vb, 0, none⟩) m vc] w fun e w' =>
   e = .returned (.slice (some ⟨b, 0, none⟩) (n + m) c) /\ w' = (w.drew.setCells b ((i + m) * 2) (cs.drop (i * 2))).setCells b (i * 2) vs := by
 have hz1 : ¬ ((m : Int) = 0) := by omega
 have hz2 : ¬ ((i : Int) = (n : Int)) := by omega
 have hsz : (Tryz.prog.info? 113).map (·.size) = some 2 := by kernel_rfl
 have hov : ∀ lb cb, (callFunc 193 #[.slice (some ⟨vb, 0, none⟩) m vc, .slice (some ⟨b, (i + m) * 2, none⟩) lb cb]).run Tryz.prog w = .ok (.value (.bool false)) w := fun lb cb => by
  rw [run_callFunc_extern Tryz.func193 (by kernel_rfl) (by kernel_rfl) (by kernel_rfl) (e := Extern.SlicesOverlaps.overlaps #[24, 24] #[4]) (by kernel_rfl),
   Lib.run_overlaps_apart w 24 4 113 Tryz.underlying24 2 Tryz.sizeOf113 ⟨vb, 0, none⟩ ⟨b, (i + m) * 2, none⟩ m vc lb cb hvb tA tB kA kB hsa hsb hkB hfa hfe]
  rfl
 have hdl : (cs.drop (i * 2)).length = (n - i) * 2 := by rw [List.length_drop, hcl]; omega
 have mixed : Tryz.prog.follows .mixedOrders = true := mixed
 have hw1 : IntKind.i64.wrap ((i : Int) + (m : Int)) = (i : Int) + (m : Int) := by rw [IntKind.wrap_i64]; omega
 have hb1 : (0 : Int) <= (i : Int) + (m : Int) := by omega
 have hin : i <= n := by omega
 have htn : ((i : Int) + (m : Int)).toNat = i + m := by omega
 have hb2 : ¬ (c = i + m) := by omega
 have hb3 : (i : Int) <= (n : Int) + (m : Int) := by omega
 have hb4 : ¬ (c = i) := by omega
 have hcp1 : ∀ ty dc sc, (Builtin.copy_ #[24, 24] ty #[.slice (some ⟨b, (i + m) * 2, none⟩) (n + m - (i + m)) dc, .slice (some ⟨b, i * 2, none⟩) (n + m - i) sc]).run Tryz.prog w.drew = .ok (goInt (Nat.min (n + m - i) (n + m - (i + m)))) (w.drew.setCells b ((i + m) * 2) (cs.drop (i * 2))) := fun ty dc sc =>
  a3u 2 w.drew _ _ ty 113 b ((i + m) * 2) (n + m - (i + m)) dc ⟨b, i * 2, none⟩ (n + m - i) sc (cs.drop (i * 2)) Tryz.underlying24 hsz (by rw [hdl]; simp only [Nat.min_def]; split <;> omega)
   (fun j v hj => by rw [Addr.add_lit]; exact hcs (i * 2 + j) v (by rwa [List.getElem?_drop] at hj))
   (fun j hj => hsp _ (by omega)) (fun j hj => hfz _ (by omega)) (fun v hv => h1c v (List.mem_of_mem_drop hv))
 obtain ⟨W1, hW1⟩ : ∃ W1, W1 = w.drew.setCells b ((i + m) * 2) (cs.drop (i * 2)) := ⟨_, rfl⟩
 have hsp1 : ∀ k, k < (n + m) * 2 -> (W1.cell? ⟨b, k, none⟩).isSome = true := fun k hk => by
  rw [hW1]
  exact a6l b (cs.drop (i * 2)) ((i + m) * 2) w.drew (fun j hj => hsp _ (by omega)) _ (hsp k hk)
 have hcp2 : ∀ (W : World), (∀ x, W.cell? x = W1.cell? x) -> (∀ x, W.frozen? x = W1.frozen? x) -> ∀ ty dc, (Builtin.copy_ #[24, 24] ty #[.slice (some ⟨b, i * 2, none⟩) (n + m - i) dc, .slice (some ⟨vb, 0, none⟩) m vc]).run Tryz.prog W = .ok (goInt (Nat.min m (n + m - i))) (W.setCells b (i * 2) vs) := fun W hWc hWf ty dc =>
  a3u 2 W _ _ ty 113 b (i * 2) (n + m - i) dc ⟨vb, 0, none⟩ m vc vs Tryz.underlying24 hsz (by rw [hvl]; simp only [Nat.min_def]; split <;> omega)
   (fun j v hj => by
    rw [Addr.add_lit, Nat.zero_add, hWc, hW1, World.cell?_setCells_out b _ _ _ _ (fun h _ => absurd h hvb)]
    exact hvs j v hj)
   (fun j hj => by rw [hWc]; exact hsp1 _ (by omega)) (fun j hj => by rw [hWf, hW1, World.frozen?_setCells]; exact hfz _ (by omega)) h1v
 rw [<- hW1] at hcp1
 go_enter Tryz.func171, Tryz.ntmps171
 go_wp2_with (simp only [hov])
 go_region_law_o (refine step_copy_runI rfl _ _ 24 24 rfl _ _ (by simp [Act.eval, Act.put]) (by simp [Act.eval, Act.put]) (hcp1 _ _ _) ?_)
 go_wp2_with (at_builtin; refine wpList_copy_runI _ rfl _ _ 24 24 rfl _ _ rfl rfl (hcp2 _ (fun _ => rfl) (fun _ => rfl) _ _) ?_)
 go_ret
 first | exact ⟨rfl, rfl⟩ | exact ⟨rfl, by rw [hW1]⟩
set_option maxRecDepth 100000 in
theorem b5W (v1 v2 : Value) (base : Option Addr) (n c vb m vc : Nat) (w w' : World) (v' : Value) (hm : 0 < m) (h1 : v1 = .slice base n c) (hn : n <= c) (hb : base = none -> c = 0) (h2 : v2 = .slice (some ⟨vb, 0, none⟩) m vc)
  (hrun : (Builtin.append_ #[24, 24] 24 #[v1, v2]).run Tryz.prog w = .ok v' w') :
  Calls Tryz.prog 171 #[v1, .int .i64 n, v2] w fun e w1 => e = .returned v' /\ w1 = w' := by
 subst h1 h2
 have hz1 : ¬ ((m : Int) = 0) := by omega
 have mixed : Tryz.prog.follows .mixedOrders = true := mixed
 go_enter Tryz.func171, Tryz.ntmps171
 cases base with
 | none =>
  have h0 := hb rfl
  have h00 : n = 0 := by omega
  subst h0 h00
  go_wp2_with (at_builtin; refine Lib.wpList_append_run _ rfl _ _ _ _ rfl _ _ rfl rfl _ _ hrun ?_)
  go_ret
  exact ⟨rfl, rfl⟩
 | some a =>
  obtain ⟨ab, ao, asp⟩ := a
  go_wp2_with (at_builtin; refine Lib.wpList_append_run _ rfl _ _ _ _ rfl _ _ rfl rfl _ _ hrun ?_)
  all_goals (go_ret; exact ⟨rfl, rfl⟩)
set_option maxRecDepth 100000 in
theorem c1O (b n c i vb m vc : Nat) (cs vs : List Value) (w : World) (hi : i < n) (hm : 0 < m) (hnc : n <= c) (hroom : c < n + m) (hbig : (n + m) * 24 <= 140737488355328)
  (hcl : cs.length = n * 2) (hvl : vs.length = m * 2)
  (hcs : ∀ (j : Nat) v, cs[j]? = some v -> w.cell? ⟨b, j, none⟩ = some v)
  (hvs : ∀ (j : Nat) v, vs[j]? = some v -> w.cell? ⟨vb, j, none⟩ = some v) (h1c : ∀ v ∈ cs, v.oneCell' = true) (h1v : ∀ v ∈ vs, v.oneCell' = true) :
  Calls Tryz.prog 171 #[.slice (some ⟨b, 0, none⟩) n c, .int .i64 i, .slice (some ⟨vb, 0, none⟩) m vc] w fun e w' =>
   e = .returned (.slice (some ⟨w.heap.size, 0, none⟩) (n + m) (grownCap w (n + m) c 113)) /\
   w' = (((w.alloc (.cells ((cs.take (i * 2)).toArray ++ Builtin.zeroCells #[.string ⟨#[]⟩, .int .i64 0] (n + m - i) ++ Builtin.zeroCells #[.string ⟨#[]⟩, .int .i64 0] (grownCap w (n + m) c 113 - (n + m))) 113)).drew.setCells w.heap.size (i * 2) vs).drew).setCells w.heap.size ((i + m) * 2) (cs.drop (i * 2)) := by
 have mixed : Tryz.prog.follows .mixedOrders = true := mixed
 obtain ⟨i0, hi0, hz0, hzs, hzb⟩ : ∃ i0, Tryz.prog.info? 113 = some i0 /\ i0.zero = some (.agg #[.string ⟨#[]⟩, .int .i64 0]) /\ i0.size = 2 /\ i0.bytes = 24 :=
  info_parts (show (Tryz.prog.info? 113).map (fun i => (i.zero, i.size, i.bytes)) = some (some (.agg #[.string ⟨#[]⟩, .int .i64 0]), 2, 24) by kernel_rfl)
 have hz1 : ¬ ((m : Int) = 0) := by omega
 have hz2 : ¬ ((i : Int) = (n : Int)) := by omega
 have hz3 : (c : Int) < (n : Int) + (m : Int) := by omega
 have hsz : (Tryz.prog.info? 113).map (·.size) = some 2 := by rw [hi0]; simp [hzs]
 have hbw : b < w.heap.size := block_lt_of_cell (hcs 0 _ (List.getElem?_eq_getElem (by omega)))
 have hvw : vb < w.heap.size := block_lt_of_cell (hvs 0 _ (List.getElem?_eq_getElem (by omega)))
 have hkk : (n : Int) + (m : Int) - (i : Int) = ((n + m - i : Nat) : Int) := by omega
 have hik : i + (n + m - i) = n + m := by omega
 have hold : (Builtin.firstCells i0.size i (.slice (some ⟨b, 0, none⟩) i c)).run Tryz.prog w.drew = .ok (cs.take (i * 2)).toArray w.drew := by
  rw [hzs]
  exact run_firstCells_some w.drew 2 i ⟨b, 0, none⟩ i c (cs.take (i * 2)) (by rw [List.length_take]; omega) (fun j v hj => by
   rw [Addr.add_lit]
   rw [List.getElem?_take] at hj
   split at hj
   ·rw [Nat.zero_add]; exact hcs j v hj
   ·cases hj)
 have hrz : ∀ ty, (Builtin.append_ #[24, 3] ty #[.slice (some ⟨b, 0, none⟩) i c, .int .i64 ((n : Int) + (m : Int) - (i : Int))]).run Tryz.prog w =
   .ok (.slice (some ⟨w.heap.size, 0, none⟩) (n + m) (grownCap w (n + m) c 113)) (w.drew.alloc (.cells ((cs.take (i * 2)).toArray ++ Builtin.zeroCells #[.string ⟨#[]⟩, .int .i64 0] (n + m - i) ++ Builtin.zeroCells #[.string ⟨#[]⟩, .int .i64 0] (grownCap w (n + m) c 113 - (n + m))) 113)) := fun ty => by
  have h := Lib.run_append_grow_zeros w 24 3 ty 113 i0 _ .i64 .i64 Tryz.underlying24 Tryz.underlying3 hi0 hz0 (some ⟨b, 0, none⟩) i c (cs.take (i * 2)) hold (n + m - i) (by omega) (by omega) (by omega) (by omega) (by rw [hzb]; omega) (by rw [hzb, hik]; exact growslice_fits hroom hbig)
  rw [hik] at h
  rw [hkk]
  exact h
 obtain ⟨G, hG⟩ : ∃ G, G = grownCap w (n + m) c 113 := ⟨_, rfl⟩
 obtain ⟨ROW, hROW⟩ : ∃ ROW : Array Value, ROW = (cs.take (i * 2)).toArray ++ Builtin.zeroCells #[.string ⟨#[]⟩, .int .i64 0] (n + m - i) ++ Builtin.zeroCells #[.string ⟨#[]⟩, .int .i64 0] (G - (n + m)) := ⟨_, rfl⟩
 rw [<- hG] at hrz ⊢
 rw [<- hROW] at hrz ⊢
 have hRl : (n + m) * 2 <= ROW.size := by
  rw [hROW]
  simp [Builtin.zeroCells]
  omega
 obtain ⟨W1, hW1⟩ : ∃ W1, W1 = w.drew.alloc (.cells ROW 113) := ⟨_, rfl⟩
 rw [<- hW1] at hrz
 have hN : ∀ j, j < (n + m) * 2 -> (W1.cell? ⟨w.heap.size, j, none⟩).isSome = true := fun j hj => by
  rw [hW1, World.cell?_alloc_at (w := w.drew) ROW _ w.heap.size j rfl, Array.getElem?_eq_getElem (by omega)]; rfl
 have hNf : ∀ j, W1.frozen? ⟨w.heap.size, j, none⟩ = false := fun j => by rw [hW1]; exact World.frozen?_alloc_at (w := w.drew) ROW _ w.heap.size j rfl
 have hOb : ∀ j v, w.cell? ⟨b, j, none⟩ = some v -> W1.cell? ⟨b, j, none⟩ = some v := fun j v h => by rw [hW1, World.cell?_alloc_past (w := w.drew) _ b j hbw]; exact h
 have hOv : ∀ j v, w.cell? ⟨vb, j, none⟩ = some v -> W1.cell? ⟨vb, j, none⟩ = some v := fun j v h => by rw [hW1, World.cell?_alloc_past (w := w.drew) _ vb j hvw]; exact h
 have hcpA : ∀ (W : World), (∀ x, W.cell? x = W1.cell? x) -> (∀ x, W.frozen? x = W1.frozen? x) -> ∀ ty dc, (Builtin.copy_ #[24, 24] ty #[.slice (some ⟨w.heap.size, i * 2, none⟩) (n + m - i) dc, .slice (some ⟨vb, 0, none⟩) m vc]).run Tryz.prog W = .ok (goInt (Nat.min m (n + m - i))) (W.setCells w.heap.size (i * 2) vs) := fun W hWc hWf ty dc =>
  a3u 2 W _ _ ty 113 w.heap.size (i * 2) (n + m - i) dc ⟨vb, 0, none⟩ m vc vs Tryz.underlying24 hsz (by rw [hvl]; simp only [Nat.min_def]; split <;> omega)
   (fun j v hj => by rw [Addr.add_lit, Nat.zero_add, hWc]; exact hOv _ v (hvs j v hj))
   (fun j hj => by rw [hWc]; exact hN _ (by omega)) (fun j hj => by rw [hWf]; exact hNf _) h1v
 have hGn : n + m <= G := by rw [hG]; exact grownCap_ge w _ _ _
 have hG63 : G <= 9223372036854775807 := by
  have := grownCap_le_maxLen w (n + m) c 113 (by unfold maxLen; omega)
  rw [<- hG] at this
  unfold maxLen at this
  omega
 have hGi : ¬ (G = i) := by omega
 have hGim : ¬ (G = i + m) := by omega
 have hci : ¬ (c = i) := by omega
 have hbN : b ≠ w.heap.size := by omega
 have hdl : (cs.drop (i * 2)).length = (n - i) * 2 := by rw [List.length_drop, hcl]; omega
 have hcpB : ∀ (W : World), (∀ x, W.cell? x = (W1.setCells w.heap.size (i * 2) vs).cell? x) -> (∀ x, W.frozen? x = (W1.setCells w.heap.size (i * 2) vs).frozen? x) -> ∀ ty dc sc, (Builtin.copy_ #[24, 24] ty #[.slice (some ⟨w.heap.size, (i + m) * 2, none⟩) (n + m - (i + m)) dc, .slice (some ⟨b, i * 2, none⟩) (n - i) sc]).run Tryz.prog W = .ok (goInt (Nat.min (n - i) (n + m - (i + m)))) (W.setCells w.heap.size ((i + m) * 2) (cs.drop (i * 2))) := fun W hWc hWf ty dc sc =>
  a3u 2 W _ _ ty 113 w.heap.size ((i + m) * 2) (n + m - (i + m)) dc ⟨b, i * 2, none⟩ (n - i) sc (cs.drop (i * 2)) Tryz.underlying24 hsz (by rw [hdl]; simp only [Nat.min_def]; split <;> omega)
   (fun j v hj => by
    rw [Addr.add_lit, hWc, World.cell?_setCells_out _ _ _ _ _ (fun h _ => absurd h hbN)]
    exact hOb _ v (hcs (i * 2 + j) v (by rwa [List.getElem?_drop] at hj)))
   (fun j hj => by rw [hWc]; exact a6l w.heap.size vs (i * 2) W1 (fun t ht => hN _ (by omega)) _ (hN _ (by omega)))
   (fun j hj => by rw [hWf, World.frozen?_setCells]; exact hNf _) (fun v hv => h1c v (List.mem_of_mem_drop hv))
 subst hW1
 have hE1 : ∀ x, ((w.alloc (.cells ROW 113)).drew).cell? x = (w.drew.alloc (.cells ROW 113)).cell? x := fun x => rfl
 have hE2 : ∀ x, ((w.alloc (.cells ROW 113)).drew).frozen? x = (w.drew.alloc (.cells ROW 113)).frozen? x := fun x => rfl
 have hF1 : ∀ x, (((w.alloc (.cells ROW 113)).drew.setCells w.heap.size (i * 2) vs).drew).cell? x = ((w.drew.alloc (.cells ROW 113)).setCells w.heap.size (i * 2) vs).cell? x := fun x => rfl
 have hF2 : ∀ x, (((w.alloc (.cells ROW 113)).drew.setCells w.heap.size (i * 2) vs).drew).frozen? x = ((w.drew.alloc (.cells ROW 113)).setCells w.heap.size (i * 2) vs).frozen? x := fun x => rfl
 have hw1 : IntKind.i64.wrap ((i : Int) + (m : Int)) = (i : Int) + (m : Int) := by rw [IntKind.wrap_i64]; omega
 have hb1 : (0 : Int) <= (i : Int) + (m : Int) := by omega
 have hin : i <= n := by omega
 have htn : ((i : Int) + (m : Int)).toNat = i + m := by omega
 have hb3 : (i : Int) <= (n : Int) := by omega
 clear hkk hik hold hROW hG hRl
 go_enter Tryz.func171, Tryz.ntmps171
 go_wp2_with (first
  | (at_builtin; refine Lib.wpList_append_run _ rfl _ _ _ _ rfl _ _ rfl rfl _ _ (hrz _) ?_)
  | (at_builtin; refine wpList_copy_runI _ rfl _ _ 24 24 rfl _ _ rfl rfl (hcpA _ hE1 hE2 _ _) ?_)
  | (at_builtin; refine wpList_copy_runI _ rfl _ _ 24 24 rfl _ _ rfl rfl (hcpB _ (fun _ => rfl) (fun _ => rfl) _ _ _) ?_))
 go_region_law_o (refine step_copy_runI rfl _ _ 24 24 rfl (.slice (some ⟨w.heap.size, (i + m) * 2, none⟩) (n + m - (i + m)) (G - (i + m))) (.slice (some ⟨b, i * 2, none⟩) (n - i) (c - i)) (by simp [Act.eval, Act.put]) (by simp [Act.eval, Act.put]) (hcpB _ hF1 hF2 3 (G - (i + m)) (c - i)) ?_)
 go_wp2
 go_ret
 exact ⟨rfl, rfl⟩
def a1N (l : List HeadD) (i : Nat) (f : HeadD) : List HeadD := l.take i ++ (f :: l.drop i)
theorem c8v (l : List HeadD) (i : Nat) (f : HeadD) : (a0c l).take i ++ (a0c [f] ++ (a0c l).drop i) = a0c (a1N l i f) := by simp [a0c, a1N, List.map_take, List.map_drop]
def cInsH : Con := { A := List HeadD × Nat × HeadD, X := Unit, n := 95, args := fun a => [.own 0 2 (a0c a.1), .int .i64 a.2.1, .own 1 2 (a0c [a.2.2])], boxes := fun _ => [], pre := fun a => a.2.1 <= a.1.length /\ a.1.length <= 1048576, post := fun _ _ => True, res := fun a _ => .own 8 2 (a0c (a1N a.1 a.2.1 a.2.2)), fin := fun a _ => [(8, .own 113 2 true (a0c (a1N a.1 a.2.1 a.2.2)))], owns := fun a => [(0, 113, 2, a0c a.1), (1, 113, 2, a0c [a.2.2])], mv := true }
theorem c4p : Has Tryz.prog 171 cInsH := by
 refine ⟨fun args w => Go.MuLone.run_callFunc_enter Tryz.func171 (by kernel_rfl) rfl args w, fun _ => ⟨(), trivial⟩, fun _ _ => rfl, ?_, trivial, .inl rfl⟩
 rintro ⟨l, i, f⟩ ⟨h1, h2⟩ c _ vs β fp hn hpin hlen hlen2 S
 replace h1 : i <= l.length := h1
 replace h2 : l.length <= 1048576 := h2
 have hp : c.pins = [] := hpin
 have hr := a6H hlen S
 obtain ⟨v0, vs1, rfl, r0, hr⟩ := hr.uncons
 obtain ⟨v1, vs2, rfl, r1, hr⟩ := hr.uncons
 obtain ⟨v2, vs3, rfl, r2, hr⟩ := hr.uncons
 cases hr
 have m0 : (cInsH.start2 (l, i, f)).m 0 = some (.own 113 2 true (a0c l)) := rfl
 have m1 : (cInsH.start2 (l, i, f)).m 1 = some (.own 113 2 true (a0c [f])) := rfl
 have m8 : (cInsH.start2 (l, i, f)).m 8 = none := rfl
 have e0 : v0 = β 0 := by cases r0 with | own _ _ h3 _ => exact (h3 _ _ _ _ m0).1
 have e2 : v2 = β 1 := by cases r2 with | own _ _ h3 _ => exact (h3 _ _ _ _ m1).1
 have e1 : v1 = .int .i64 i := by cases r1; rfl
 subst e1
 obtain ⟨_, hR1, B1⟩ := S.mem 1 _ m1
 rcases B1 with ⟨_, hc, _⟩ | ⟨b1, cap1, cs1, f1, q1, q2, q3, q4, q5, q6, q7, _⟩
 ·simp [a0c] at hc
 have q7 := q7 rfl
 have hl1 : (a0c [f]).length = 1 := rfl
 rw [hl1] at q1 q3 q6
 have hm1 : (a0c [f]).flatten = a1f f := by simp [a0c]
 have fin : ∀ {v' : Value} {w' : World}, (∃ β' fp' a', SatI c ⟨fun _ => none, get? [(8, .own 113 2 true (a0c (a1N l i f)))]⟩ a' w' β' fp' /\ RelL w' (get? [(8, .own 113 2 true (a0c (a1N l i f)))]) β' c [.own 8 2 (a0c (a1N l i f))] [v']) ->
   ∃ x, cInsH.post (l, i, f) x /\ ∃ v, Ending.returned v' = Ending.returned v /\ ∃ β' fp' a', SatI c (cInsH.end_ (l, i, f) x) a' w' β' fp' /\ RelL w' (get? (cInsH.fin (l, i, f) x)) β' c [cInsH.res (l, i, f) x] [v] :=
  fun ⟨β', fp', a', g1, g2⟩ => ⟨(), trivial, _, rfl, β', fp', a', g1, g2⟩
 by_cases hin : i = l.length
 ·-- at the end
  have hap := b8c (P := Tryz.prog) a0h S (ty := 24) (d := 8) (K := fun av m => av = .own 8 2 (a0c l ++ a0c [f]) /\ m 8 = some (.own 113 2 true (a0c l ++ a0c [f]))) (t := 24) (t2 := 24) r0 r2 (by
   simp -implicitDefEqProofs [cInsH, show a0c [f] = [a1f f] from rfl, a1f, a7Z, a6B, apnd, tTab, a0I, AV.base, AV.moved, m0, m1, m8, TI.flat, a6e]
   omega)
  obtain ⟨v', w', av, m, β', fp', g1, ⟨rfl, hm8⟩, g3, g4⟩ := hap
  have hins : a0c l ++ a0c [f] = a0c (a1N l i f) := by subst hin; simp [a0c, a1N]
  have hlast := c8C g3 hp (e := 113) (k := 2) (R := a0c l ++ a0c [f]) hm8
  obtain ⟨a', s1, s2⟩ := hlast
  have hv : v' = β' 8 := by cases g4 with | own _ _ h3 _ => exact (h3 113 2 true (a0c l ++ a0c [f]) hm8).1
  rw [<- hv] at s2
  rw [hins] at s1 s2
  have hcall : Calls Tryz.prog 171 #[v0, .int .i64 i, v2] c.w0 fun e w1 => e = .returned v' /\ w1 = w' := by
   obtain ⟨_, _, B0⟩ := S.mem 0 _ m0
   subst hin
   rcases B0 with ⟨p1, p2, p3⟩ | ⟨b, cap, cs, f0, p1, p2, p3, p4, p5, p6, p7, _⟩
   ·have : l = [] := by cases l with | nil => rfl | cons => simp [a0c] at p2
    subst this
    exact b5W v0 v2 none 0 0 b1 1 cap1 c.w0 w' v' (by omega) (by rw [e0, p1]) (by omega) (by simp) (by rw [e2, q1]) g1
   ·rw [eHeads_length] at p1 p3
    exact b5W v0 v2 (some ⟨b, 0, none⟩) l.length cap b1 1 cap1 c.w0 w' v' (by omega) (by rw [e0, p1]) p3 (by simp) (by rw [e2, q1]) g1
  refine hcall.mono ?_
  rintro e w1 ⟨rfl, rfl⟩
  exact fin ⟨β', fp', a', s1, s2⟩
 ·have hlt : i < l.length := by omega
  obtain ⟨_, hR0, B0⟩ := S.mem 0 _ m0
  rcases B0 with ⟨_, p2, _⟩ | ⟨b, cap, cs, f0, p1, p2, p3, p4, p5, p6, p7, _⟩
  ·exfalso
   have : l.length = 0 := by rw [<- eHeads_length, p2]; rfl
   omega
  have p7 := p7 rfl
  rw [eHeads_length] at p1 p3 p6
  have hcsl : cs.toList.length = cap * 2 := by rw [Array.length_toList, p5]
  have hcsl1 : cs1.toList.length = cap1 * 2 := by rw [Array.length_toList, q5]
  have hcl : (cs.toList.take (l.length * 2)).length = l.length * 2 := by rw [List.length_take, hcsl]; omega
  have hvl : (cs1.toList.take (1 * 2)).length = 1 * 2 := by rw [List.length_take, hcsl1]; omega
  have hvb : b1 ≠ b := fun e => S.disj 0 1 _ _ m0 m1 (by decide) b (by simp [Ob, p1]) (by simp [Ob, q1, e])
  have hI := fun {w' : World} {b' cap' : Nat} {cs' : Array Value} hblk hcap hmax hsz hcells hb' hother hsize hos htape hout =>
   c6L (w' := w') (b' := b') (cap' := cap') (cs' := cs') (i := i) S hp m0 m1 (by rw [eHeads_length]; exact h1) (by rw [p7]; exact p6) (by rw [q7]; exact q6) hblk hcap hmax hsz hcells hb' hother hsize hos htape hout
  rw [eHeads_length, hl1] at hI
  rw [c8v] at hI
  have hother0 : ∀ x, (∀ n cc, β 0 ≠ .slice (some ⟨x, 0, none⟩) n cc) -> x ≠ b := fun x h e => h l.length cap (by rw [e]; exact p1)
  by_cases hroom : l.length + 1 <= cap
  ·have hcall := b9y b l.length cap i b1 1 cap1 (cs.toList.take (l.length * 2)) (cs1.toList.take (1 * 2)) c.w0 hlt (by omega) hroom (by unfold maxLen at p4; omega) hvb hcl hvl (a6L p2)
    (fun j hj => by rw [World.cell_of p2, Array.getElem?_eq_getElem (show j < cs.size by omega)]; rfl) (fun j hj => by simp [World.frozen?, p2]) (a6L q2) p6.oneCell q6.oneCell
    _ _ _ _ (by simp [World.shape?, q2]; exact ⟨rfl, rfl⟩) (by simp [World.shape?, p2]; exact ⟨rfl, rfl⟩) (by rw [p5]; omega) (by simp [World.frozen?, q2]) (by simp [World.frozen?, q2])
   rw [e0, e2, p1, q1]
   refine hcall.mono ?_
   rintro e w' ⟨rfl, rfl⟩
   have hcs : cs = cs.toList.toArray := by simp
   have hb0 : c.w0.drew.heap[b]? = some (.cells cs.toList.toArray 113 (0, 0)) := by rw [<- hcs]; exact p2
   have hdl : ((cs.toList.take (l.length * 2)).drop (i * 2)).length = (l.length - i) * 2 := by rw [List.length_drop, hcl]; omega
   obtain ⟨z1, z2, z3, z4, z5, z6⟩ := a1W b ((cs.toList.take (l.length * 2)).drop (i * 2)) ((i + 1) * 2) c.w0.drew cs.toList _ _ hb0 (by rw [hdl, hcsl]; omega)
   obtain ⟨y1, y2, y3, y4, y5, y6⟩ := a1W b (cs1.toList.take (1 * 2)) (i * 2) _ _ _ _ z1 (by rw [hvl]; simp; omega)
   refine fin (hI y1 hroom p4 ?_ ?_ (.inr ⟨_, _, p1⟩) (fun x _ hx => (y2 x (hother0 x hx)).trans (z2 x (hother0 x hx))) ?_ (y4.trans z4) (y5.trans z5) (y6.trans z6))
   ·simp only [List.size_toArray]; simp; omega
   ·rw [List.toList_toArray]
    exact c1R (by omega) hcl (by simpa using hvl) h1 (by rw [List.take_take, Nat.min_eq_left (by omega)])
   ·rw [y3, z3]; exact Nat.le_refl _
  ·have hcall := c1O b l.length cap i b1 1 cap1 (cs.toList.take (l.length * 2)) (cs1.toList.take (1 * 2)) c.w0 hlt (by omega) p3 (by omega) (by omega) hcl hvl (a6L p2) (a6L q2) p6.oneCell q6.oneCell
   rw [e0, e2, p1, q1]
   refine hcall.mono ?_
   rintro e w' ⟨rfl, rfl⟩
   have hGn : l.length + 1 <= grownCap c.w0 (l.length + 1) cap 113 := grownCap_ge c.w0 _ _ _
   have hGm := grownCap_le_maxLen c.w0 (l.length + 1) cap 113 (by unfold maxLen; omega)
   generalize grownCap c.w0 (l.length + 1) cap 113 = G at hGn hGm ⊢
   generalize hrow : ((cs.toList.take (l.length * 2)).take (i * 2)).toArray ++ Builtin.zeroCells #[.string ⟨#[]⟩, .int .i64 0] (l.length + 1 - i) ++ Builtin.zeroCells #[.string ⟨#[]⟩, .int .i64 0] (G - (l.length + 1)) = ROW
   have hrl : ROW.size = G * 2 := by
    rw [<- hrow]
    simp [Builtin.zeroCells]
    omega
   have hrt : ROW.toList.take (i * 2) = (cs.toList.take (l.length * 2)).take (i * 2) := by
    rw [<- hrow]
    simp only [Array.toList_append, List.append_assoc]
    rw [List.take_left' (by rw [List.length_take, hcl]; omega)]
   have hrl2 : ROW.toList.length = G * 2 := by rw [Array.length_toList, hrl]
   have hb0 : (c.w0.alloc (.cells ROW 113)).drew.heap[c.w0.heap.size]? = some (.cells ROW.toList.toArray 113 (0, 0)) := by
    have : ROW = ROW.toList.toArray := by simp
    rw [<- this]
    exact heap_alloc_new c.w0 _
   have hdl : ((cs.toList.take (l.length * 2)).drop (i * 2)).length = (l.length - i) * 2 := by rw [List.length_drop, hcl]; omega
   obtain ⟨z1, z2, z3, z4, z5, z6⟩ := a1W c.w0.heap.size (cs1.toList.take (1 * 2)) (i * 2) (c.w0.alloc (.cells ROW 113)).drew ROW.toList _ _ hb0 (by rw [hvl, hrl2]; omega)
   obtain ⟨y1, y2, y3, y4, y5, y6⟩ := a1W c.w0.heap.size ((cs.toList.take (l.length * 2)).drop (i * 2)) ((i + 1) * 2) ((c.w0.alloc (.cells ROW 113)).drew.setCells c.w0.heap.size (i * 2) (cs1.toList.take (1 * 2))).drew _ _ _ z1 (by
    rw [hdl]
    simp only [List.length_append, List.length_take, List.length_drop, hrl2, hcsl1]
    omega)
   refine fin (hI y1 hGn hGm ?_ ?_ (.inl (Nat.le_refl _)) (fun x hx _ => (y2 x (by omega)).trans ((z2 x (by omega)).trans (heap_alloc_old c.w0 _ hx))) ?_ (y4.trans z4) (y5.trans z5) (y6.trans z6))
   ·simp only [List.size_toArray, List.length_append, List.length_take, List.length_drop, hrl2, hcsl1, hcsl]
    omega
   ·rw [List.toList_toArray]
    exact b9z (by omega) hcl (by simpa using hvl) h1 hrt
   ·rw [y3]
    show _ <= (World.setCells _ _ _ _).heap.size
    rw [z3]
    show _ <= (c.w0.alloc _).heap.size
    simp
end Vx
end Go.Proofs.YtokdjnbcdokpjaaGreatDoor
namespace Go.Proofs.YtokdjnbcdokpjaaGreatDoor
set_option maxHeartbeats 4000000
namespace Vx
open Go.RowKit
set_option maxRecDepth 8000
theorem b1P (b : HeadD) (p : Str) (x : Int) : (a0c [b] = [[D.str p, D.int .i64 x]]) = (b = ⟨p, x⟩) := by
 obtain ⟨q, y⟩ := b
 simp -implicitDefEqProofs [a0c, a1f]
theorem b7n (b : HeadD) (p : Str) (x : Int) : ([[D.str p, D.int .i64 x]] = a0c [b]) = (b = ⟨p, x⟩) := by
 rw [<- b1P]; exact propext ⟨Eq.symm, Eq.symm⟩
def gtB (a b : Str) : Bool := !Go.Op.bytesLess a b && !decide (a = b)
def a1Y (t : List HeadD) (p : Str) : Nat -> Nat
 | 0 => 0
 | k + 1 => if gtB (t.getD k default).name p then a1Y t p k else k + 1
theorem b9x (t : List HeadD) : ∀ x : List D, x ∈ a0c t -> ∀ d : D, d ∈ x -> match d with | D.sl _ _ _ => False | _ => True := by
 intro x hx d hd
 simp only [a0c, List.mem_map] at hx
 obtain ⟨h, _, rfl⟩ := hx
 simp only [a1f, List.mem_cons, List.not_mem_nil, or_false] at hd
 rcases hd with rfl | rfl <;> trivial
def a5M (t : List HeadD) (f : HeadD) : List HeadD := a1N t (a1Y t f.name t.length) f
theorem c1Q (t : List HeadD) (p : Str) : ∀ k, a1Y t p k <= k := by
 intro k
 induction k with
 | zero => exact Nat.le_refl _
 | succ k ih => unfold a1Y; split <;> omega
def a6R : Con := .fn 30 (List HeadD × HeadD) (fun a => [.sl true 2 (a0c a.1), .agg [.str a.2.name, .int .i64 a.2.at_]]) (fun a => a.1.length <= 1048576) (fun a => .own 8 2 (a0c (a5M a.1 a.2))) (fun a => a2E 8 (a5M a.1 a.2))
theorem b3l : Has Tryz.prog 148 a6R := by
 refine a0d mixed a0h (HasL.cons c4p HasL.nil) [0, 1, 3, 4, 5] ((fun a n (_ : Nat) => (fun a _ => ⟨Nat, fun k => ⟨[(0, true, .sl true 2 (a0c a.1)), (3, true, .ptr 10 0), (4, true, .nil), (5, true, .int .i64 k)], [(10, .box 113 [.str a.2.name, .int .i64 a.2.at_])]⟩, fun k => k <= a.1.length /\ a1Y a.1 a.2.name k = a1Y a.1 a.2.name a.1.length, fun k => k⟩) a n)) [] Tryz.func148 (by unfold Tryz.f148; rfl) (fun _ => ⟨(), trivial⟩) ?_
 intro a ha
 obtain ⟨t, f⟩ := a
 replace ha : t.length <= 1048576 := ha
 have g1 : ∀ k, 0 < k -> (h : k - 1 < t.length) -> gtB t[k - 1].name f.name = true -> a1Y t f.name (k - 1) = a1Y t f.name k := fun k h0 h hb => by
  obtain ⟨j, rfl⟩ : ∃ j, k = j + 1 := ⟨k - 1, by omega⟩
  simp only [Nat.add_sub_cancel] at h hb ⊢
  rw [a1Y, if_pos (by simp -implicitDefEqProofs [List.getD_eq_getElem?_getD, h, hb])]
 have g2 : ∀ k, 0 < k -> (h : k - 1 < t.length) -> gtB t[k - 1].name f.name = false -> a1Y t f.name k = k := fun k h0 h hb => by
  obtain ⟨j, rfl⟩ : ∃ j, k = j + 1 := ⟨k - 1, by omega⟩
  simp only [Nat.add_sub_cancel] at h hb
  rw [a1Y, if_neg (by simp -implicitDefEqProofs [List.getD_eq_getElem?_getD, h, hb])]
 have hfl := b9x t
 simp -implicitDefEqProofs [a6R, cInsH, Con.fn, tTab, b1P, b7n]
 try dsimp only
 have hfin : ∀ k, a1Y t f.name k = a1Y t f.name t.length -> a1Y t f.name k = k -> a5M t f = a1N t k f := fun k h1 h2 => by unfold a5M; rw [<- h1, h2]
 refine fun _ => ⟨⟨t.length, rfl, Nat.le_refl _, rfl⟩, fun k hk hp => ⟨fun h0 => ⟨⟨by omega, by omega⟩, fun _ _ => ⟨⟨by omega, by omega⟩, fun _ _ => ?_⟩⟩, fun h0 => ?_⟩⟩
 ·have hlt : k - 1 < t.length := by omega
  simp -implicitDefEqProofs [hlt, a1f, D.asStr]
  refine ⟨fun hb hn => ⟨⟨by omega, by omega⟩, fun _ _ => ⟨k - 1, by omega, ⟨by omega, by rw [g1 k h0 hlt (by simp -implicitDefEqProofs [gtB, hb, hn]), hp]⟩, by omega⟩⟩, fun hx => ?_⟩
  have e := hfin k hp (g2 k h0 hlt (by cases hq : Go.Op.bytesLess t[k - 1].name f.name with
   | true => simp -implicitDefEqProofs [gtB, hq]
   | false => simp -implicitDefEqProofs [gtB, hx hq]))
  exact ⟨hfl, ⟨by omega, by omega⟩, t, k, f, ⟨rfl, rfl, rfl⟩, ⟨rfl, rfl⟩, ⟨by omega, by omega⟩, e, e.symm⟩
 ·subst h0
  have e := hfin 0 hp rfl
  exact ⟨hfl, ⟨by omega, by omega⟩, t, 0, f, ⟨rfl, rfl, rfl⟩, ⟨rfl, rfl⟩, ⟨by omega, by omega⟩, e, e.symm⟩
def srt (l : List Str) : Prop := l.Pairwise fun a b => a < b
theorem b6D (l : List Str) (s x : Str) : x ∈ putS l s ↔ x = s \/ x ∈ l := by
 induction l with
 | nil => simp -implicitDefEqProofs [putS]
 | cons y l ih =>
  unfold putS
  split
  ·simp only [List.mem_cons, ih]
   constructor
   ·rintro (h | h | h) <;> simp -implicitDefEqProofs [h]
   ·rintro (h | h | h) <;> simp -implicitDefEqProofs [h]
  ·split
   ·rename_i h
    subst h
    simp only [List.mem_cons]
    constructor
    ·intro h; exact .inr h
    ·rintro (h | h)
     ·exact .inl h
     ·exact h
   ·simp only [List.mem_cons]
theorem c5q {l : List Str} (h : srt l) (s : Str) : srt (putS l s) := by
 induction l with
 | nil => simp -implicitDefEqProofs [putS, srt]
 | cons y l ih =>
  obtain ⟨h1, h2⟩ := List.pairwise_cons.1 h
  unfold putS
  rw [a4e]
  split
  ·rename_i hl
   have hl : y < s := by simpa using hl
   refine List.pairwise_cons.2 ⟨fun z hz => ?_, ih h2⟩
   rcases (b6D l s z).1 hz with rfl | hz
   ·exact hl
   ·exact h1 z hz
  ·rename_i hl
   have hl : ¬ y < s := by simpa using hl
   split
   ·exact h
   ·rename_i hn
    have hs := a9z y s hl hn
    refine List.pairwise_cons.2 ⟨fun z hz => ?_, h⟩
    rcases List.mem_cons.1 hz with rfl | hz
    ·exact hs
    ·exact a9A hs (h1 z hz)
theorem a9r (t : List FileD) : ∀ {l : List Str}, srt l -> srt (a1u l t) /\ ∀ x, x ∈ a1u l t ↔ x ∈ l \/ x ∈ t.map (·.path) := by
 induction t with
 | nil => intro l h; exact ⟨h, fun x => by simp -implicitDefEqProofs [a1u]⟩
 | cons f t ih =>
  intro l h
  obtain ⟨h1, h2⟩ := ih (c5q h f.path)
  refine ⟨h1, fun x => ?_⟩
  show x ∈ a1u (putS l f.path) t ↔ _
  rw [h2, b6D, List.map_cons, List.mem_cons]
  constructor
  ·rintro ((h | h) | h) <;> simp -implicitDefEqProofs [h]
  ·rintro (h | h | h) <;> simp -implicitDefEqProofs [h]
theorem a5P (o a b : List FileD) : srt (a0H o a b) /\ ∀ x, x ∈ a0H o a b ↔ x ∈ (o ++ a ++ b).map (·.path) := by
 obtain ⟨h1, h2⟩ := a9r o (l := []) .nil
 obtain ⟨h3, h4⟩ := a9r a h1
 obtain ⟨h5, h6⟩ := a9r b h3
 refine ⟨h5, fun x => ?_⟩
 show x ∈ a1u (a1u (a1u [] o) a) b ↔ _
 rw [h6, h4, h2]
 simp -implicitDefEqProofs [or_assoc]
theorem b6M : ∀ {l m : List Str}, srt l -> srt m -> (∀ x, x ∈ l ↔ x ∈ m) -> l = m
 | [], [], _, _, _ => rfl
 | [], y :: m, _, _, h => absurd ((h y).2 (by simp)) (by simp)
 | x :: l, [], _, _, h => absurd ((h x).1 (by simp)) (by simp)
 | x :: l, y :: m, hl, hm, h => by
  obtain ⟨l1, l2⟩ := List.pairwise_cons.1 hl
  obtain ⟨m1, m2⟩ := List.pairwise_cons.1 hm
  have e : x = y := by
   rcases List.mem_cons.1 ((h x).1 (by simp)) with e | hx
   ·exact e
   ·rcases List.mem_cons.1 ((h y).2 (by simp)) with e | hy
    ·exact e.symm
    ·exact absurd (l1 y hy) (a9y (m1 x hx))
  subst e
  congr 1
  refine b6M l2 m2 fun z => ?_
  have hz := h z
  simp only [List.mem_cons] at hz
  constructor
  ·intro q
   rcases hz.1 (.inr q) with rfl | q2
   ·exact absurd (l1 z q) (a3w z)
   ·exact q2
  ·intro q
   rcases hz.2 (.inr q) with rfl | q2
   ·exact absurd (m1 z q) (a3w z)
   ·exact q2
theorem c1P (l : List HeadD) (f : HeadD) (hp : l.Pairwise fun a b => Go.Op.bytesLess a.name b.name = true) : ∀ k, k <= l.length -> (∀ i, a1Y l f.name k <= i -> i < k -> gtB (l.getD i default).name f.name = true) /\ (0 < a1Y l f.name k -> gtB (l.getD (a1Y l f.name k - 1) default).name f.name = false) := by
 intro k
 induction k with
 | zero => intro _; exact ⟨fun i h1 h2 => by omega, fun h => by simp -implicitDefEqProofs [a1Y] at h⟩
 | succ k ih =>
  intro hk
  unfold a1Y
  split
  ·rename_i h
   obtain ⟨h1, h2⟩ := ih (by omega)
   refine ⟨fun i h3 h4 => ?_, h2⟩
   rcases Nat.lt_or_ge i k with h5 | h5
   ·exact h1 i h3 h5
   ·have : i = k := by omega
    subst this; exact h
  ·rename_i h
   exact ⟨fun i h3 h4 => by omega, fun _ => by simpa using h⟩
theorem c1I (n : Str) (a : Int) : ∀ (l X : List HeadD) (k : Nat), k <= l.length -> (∀ i, i < k -> Go.Op.bytesLess (l.getD i default).name n = true) -> (∀ i, k <= i -> i < l.length -> Go.Op.bytesLess (l.getD i default).name n = false /\ ¬ (l.getD i default).name = n) ->
  l.foldl (a1L n a) (X, false) = if k < l.length then (X ++ l.take k ++ [⟨n, a⟩] ++ l.drop k, true) else (X ++ l, false)
 | [], X, k, hk, _, _ => by simp
 | g :: l, X, 0, _, _, h2 => by
  have hg := h2 0 (by omega) (by simp)
  have hg1 : Go.Op.bytesLess g.name n = false /\ ¬ g.name = n := by simpa using hg
  have e : a1L n a (X, false) g = (X ++ [⟨n, a⟩] ++ [g], true) := by unfold a1L; simp -implicitDefEqProofs [hg1]
  have e2 : l.filter (fun g => decide (g.name ≠ n)) = l := by
   rw [List.filter_eq_self]
   intro z hz
   obtain ⟨i, hi, rfl⟩ := List.getElem_of_mem hz
   have := h2 (i + 1) (by omega) (by simp; omega)
   simp -implicitDefEqProofs [List.getD_eq_getElem?_getD, hi] at this
   simp -implicitDefEqProofs [this.2]
  rw [List.foldl_cons, e, a9V, e2]; simp
 | g :: l, X, k + 1, hk, h1, h2 => by
  have hg := h1 0 (by omega)
  have hg : Go.Op.bytesLess g.name n = true := by simpa using hg
  have hn : ¬ g.name = n := fun e => by rw [e, a5q] at hg; cases hg
  have e : a1L n a (X, false) g = (X ++ [g], false) := by unfold a1L; simp -implicitDefEqProofs [hg, hn]
  rw [List.foldl_cons, e, c1I n a l (X ++ [g]) k (by simpa using hk) (fun i hi => by have := h1 (i + 1) (by omega); simpa using this) (fun i h3 h4 => by have := h2 (i + 1) (by omega) (by simp; omega); simpa using this)]
  by_cases hc : k < l.length
  ·simp -implicitDefEqProofs [hc]
  ·simp -implicitDefEqProofs [hc]
theorem b5Q {l : List HeadD} {n : Str} {a : Int} (hl : ∀ i, 0 < i -> i < l.length -> Go.Op.bytesLess (l.getD (i - 1) default).name (l.getD i default).name = true) (hn : ∀ h ∈ l, ¬ h.name = n) :
  hSet l n a = a5M l ⟨n, a⟩ := by
 have hp := a8a hl
 obtain ⟨h1, h2⟩ := c1P l ⟨n, a⟩ hp l.length (Nat.le_refl _)
 have hk := c1Q l n l.length
 unfold a5M
 generalize hkk : a1Y l (⟨n, a⟩ : HeadD).name l.length = k at h1 h2 ⊢
 have hk : k <= l.length := by rw [<- hkk]; exact hk
 have hne : ∀ i (hi : i < l.length), ¬ (l.getD i default).name = n := fun i hi => by
  have := hn l[i] (List.getElem_mem hi)
  simpa [List.getD_eq_getElem?_getD, hi] using this
 have hlt : ∀ i j, (hij : i < j) -> (hj : j < l.length) -> Go.Op.bytesLess (l.getD i default).name (l.getD j default).name = true := fun i j hij hj => by
  have := List.pairwise_iff_getElem.1 hp i j (by omega) hj hij
  simpa [List.getD_eq_getElem?_getD, hj, (show i < l.length by omega)] using this
 have b1 : ∀ i, i < k -> Go.Op.bytesLess (l.getD i default).name n = true := fun i hi => by
  have q := h2 (by omega)
  have q : Go.Op.bytesLess (l.getD (k - 1) default).name n = true := by
   unfold gtB at q
   simp only [Bool.and_eq_false_iff, Bool.not_eq_false', decide_eq_true_eq] at q
   rcases q with q | q
   ·exact q
   ·exact absurd q (hne (k - 1) (by omega))
  rcases Nat.lt_or_ge i (k - 1) with h3 | h3
  ·exact a8g (hlt i (k - 1) h3 (by omega)) q
  ·have : i = k - 1 := by omega
   rw [this]; exact q
 have b2 : ∀ i, k <= i -> i < l.length -> Go.Op.bytesLess (l.getD i default).name n = false /\ ¬ (l.getD i default).name = n := fun i h3 h4 => by
  have q := h1 i h3 h4
  unfold gtB at q
  simp only [Bool.and_eq_true, Bool.not_eq_true', decide_eq_false_iff_not] at q
  exact q
 unfold hSet hL
 rw [c1I n a l [] k hk b1 b2]
 by_cases hc : k < l.length
 ·simp -implicitDefEqProofs [hc, a1N]
 ·have : k = l.length := by omega
  subst this
  simp -implicitDefEqProofs [a1N]
def owI (r : RepoD) : Inv := ⟨Nat, fun i => ⟨[(2, true, .ptr 12 0), (3, true, .ptr 11 0), (12, true, .sl true 3 (a0i r.commits)), (13, true, .int .i64 r.commits.length), (14, true, .int .i64 i)], [(12, a7H), (11, .box 26 [.own 13 3 (a0i (r.commits.take i)), .own 14 2 (a0c r.heads)]), (13, .own 34 3 true (a0i (r.commits.take i))), (14, .own 113 2 true (a0c r.heads))]⟩, fun i => i <= r.commits.length, fun i => r.commits.length - i⟩
def a7O : Con := .fn 35 RepoD (fun r => [a0V r]) rpSz (fun r => .agg [.own 8 3 (a0i r.commits), .own 9 2 (a0c r.heads)]) (fun r => a2z 8 r.commits ++ a2E 9 r.heads)
theorem a6s : Has Tryz.prog 74 a7O := by
 refine a0d mixed a0h (HasL.cons a4M HasL.nil) [0, 1, 2, 3, 5, 12, 13, 14] ((fun a n (_ : Nat) => (fun r _ => owI r) a n)) [30] Tryz.func74 (by unfold Tryz.f74; rfl) (fun _ => ⟨(), trivial⟩) ?_
 intro (r : RepoD) hr
 obtain ⟨h1, h2, h3⟩ : r.commits.length <= 1048576 /\ (∀ c ∈ r.commits, cmSz c) /\ r.heads.length <= 1048576 := hr
 simp (maxSteps := 8000000) -implicitDefEqProofs [a7O, a4s, Con.fn, tTab, owI, a0q]
 try dsimp only
 refine ⟨c5Y r.heads, ⟨by omega, by omega⟩, fun _ => ⟨⟨0, ⟨rfl, .inl rfl⟩, Nat.zero_le _⟩, fun t ht => ⟨fun hlt => ⟨hlt, fun _ => ?_⟩, fun hge => by rw [List.take_of_length_le hge]; exact ⟨rfl, rfl⟩⟩⟩⟩
 have e : r.commits.take (t + 1) = r.commits.take t ++ [r.commits[t]] := a0w hlt
 have hc := h2 _ (List.getElem_mem hlt)
 have qq : Option.map a0k r.commits[t]? = some (a0k r.commits[t]) := by simp -implicitDefEqProofs [hlt]
 have hm : min t r.commits.length = t := by omega
 rw [qq, hm]
 generalize r.commits[t] = c at *
 simp -implicitDefEqProofs [a0k]
 exact ⟨c5Z _, ⟨by have := hc.1; omega, by have := hc.1; omega⟩, hc.2, ⟨by omega, by omega⟩, ⟨by omega, by omega⟩, fun _ _ => ⟨t + 1, ⟨by omega, by rw [e, a3y], by rw [e, a3y]⟩, by omega, by omega⟩⟩
def ptL (l : List HeadD) (n : Str) (a : Int) : List HeadD := if l.any (fun h => decide (h.name = n)) then l.set (l.findIdx fun h => decide (h.name = n)) ⟨n, a⟩ else a5M l ⟨n, a⟩
theorem c7g {l : List HeadD} {n : Str} {a : Int} {i : Nat} (hi : i < l.length) (hb : ∀ j (hj : j < l.length), j < i -> ¬ l[j].name = n) (h : l[i].name = n) : ptL l n a = l.set i ⟨n, a⟩ := by
 have e : l.findIdx (fun h => decide (h.name = n)) = i := by
  rw [List.findIdx_eq hi]
  exact ⟨by simpa using h, fun j hj => by simpa using hb j (by omega) hj⟩
 unfold ptL
 rw [if_pos (List.any_eq_true.2 ⟨l[i], List.getElem_mem hi, by simpa using h⟩), e]
theorem c5m {l : List HeadD} {n : Str} {a : Int} (hb : ∀ j (hj : j < l.length), ¬ l[j].name = n) : ptL l n a = a5M l ⟨n, a⟩ := by
 unfold ptL
 rw [if_neg]
 simp only [List.any_eq_true, decide_eq_true_eq, not_exists, not_and]
 intro x hx
 obtain ⟨j, hj, rfl⟩ := List.getElem_of_mem hx
 exact hb j hj
def a5B (r : RepoD) : List (Nat × Nat × Nat × List (List D)) := [(0, 34, 3, a0i r.commits), (1, 113, 2, a0c r.heads)]
def poI (r : RepoD) (n : Str) (a : Int) : Inv := ⟨Nat, fun i => ⟨[(1, true, .str n), (2, true, .int .i64 a), (3, true, .ptr 10 0), (6, true, .ptr 12 0), (10, true, .int .i64 r.heads.length), (11, true, .int .i64 i)], [(12, a7H), (10, .box 26 [.own 13 3 (a0i r.commits), .own 14 2 (a0c r.heads)]), (13, .own 34 3 true (a0i r.commits)), (14, .own 113 2 true (a0c r.heads))]⟩, fun i => i <= r.heads.length /\ ∀ j (hj : j < r.heads.length), j < i -> ¬ r.heads[j].name = n, fun i => r.heads.length - i⟩
def a8U : Con := { A := RepoD × Str × Int, X := Unit, n := 38, args := fun a => [.agg [.own 0 3 (a0i a.1.commits), .own 1 2 (a0c a.1.heads)], .str a.2.1, .int .i64 a.2.2], boxes := fun _ => [], pre := fun a => a.1.heads.length <= 1048576, post := fun _ _ => True, res := fun a _ => .agg [.own 8 3 (a0i a.1.commits), .own 9 2 (a0c (ptL a.1.heads a.2.1 a.2.2))], fin := fun a _ => a2z 8 a.1.commits ++ a2E 9 (ptL a.1.heads a.2.1 a.2.2), owns := fun a => a5B a.1, mv := true }
theorem a9q : Has Tryz.prog 105 a8U := by
 refine a0d mixed a0h (HasL.cons b3l HasL.nil) [0, 1, 2, 3, 6, 7, 10, 11] ((fun a n (_ : Nat) => (fun a _ => poI a.1 a.2.1 a.2.2) a n)) [] Tryz.func105 (by unfold Tryz.f105; rfl) (fun _ => ⟨(), trivial⟩) ?_
 intro a ha
 obtain ⟨r, n, b⟩ := a
 replace ha : r.heads.length <= 1048576 := ha
 simp (maxSteps := 8000000) -implicitDefEqProofs [a8U, a5B, a6R, Con.fn, tTab, poI]
 try dsimp only
 refine fun _ t ht hb => ⟨fun hlt => ⟨hlt, fun _ => ?_⟩, fun hge => ?_⟩
 ·have qq : Option.map a1f r.heads[t]? = some (a1f r.heads[t]) := by simp -implicitDefEqProofs [hlt]
  have hh := c7g (a := b) hlt hb
  have hb2 : ¬ r.heads[t].name = n -> ∀ (j : Nat) (hj : j < r.heads.length), j < t + 1 -> ¬ r.heads[j].name = n := fun h j hj hjt => by
   by_cases e : j = t
   ·subst e; exact h
   ·exact hb j hj (by omega)
  rw [qq]
  generalize r.heads[t] = f at *
  simp -implicitDefEqProofs [a1f]
  refine ⟨fun h => ⟨hlt, fun _ => ⟨hlt, ?_, ?_⟩⟩, fun h => ⟨⟨by omega, by omega⟩, fun _ _ => ⟨t + 1, by omega, ⟨by omega, hb2 h⟩, by omega⟩⟩⟩
  ·rw [hh h, <- h, <- b1Q]
  ·rw [hh h, <- h, <- b1Q]
 ·have e := c5m (a := b) fun j hj => hb j hj (by omega)
  exact ⟨r.heads, ⟨n, b⟩, ⟨rfl, rfl, rfl⟩, ha, e, e.symm⟩
def b1L : Con := { A := RepoD × RepoD, X := Unit, n := 12, args := fun a => [a0V a.1, .agg [.own 0 3 (a0i a.2.commits), .own 1 2 (a0c a.2.heads)]], boxes := fun _ => [], pre := fun a => rpSz a.1 /\ a2a a.2, post := fun _ _ => True, res := fun a _ => .tup [.agg [.own 8 3 (a0i (if a0l a.2 then a.2 else a.1).commits), .own 9 2 (a0c (if a0l a.2 then a.2 else a.1).heads)], .bool (a0l a.2)], fin := fun a _ => a2z 8 (if a0l a.2 then a.2 else a.1).commits ++ a2E 9 (if a0l a.2 then a.2 else a.1).heads, owns := fun a => a5B a.2, mv := true }
theorem b4j : Has Tryz.prog 123 b1L := by
 refine a0d mixed a0h (HasL.cons a6s (HasL.cons a2R HasL.nil)) [0, 1, 2, 3, 4, 5] ((fun a n (_ : Nat) => (fun _ => a0r) a n)) [] Tryz.func123 (by unfold Tryz.f123; rfl) (fun _ => ⟨(), trivial⟩) ?_
 intro a ha
 obtain ⟨r, x⟩ := a
 obtain ⟨h1, h2⟩ : rpSz r /\ a2a x := ha
 simp (maxSteps := 8000000) -implicitDefEqProofs [b1L, a5B, a7O, a3F, Con.fn, tTab, a0q]
 try dsimp only
 refine ⟨h2, fun h => ⟨h1, ?_⟩, fun h => ?_⟩
 ·rw [if_neg (by simp -implicitDefEqProofs [h])]; exact ⟨⟨⟨rfl, rfl⟩, h⟩, rfl, rfl⟩
 ·rw [if_pos h]; exact ⟨⟨⟨rfl, rfl⟩, h⟩, rfl, rfl⟩
def cmL (r : RepoD) (n : Str) (c : CommitD) : RepoD := ⟨r.commits ++ [c], ptL r.heads n r.commits.length⟩
def b1M (a : RepoD × Str × Str × List FileD × List Int) : List (Nat × Nat × Nat × List (List D)) := [(0, 34, 3, a0i a.1.commits), (1, 113, 2, a0c a.1.heads), (2, 3, 1, a0f a.2.2.2.2)]
def a9L : Con := { A := RepoD × Str × Str × List FileD × List Int, X := Unit, n := 28, args := fun a => [.agg [.own 0 3 (a0i a.1.commits), .own 1 2 (a0c a.1.heads)], .str a.2.1, .str a.2.2.1, .sl true 2 (a0b a.2.2.2.1), .own 2 1 (a0f a.2.2.2.2)], boxes := fun _ => [], pre := fun a => a.1.heads.length <= 1048576 /\ a.1.commits.length <= 1048576 /\ a.2.2.2.1.length <= 1048576 /\ ∀ f ∈ a.2.2.2.1, f.text.length <= 1048576, post := fun _ _ => True, res := fun a _ => .agg [.own 8 3 (a0i (cmL a.1 a.2.1 ⟨a.2.2.2.2, a.2.2.1, a.2.2.2.1⟩).commits), .own 9 2 (a0c (cmL a.1 a.2.1 ⟨a.2.2.2.2, a.2.2.1, a.2.2.2.1⟩).heads)], fin := fun a _ => a2z 8 (cmL a.1 a.2.1 ⟨a.2.2.2.2, a.2.2.1, a.2.2.2.1⟩).commits ++ a2E 9 (cmL a.1 a.2.1 ⟨a.2.2.2.2, a.2.2.1, a.2.2.2.1⟩).heads, owns := b1M, mv := true }
theorem b1O : Has Tryz.prog 124 a9L := by
 refine a0d mixed a0h (HasL.cons a4M (HasL.cons a9q HasL.nil)) [0, 1, 2, 3, 4, 5, 10] ((fun a n (_ : Nat) => (fun _ => a0r) a n)) [18] Tryz.func124 (by unfold Tryz.f124; rfl) (fun _ => ⟨(), trivial⟩) ?_
 intro a ha
 obtain ⟨r, n, w, t, P⟩ := a
 obtain ⟨h1, h2, h3, h4⟩ : r.heads.length <= 1048576 /\ r.commits.length <= 1048576 /\ t.length <= 1048576 /\ ∀ f ∈ t, f.text.length <= 1048576 := ha
 simp (maxSteps := 8000000) -implicitDefEqProofs [a9L, b1M, a5B, a8U, a4s, Con.fn, tTab, a0q]
 try dsimp only
 have sn : a0i r.commits ++ [[D.sl 3 1 (a0f P), D.str w, D.sl 39 2 (a0b t)]] = a0i (r.commits ++ [⟨P, w, t⟩]) := a3y _ _ _ _
 rw [sn]
 exact ⟨⟨h3, h4⟩, ⟨by omega, by omega⟩, fun _ => ⟨by omega, fun _ => ⟨⟨r.commits ++ [⟨P, w, t⟩], r.heads⟩, n, _, ⟨⟨rfl, rfl⟩, rfl, rfl⟩, ⟨rfl, rfl⟩, h1, ⟨rfl, rfl⟩, rfl, rfl⟩⟩⟩
theorem b3Q {k : Nat} {l : List HeadD} (h : a1U k l = true) : ∀ i, 0 < i -> i < l.length -> Go.Op.bytesLess (l.getD (i - 1) default).name (l.getD i default).name = true := fun i h3 h4 => by
 have := ((a2b _ _).1 h).2 i h4
 unfold okHd at this
 simp only [Bool.and_eq_true, Bool.or_eq_true, decide_eq_true_eq] at this
 rcases this.2 with h5 | h5
 ·omega
 ·exact h5
theorem c7u (n : Str) (a : Int) : ∀ (l : List HeadD), (l.Pairwise fun a b => Go.Op.bytesLess a.name b.name = true) -> (∃ x ∈ l, x.name = n) -> l.set (l.findIdx fun h => decide (h.name = n)) ⟨n, a⟩ = l.map (hAt n a) := by
 intro l
 induction l with
 | nil => rintro _ ⟨_, h, _⟩; cases h
 | cons g l ih =>
  intro hp hx
  obtain ⟨hp1, hp2⟩ := List.pairwise_cons.1 hp
  by_cases hg : g.name = n
  ·have hne : ∀ z ∈ l, ¬ z.name = n := fun z hz hc => by
    have := hp1 z hz
    rw [hg, hc, a5q] at this
    cases this
   have e3 : l.map (hAt n a) = l := by
    have : l.map (hAt n a) = l.map id := List.map_congr_left fun z hz => by simp -implicitDefEqProofs [hAt, hne z hz]
    rw [this]; simp
   simp -implicitDefEqProofs [List.findIdx_cons, hg, e3, hAt]
  ·obtain ⟨z, hz, hzn⟩ := hx
   have hz : z ∈ l := by
    rcases List.mem_cons.1 hz with rfl | hz
    ·exact absurd hzn hg
    ·exact hz
   have := ih hp2 ⟨z, hz, hzn⟩
   simp -implicitDefEqProofs [List.findIdx_cons, hg, this, hAt]
theorem b2v {k : Nat} {l : List HeadD} {n : Str} {a : Int} (h : a1U k l = true) : ptL l n a = hSet l n a := by
 have hs := b3Q h
 unfold ptL
 split
 ·rename_i hn
  have hn : ∃ x ∈ l, x.name = n := by simpa using hn
  rw [b0Z hs hn]
  exact c7u n a l (a8a hs) hn
 ·rename_i hn
  have hn : ∀ h ∈ l, ¬ h.name = n := by simpa using hn
  exact (b5Q hs hn).symm
theorem b8e {n m : Str} {a : Int} : ∀ {l : List HeadD} (k : Nat), (∀ h ∈ l, ¬ h.name = n) -> atL (a1N l k ⟨n, a⟩) m = if n = m then a else atL l m
 | [], k, _ => by
  have e : a1N [] k (⟨n, a⟩ : HeadD) = [⟨n, a⟩] := by simp -implicitDefEqProofs [a1N]
  rw [e]; rfl
 | g :: l, 0, h => by
  have e : a1N (g :: l) 0 (⟨n, a⟩ : HeadD) = ⟨n, a⟩ :: g :: l := by simp -implicitDefEqProofs [a1N]
  rw [e]; rfl
 | g :: l, k + 1, h => by
  have e : a1N (g :: l) (k + 1) (⟨n, a⟩ : HeadD) = g :: a1N l k ⟨n, a⟩ := by simp -implicitDefEqProofs [a1N]
  rw [e]
  have ih := b8e (n := n) (m := m) (a := a) (l := l) k fun x hx => h x (by simp -implicitDefEqProofs [hx])
  show (if g.name = m then g.at_ else atL (a1N l k ⟨n, a⟩) m) = if n = m then a else if g.name = m then g.at_ else atL l m
  rw [ih]
  by_cases h1 : g.name = m
  ·have : ¬ n = m := fun e => h g (by simp) (h1.trans e.symm)
   simp -implicitDefEqProofs [h1, this]
  ·simp -implicitDefEqProofs [h1]
theorem b2J {n m : Str} {a : Int} : ∀ {l : List HeadD}, (∃ h ∈ l, h.name = n) -> atL (l.map (hAt n a)) m = if n = m then a else atL l m
 | [], h => by obtain ⟨_, h, _⟩ := h; cases h
 | g :: l, h => by
  have e : atL ((g :: l).map (hAt n a)) m = if (hAt n a g).name = m then (hAt n a g).at_ else atL (l.map (hAt n a)) m := rfl
  have e2 : atL (g :: l) m = if g.name = m then g.at_ else atL l m := rfl
  rw [e, e2]
  by_cases hg : g.name = n
  ·have e3 : hAt n a g = ⟨n, a⟩ := by unfold hAt; rw [if_pos hg]
   rw [e3]
   by_cases hm : n = m
   ·simp -implicitDefEqProofs [hm]
   ·simp only [hm, if_false]
    have : ¬ g.name = m := fun e => hm (hg.symm.trans e)
    simp only [this, if_false]
    by_cases hx : ∃ h ∈ l, h.name = n
    ·rw [b2J hx, if_neg hm]
    ·have e4 : l.map (hAt n a) = l := by
      have : l.map (hAt n a) = l.map id := List.map_congr_left fun z hz => by
       have : ¬ z.name = n := fun e => hx ⟨z, hz, e⟩
       simp -implicitDefEqProofs [hAt, this]
      rw [this]; simp
     rw [e4]
  ·have e3 : hAt n a g = g := by unfold hAt; rw [if_neg hg]
   rw [e3]
   obtain ⟨z, hz, hzn⟩ := h
   have hz : z ∈ l := by
    rcases List.mem_cons.1 hz with rfl | hz
    ·exact absurd hzn hg
    ·exact hz
   rw [b2J ⟨z, hz, hzn⟩]
   by_cases h1 : g.name = m
   ·have : ¬ n = m := fun e => hg (h1.trans e.symm)
    simp -implicitDefEqProofs [h1, this]
   ·simp -implicitDefEqProofs [h1]
theorem a5f {k : Nat} {l : List HeadD} {n m : Str} {a : Int} (h : a1U k l = true) : atL (hSet l n a) m = if n = m then a else atL l m := by
 have hs := b3Q h
 by_cases hn : ∃ x ∈ l, x.name = n
 ·rw [b0Z hs hn, b2J hn]
 ·have hn : ∀ x ∈ l, ¬ x.name = n := fun x hx e => hn ⟨x, hx, e⟩
  rw [b5Q hs hn]
  unfold a5M
  exact b8e _ hn
def parB (r : RepoD) : Prop := ∀ i, i < r.commits.length -> ∀ p ∈ (r.commits.getD i default).parents, 0 <= p /\ p < (i : Int)
theorem a5D {r : RepoD} (h : a0j r = true) : parB r := by
 intro i hi p hp
 have h1 := ((a0T r).1 h).1 i hi
 unfold okCS at h1
 simp only [Bool.and_eq_true, List.all_eq_true, List.mem_range] at h1
 obtain ⟨k, hk, rfl⟩ := List.getElem_of_mem hp
 have h2 := h1.1 k hk
 unfold oneP inN at h2
 simp only [Bool.and_eq_true, decide_eq_true_eq] at h2
 have e : (r.commits.getD i default).parents.getD k 0 = (r.commits.getD i default).parents[k] := by rw [List.getD_eq_getElem?_getD, List.getElem?_eq_getElem hk]; rfl
 rw [e] at h2
 omega
inductive Rch (r : RepoD) (a : Nat) : Nat -> Prop
 | refl : Rch r a a
 | step {x : Nat} {p : Int} : Rch r a x -> p ∈ (r.commits.getD x default).parents -> Rch r a p.toNat
theorem Rch.trans {r : RepoD} {a b c : Nat} (h1 : Rch r a b) (h2 : Rch r b c) : Rch r a c := by
 induction h2 with
 | refl => exact h1
 | step _ hp ih => exact ih.step hp
theorem c1F {l : List CommitD} {x : Nat} (h : l.length <= x) : (l.getD x default).parents = [] := by
 rw [List.getD_eq_getElem?_getD, List.getElem?_eq_none h]; rfl
theorem Rch.le {r : RepoD} {a x : Nat} (hp : parB r) (h : Rch r a x) : x <= a := by
 induction h with
 | refl => omega
 | @step x p _ hq ih =>
  rcases Nat.lt_or_ge x r.commits.length with h1 | h1
  ·have := hp x h1 p hq; omega
  ·rw [c1F h1] at hq; cases hq
theorem b5X (l : List Bool) (p g : Nat) : isT (l.set p true) g = (isT l g || (decide (p = g) && decide (g < l.length))) := by
 unfold isT
 rw [List.getD_eq_getElem?_getD, List.getD_eq_getElem?_getD]
 by_cases h : p = g
 ·subst h
  rw [List.getElem?_set_self']
  by_cases hl : p < l.length
  ·simp -implicitDefEqProofs [hl]
  ·rw [List.getElem?_eq_none (by omega)]; simp -implicitDefEqProofs [hl]
 ·rw [List.getElem?_set_ne h]; simp -implicitDefEqProofs [h]
theorem c4r (ps : List Int) : ∀ (l : List Bool) (g : Nat), isT (putT l ps) g = (isT l g || (ps.any (fun p => decide (p.toNat = g)) && decide (g < l.length))) := by
 induction ps with
 | nil => intro l g; simp -implicitDefEqProofs [putT]
 | cons p ps ih =>
  intro l g
  show isT (putT (l.set p.toNat true) ps) g = _
  rw [ih, b5X, List.length_set, List.any_cons]
  cases isT l g <;> cases decide (p.toNat = g) <;> cases (ps.any fun p => decide (p.toNat = g)) <;> cases decide (g < l.length) <;> rfl
theorem b5d {r : RepoD} (hp : parB r) (a : Nat) : ∀ (k : Nat) (l : List Bool), k <= r.commits.length -> l.length = r.commits.length -> (∀ g, isT l g = true -> Rch r a g) -> (∀ x, k <= x -> isT l x = true -> ∀ p ∈ (r.commits.getD x default).parents, isT l p.toNat = true) -> isT l a = true ->
  ∀ g, isT (ancF r k l) g = true ↔ Rch r a g
 | 0, l, _, hl, h1, h2, h3, g => by
  refine ⟨h1 g, fun h => ?_⟩
  show isT l g = true
  induction h with
  | refl => exact h3
  | step _ hq ih => exact h2 _ (Nat.zero_le _) ih _ hq
 | k + 1, l, hk, hl, h1, h2, h3, g => by
  have hk' : k < r.commits.length := by omega
  have key : ∀ x, isT (a4i r l k) x = (isT l x || (isT l k && ((r.commits.getD k default).parents.any (fun p => decide (p.toNat = x)) && decide (x < l.length)))) := by
   intro x
   unfold a4i
   cases hq : isT l k with
   | true => simp only [if_true]; rw [c4r]; simp
   | false => simp
  refine b5d hp a k (a4i r l k) (by omega) (by unfold a4i; split; rw [b6E, hl]; exact hl) (fun g hg => ?_) (fun x hx hg p hpx => ?_) (by rw [key, h3]; rfl) g
  ·rw [key] at hg
   simp only [Bool.or_eq_true, Bool.and_eq_true, List.any_eq_true, decide_eq_true_eq] at hg
   rcases hg with hg | ⟨hg, ⟨p, hpm, rfl⟩, _⟩
   ·exact h1 g hg
   ·exact (h1 k hg).step hpm
  ·rw [key] at hg ⊢
   simp only [Bool.or_eq_true, Bool.and_eq_true, List.any_eq_true, decide_eq_true_eq] at hg ⊢
   have hx' : isT l x = true := by
    rcases hg with hg | ⟨_, ⟨q, hq, e⟩, _⟩
    ·exact hg
    ·have := hp k hk' q hq
     omega
   by_cases e : x = k
   ·subst e
    have := hp x hk' p hpx
    exact .inr ⟨hx', ⟨p, hpx, rfl⟩, by rw [hl]; omega⟩
   ·exact .inl (h2 x (by omega) hx' p hpx)
theorem a9I {r : RepoD} (hp : parB r) {a : Nat} (ha : a < r.commits.length) (g : Nat) : isT (anc r a) g = true ↔ Rch r a g := by
 have e0 : ∀ g, isT ((List.replicate r.commits.length false).set a true) g = decide (a = g) := fun g => by
  rw [b5X]
  have : isT (List.replicate r.commits.length false) g = false := by
   unfold isT
   rw [List.getD_eq_getElem?_getD, List.getElem?_replicate]
   split <;> rfl
  rw [this]
  by_cases h : a = g
  ·subst h; simp -implicitDefEqProofs [ha]
  ·simp -implicitDefEqProofs [h]
 unfold anc
 have e1 : (((a : Int) + 1).toNat) = a + 1 := by omega
 have e2 : ((a : Int)).toNat = a := by omega
 rw [e1, e2]
 refine b5d hp a (a + 1) _ (by omega) (by simp) (fun g hg => ?_) (fun x hx hg => ?_) (by rw [e0]; simp) g
 ·rw [e0] at hg
  have : a = g := by simpa using hg
  subst this; exact .refl
 ·rw [e0] at hg
  have : a = x := by simpa using hg
  omega
theorem b8b {r : RepoD} (hp : parB r) {a x : Int} (ha : 0 <= a /\ a < r.commits.length) (hx : 0 <= x) : x ∈ a0g (anc r a) ↔ Rch r a.toNat x.toNat := by
 have hh := a9I hp (a := a.toNat) (by omega) x.toNat
 have ea : ((a.toNat : Nat) : Int) = a := by omega
 rw [ea] at hh
 rw [<- hh, listT_mem]
 constructor
 ·rintro ⟨i, _, h2, rfl⟩
  simpa using h2
 ·intro h
  exact ⟨x.toNat, a9W h, h, by omega⟩
theorem Rch.more {r : RepoD} {cs : List CommitD} {hs : List HeadD} (hp : parB r) {a x : Nat} (ha : a < r.commits.length) : Rch ⟨r.commits ++ cs, hs⟩ a x ↔ Rch r a x := by
 have key : ∀ x, x < r.commits.length -> ((r.commits ++ cs).getD x default) = r.commits.getD x default := fun x hx => by
  simp -implicitDefEqProofs [List.getD_eq_getElem?_getD, List.getElem?_append_left hx]
 constructor
 ·intro h
  have : Rch r a x := by
   induction h with
   | refl => exact .refl
   | @step x p _ hq ih =>
    have hle := ih.le hp
    have hq : p ∈ ((r.commits ++ cs).getD x default).parents := hq
    rw [key x (by omega)] at hq
    exact ih.step hq
  exact this
 ·intro h
  induction h with
  | refl => exact .refl
  | @step x p h0 hq ih =>
   have hle := h0.le hp
   refine ih.step ?_
   show p ∈ ((r.commits ++ cs).getD x default).parents
   rw [key x (by omega)]
   exact hq
def b2R : Con := .fn 36 (List Str × List Str × List Str) (fun a => [.sl true 1 (a0a a.1), .sl true 1 (a0a a.2.1), .sl true 1 (a0a a.2.2)]) (fun a => a.1.length <= 1048576 /\ a.2.1.length <= 1048576 /\ a.2.2.length <= 1048576) (fun a => .agg [.bool (a0Y a.1 a.2.1 a.2.2).clash, .own 8 1 (a0a (a0Y a.1 a.2.1 a.2.2).lines), .own 9 1 (a0a (a0Y a.1 a.2.1 a.2.2).old), .own 10 1 (a0a (a0Y a.1 a.2.1 a.2.2).one), .own 11 1 (a0a (a0Y a.1 a.2.1 a.2.2).two)]) (fun a => a2h 8 (a0Y a.1 a.2.1 a.2.2).lines ++ a2h 9 (a0Y a.1 a.2.1 a.2.2).old ++ a2h 10 (a0Y a.1 a.2.1 a.2.2).one ++ a2h 11 (a0Y a.1 a.2.1 a.2.2).two)
theorem b9Q : Has Tryz.prog 231 b2R := by
 refine a0d mixed a0h (HasL.cons b2d HasL.nil) [0, 1, 2, 6, 7] ((fun a n (_ : Nat) => (fun _ => a0r) a n)) [] Tryz.func231 (by unfold Tryz.f231; rfl) (fun _ => ⟨(), trivial⟩) ?_
 intro a ha
 obtain ⟨o, a, b⟩ := a
 obtain ⟨h1, h2, h3⟩ : o.length <= 1048576 /\ a.length <= 1048576 /\ b.length <= 1048576 := ha
 simp -implicitDefEqProofs [b2R, a9N, Con.fn, tTab]
 try dsimp only
 have f : ∀ (t : List Str), ∀ x ∈ a0a t, ∀ d ∈ x, match d with | .sl _ _ _ => False | _ => True := fun t => (eStrs_flat t).mpr trivial
 have e1 : a = o -> a0Y o a b = ⟨false, b, [], [], []⟩ := fun h => by unfold a0Y; rw [if_pos (.inl h)]
 have e2 : a = b -> a0Y o a b = ⟨false, b, [], [], []⟩ := fun h => by unfold a0Y; rw [if_pos (.inr h)]
 have e3 : ¬ a = o -> ¬ a = b -> b = o -> a0Y o a b = ⟨false, a, [], [], []⟩ := fun h h' h2 => by unfold a0Y; rw [if_neg (by simp -implicitDefEqProofs [h, h']), if_pos h2]
 have e4 : ¬ a = o -> ¬ a = b -> ¬ b = o -> a0Y o a b = ⟨true, [], o, a, b⟩ := fun h h' h2 => by unfold a0Y; rw [if_neg (by simp -implicitDefEqProofs [h, h']), if_neg h2]
 refine ⟨a, o, ⟨rfl, rfl⟩, fun h => ⟨fun _ => ?_, fun h' => absurd h h'⟩, fun h => ⟨a, b, ⟨rfl, rfl⟩, fun h2 => ?_, fun h2 => ⟨b, o, ⟨rfl, rfl⟩, fun h3 => ?_, fun h3 => ?_⟩⟩⟩
 ·rw [e1 h]; exact ⟨f b, ⟨by omega, by omega⟩, ⟨rfl, rfl, rfl, rfl, rfl⟩, rfl, rfl, rfl, rfl⟩
 ·rw [e2 h2]; exact ⟨f b, ⟨by omega, by omega⟩, ⟨rfl, rfl, rfl, rfl, rfl⟩, rfl, rfl, rfl, rfl⟩
 ·rw [e3 h h2 h3]; exact ⟨f a, ⟨by omega, by omega⟩, ⟨rfl, rfl, rfl, rfl, rfl⟩, rfl, rfl, rfl, rfl⟩
 ·rw [e4 h h2 h3]; exact ⟨f o, ⟨by omega, by omega⟩, f a, ⟨by omega, by omega⟩, f b, ⟨by omega, by omega⟩, ⟨rfl, rfl, rfl, rfl, rfl⟩, rfl, rfl, rfl, rfl⟩
theorem a3H {l : List PartD} {p : PartD} (h : p.clash = false) (h' : p.lines = []) : put3 l p = l := by unfold put3; rw [if_pos ⟨h, h'⟩]
theorem a5Z {m : List PartD} {q p : PartD} (h : q.clash = false) (h' : p.clash = false) (hx : ¬ p.lines = []) : put3 (m ++ [q]) p = m ++ [⟨q.clash, q.lines ++ p.lines, q.old, q.one, q.two⟩] := by unfold put3; rw [if_neg (by simp -implicitDefEqProofs [hx])]; simp -implicitDefEqProofs [h, h']
theorem a7u {m : List PartD} {q p : PartD} (h : q.clash = true) (hx : ¬ (p.clash = false /\ p.lines = [])) : put3 (m ++ [q]) p = m ++ [q] ++ [p] := by unfold put3; rw [if_neg hx]; simp -implicitDefEqProofs [h]
theorem a7v {l : List PartD} {p : PartD} (h : p.clash = true) : put3 l p = l ++ [p] := by
 unfold put3; rw [if_neg (by simp -implicitDefEqProofs [h])]
 split
 ·simp -implicitDefEqProofs [h]
 ·rfl
theorem a3I {p : PartD} (h : ¬ (p.clash = false /\ p.lines = [])) : put3 [] p = [p] := by unfold put3; rw [if_neg h]; simp
def l3A : (List PartD × PartD) ⊕ (List PartD × List Str) -> List PartD
 | .inl a => a.1
 | .inr a => a.1
def l3P : (List PartD × PartD) ⊕ (List PartD × List Str) -> PartD
 | .inl a => a.2
 | .inr a => ⟨false, a.2, [], [], []⟩
def b2f : (List PartD × PartD) ⊕ (List PartD × List Str) -> List AV
 | .inl a => [.own 0 5 (a0n a.1), .agg [.bool a.2.clash, .own 1 1 (a0a a.2.lines), .own 2 1 (a0a a.2.old), .own 3 1 (a0a a.2.one), .own 4 1 (a0a a.2.two)]]
 | .inr a => [.own 0 5 (a0n a.1), .agg [.bool false, .own 1 1 (a0a a.2), .nil, .nil, .nil]]
def b2g : (List PartD × PartD) ⊕ (List PartD × List Str) -> List (Nat × Nat × Nat × List (List D))
 | .inl a => [(0, 122, 5, a0n a.1), (1, 9, 1, a0a a.2.lines), (2, 9, 1, a0a a.2.old), (3, 9, 1, a0a a.2.one), (4, 9, 1, a0a a.2.two)]
 | .inr a => [(0, 122, 5, a0n a.1), (1, 9, 1, a0a a.2)]
def b1E : Con := { A := (List PartD × PartD) ⊕ (List PartD × List Str), X := Unit, n := 53, args := b2f, boxes := fun _ => [], pre := fun a => (l3A a).length <= 1048576 /\ (∀ q ∈ l3A a, q.lines.length <= 1073741824) /\ (l3P a).lines.length <= 1073741824, post := fun _ _ => True, res := fun a _ => .own 8 5 (a0n (put3 (l3A a) (l3P a))), fin := fun a _ => b1g 8 (put3 (l3A a) (l3P a)), owns := b2g, mv := true }
theorem c2h : Has Tryz.prog 230 b1E := by
 refine a0d mixed a0h HasL.nil [0, 1, 3, 4, 5] ((fun a n (_ : Nat) => (fun _ => a0r) a n)) [12287, 12333] Tryz.func230 (by unfold Tryz.f230; rfl) (fun _ => ⟨(), trivial⟩) ?_
 intro a ha
 rcases a with ⟨l, p⟩ | ⟨l, x⟩
 ·obtain ⟨h1, h2, h3⟩ : l.length <= 1048576 /\ (∀ q ∈ l, q.lines.length <= 1073741824) /\ p.lines.length <= 1073741824 := ha
  simp -implicitDefEqProofs [b1E, b2f, b2g, l3A, l3P, Con.fn, tTab]
  try dsimp only
  have f : ∀ (t : List Str), ∀ x ∈ a0a t, ∀ d ∈ x, match d with | .sl _ _ _ => False | _ => True := fun t => (eStrs_flat t).mpr trivial
  have sn : ∀ k : List PartD, a0n k ++ [[D.bool p.clash, D.sl 9 1 (a0a p.lines), D.sl 9 1 (a0a p.old), D.sl 9 1 (a0a p.one), D.sl 9 1 (a0a p.two)]] = a0n (k ++ [p]) := fun k => by simp -implicitDefEqProofs [a0n, a1Q]
  rw [sn]
  rcases List.eq_nil_or_concat l with rfl | ⟨m, q, rfl⟩
  ·simp
   repeat' (first | intro _ | apply And.intro)
   all_goals first | omega | (cases (Eq.trans (Eq.symm ‹p.clash = true›) ‹p.clash = false›)) | exact f _ | exact f _ _ (by assumption) _ (by assumption) | exact a3H (by first | assumption | rfl) (by assumption) | exact (a3H (by first | assumption | rfl) (by assumption)).symm | exact a3I (by simp_all) | exact (a3I (by simp_all)).symm | (rw [a5Z (by assumption) (by first | assumption | rfl) (by assumption)]; simp -implicitDefEqProofs [a0n, a1Q, a0a]) | (rw [a7v (by assumption)]; simp) | (rw [a7u (by assumption) (by simp_all)]; simp)
  ·have he : ∀ r, (a0n m ++ [r])[m.length]? = some r := fun r => by rw [List.getElem?_append_right (by simp)]; simp
   have hs : ∀ r, (a0n (m ++ [q])).set m.length r = a0n m ++ [r] := fun r => by simp -implicitDefEqProofs [a0n]
   have hq : (m ++ [q])[m.length]? = some q := by simp
   have hql := h2 q (by simp)
   have ee : ∀ r r', (a0n m ++ [r] = a0n (m ++ [r'])) = (r = a1Q r') := fun r r' => by simp -implicitDefEqProofs [a0n]
   have h1 : m.length + 1 <= 1048576 := by simpa using h1
   simp -implicitDefEqProofs [he, hs, a1Q, D.asBool, D.asRows]
   repeat' (first | intro _ | apply And.intro)
   all_goals first | omega | (cases (Eq.trans (Eq.symm ‹p.clash = true›) ‹p.clash = false›)) | exact f _ | exact f _ _ (by assumption) _ (by assumption) | exact a3H (by first | assumption | rfl) (by assumption) | exact (a3H (by first | assumption | rfl) (by assumption)).symm | exact a3I (by simp_all) | exact (a3I (by simp_all)).symm | (rw [a5Z (by assumption) (by first | assumption | rfl) (by assumption)]; simp -implicitDefEqProofs [a0n, a1Q, a0a]) | (rw [a7v (by assumption)]; simp) | (rw [a7u (by assumption) (by simp_all)]; simp)
 ·obtain ⟨h1, h2, h3⟩ : l.length <= 1048576 /\ (∀ q ∈ l, q.lines.length <= 1073741824) /\ x.length <= 1073741824 := ha
  simp -implicitDefEqProofs [b1E, b2f, b2g, l3A, l3P, Con.fn, tTab]
  try dsimp only
  have f : ∀ (t : List Str), ∀ x ∈ a0a t, ∀ d ∈ x, match d with | .sl _ _ _ => False | _ => True := fun t => (eStrs_flat t).mpr trivial
  have sn : ∀ k : List PartD, a0n k ++ [[D.bool false, D.sl 9 1 (a0a x), D.sl 9 1 [], D.sl 9 1 [], D.sl 9 1 []]] = a0n (k ++ [⟨false, x, [], [], []⟩]) := fun k => by simp -implicitDefEqProofs [a0n, a1Q]
  rw [sn]
  rcases List.eq_nil_or_concat l with rfl | ⟨m, q, rfl⟩
  ·simp
   repeat' (first | intro _ | apply And.intro)
   all_goals first | omega | (cases (Eq.trans (Eq.symm ‹p.clash = true›) ‹p.clash = false›)) | exact f _ | exact f _ _ (by assumption) _ (by assumption) | exact a3H (by first | assumption | rfl) (by assumption) | exact (a3H (by first | assumption | rfl) (by assumption)).symm | exact a3I (by simp_all) | exact (a3I (by simp_all)).symm | (rw [a5Z (by assumption) (by first | assumption | rfl) (by assumption)]; simp -implicitDefEqProofs [a0n, a1Q, a0a]) | (rw [a7v (by assumption)]; simp) | (rw [a7u (by assumption) (by simp_all)]; simp)
  ·have he : ∀ r, (a0n m ++ [r])[m.length]? = some r := fun r => by rw [List.getElem?_append_right (by simp)]; simp
   have hs : ∀ r, (a0n (m ++ [q])).set m.length r = a0n m ++ [r] := fun r => by simp -implicitDefEqProofs [a0n]
   have hq : (m ++ [q])[m.length]? = some q := by simp
   have hql := h2 q (by simp)
   have ee : ∀ r r', (a0n m ++ [r] = a0n (m ++ [r'])) = (r = a1Q r') := fun r r' => by simp -implicitDefEqProofs [a0n]
   have h1 : m.length + 1 <= 1048576 := by simpa using h1
   simp -implicitDefEqProofs [he, hs, a1Q, D.asBool, D.asRows]
   repeat' (first | intro _ | apply And.intro)
   all_goals first | omega | (cases (Eq.trans (Eq.symm ‹p.clash = true›) ‹p.clash = false›)) | exact f _ | exact f _ _ (by assumption) _ (by assumption) | exact a3H (by first | assumption | rfl) (by assumption) | exact (a3H (by first | assumption | rfl) (by assumption)).symm | exact a3I (by simp_all) | exact (a3I (by simp_all)).symm | (rw [a5Z (by assumption) (by first | assumption | rfl) (by assumption)]; simp -implicitDefEqProofs [a0n, a1Q, a0a]) | (rw [a7v (by assumption)]; simp) | (rw [a7u (by assumption) (by simp_all)]; simp)
theorem b6n (o a : List Str) : a0f (mt o a 0) ++ [[D.int .i64 (a.length : Int)]] = a0f (mtE o a) := by simp -implicitDefEqProofs [mtE, a0f, eInt]
def l3oI (o a b : List Str) : Inv := ⟨Nat, fun i => ⟨[(0, true, .sl true 1 (a0a o)), (1, true, .sl true 1 (a0a a)), (2, true, .sl true 1 (a0a b)), (6, true, .nil), (7, true, .own 9 5 (a0n (run3 o a b i).out)), (8, true, .own 10 1 (a0f (mtE o a))), (9, true, .own 11 1 (a0f (mtE o b))), (10, true, .int .i64 (run3 o a b i).io), (11, true, .int .i64 (run3 o a b i).ia), (12, true, .int .i64 (run3 o a b i).ib), (13, true, .int .i64 i)], [(9, .own 122 5 true (a0n (run3 o a b i).out)), (10, .own 3 1 true (a0f (mtE o a))), (11, .own 3 1 true (a0f (mtE o b)))]⟩, fun i => i <= o.length + 1, fun i => o.length + 1 - i⟩
def b9d : Con := .fn 93 (List Str × List Str × List Str) (fun a => [.sl true 1 (a0a a.1), .sl true 1 (a0a a.2.1), .sl true 1 (a0a a.2.2)]) (fun a => a.1.length <= 100000 /\ a.2.1.length <= 100000 /\ a.2.2.length <= 100000) (fun a => .own 8 5 (a0n (of3 a.1 a.2.1 a.2.2))) (fun a => b1g 8 (of3 a.1 a.2.1 a.2.2))
theorem c4B : Has Tryz.prog 217 b9d := by
 refine a0d mixed a0h (HasL.cons b7D (HasL.cons b9Q (HasL.cons c2h HasL.nil))) [0, 1, 2, 6, 7, 8, 9, 10, 11, 12, 13] ((fun a n (_ : Nat) => (fun a _ => l3oI a.1 a.2.1 a.2.2) a n)) [] Tryz.func217 (by unfold Tryz.f217; rfl) (fun _ => ⟨(), trivial⟩) ?_
 intro a ha
 obtain ⟨o, a, b⟩ := a
 obtain ⟨h1, h2, h3⟩ : o.length <= 100000 /\ a.length <= 100000 /\ b.length <= 100000 := ha
 simp (maxSteps := 4000000) -implicitDefEqProofs [b9d, b0K, b2R, b1E, b2f, b2g, l3A, l3P, Con.fn, tTab, l3oI, Sum.exists]
 try dsimp only
 have ea := b6n o a
 have eb := b6n o b
 have la := a4y o a
 have lb := a4y o b
 have m1 := a4T o a 0
 have m2 := a4T o b 0
 refine ⟨o, a, ⟨rfl, rfl⟩, ⟨by omega, by omega⟩, fun _ => ⟨⟨by omega, by omega⟩, o, b, ⟨rfl, rfl⟩, ⟨by omega, by omega⟩, fun _ => ⟨⟨by omega, by omega⟩, ⟨0, ⟨⟨rfl, ea.symm, eb.symm, rfl, rfl, rfl, rfl⟩, rfl, ea, eb⟩, Nat.zero_le _⟩, fun t ht hla => ⟨fun hlt => ?_, fun hge => ?_⟩⟩⟩⟩
 ·have ok := a5k o a b t ht
  have st : run3 o a b (t + 1) = a2c o a b ((mtE o a).getD t 0) ((mtE o b).getD t 0) t (run3 o a b t) := rfl
  obtain ⟨k1, k2, k3, k4, k5, k6, k7⟩ := ok
  have ga : (mtE o a).getD t 0 = (mtE o a)[t]'(by omega) := by simp -implicitDefEqProofs [List.getD_eq_getElem?_getD, List.getElem?_eq_getElem (show t < (mtE o a).length by omega)]
  have gb : (mtE o b).getD t 0 = (mtE o b)[t]'(by omega) := by simp -implicitDefEqProofs [List.getD_eq_getElem?_getD, List.getElem?_eq_getElem (show t < (mtE o b).length by omega)]
  have k4 := a5w (l := mtE o a) (by omega) k4
  have k5 := a5w (l := mtE o b) (by omega) k5
  have oa : (mtE o a)[t]? = some ((mtE o a)[t]'(by omega)) := List.getElem?_eq_getElem (by omega)
  have ob : (mtE o b)[t]? = some ((mtE o b)[t]'(by omega)) := List.getElem?_eq_getElem (by omega)
  rw [ga, gb] at st
  rw [oa, ob]
  generalize (mtE o a)[t]'(by omega) = x at *
  generalize (mtE o b)[t]'(by omega) = y at *
  generalize run3 o a b t = S at *
  obtain ⟨io, ia, ib, out⟩ := S
  simp only at k1 k2 k3 k4 k5 k6 k7
  simp -implicitDefEqProofs [eInt, D.asInt, hlt, la, lb, a0v, a0C]
  have skip : x < 0 \/ y < 0 -> run3 o a b (t + 1) = ⟨io, ia, ib, out⟩ := fun h => by rw [st]; unfold a2c; rw [if_pos h]
  have p1 : (List.take (t - io) (List.drop io o)) = (o.take t).drop io := (List.drop_take).symm
  have p2 : (List.take (x.toNat - ia) (List.drop ia a)) = (a.take x.toNat).drop ia := (List.drop_take).symm
  have p3 : (List.take (y.toNat - ib) (List.drop ib b)) = (b.take y.toNat).drop ib := (List.drop_take).symm
  rw [p1, p2, p3]
  refine ⟨by omega, fun _ => ⟨fun hx => ⟨⟨by omega, by omega⟩, fun _ _ => ⟨t + 1, by rw [skip (.inl hx)]; exact ⟨⟨⟨rfl, rfl, rfl, rfl, by omega⟩, rfl⟩, by omega, by omega⟩⟩⟩, fun hx => ⟨by omega, fun _ => ⟨fun hy => ⟨⟨by omega, by omega⟩, fun _ _ => ⟨t + 1, by rw [skip (.inr hy)]; exact ⟨⟨⟨rfl, rfl, rfl, rfl, by omega⟩, rfl⟩, by omega, by omega⟩⟩⟩, fun hy => ?_⟩⟩⟩⟩
  have st2 : run3 o a b (t + 1) = ⟨t + 1, x.toNat + 1, y.toNat + 1, if t < o.length then put3 (put3 out (a0Y ((o.take t).drop io) ((a.take x.toNat).drop ia) ((b.take y.toNat).drop ib))) ⟨false, [o.getD t []], [], [], []⟩ else put3 out (a0Y ((o.take t).drop io) ((a.take x.toNat).drop ia) ((b.take y.toNat).drop ib))⟩ := by rw [st]; unfold a2c; rw [if_neg (by omega)]
  have l1 : ((o.take t).drop io).length <= 100000 := by simp; omega
  have l2 : ((a.take x.toNat).drop ia).length <= 100000 := by simp; omega
  have l3 : ((b.take y.toNat).drop ib).length <= 100000 := by simp; omega
  have pl := b0s ((o.take t).drop io) ((a.take x.toNat).drop ia) ((b.take y.toNat).drop ib)
  refine ⟨⟨k1, by omega⟩, fun _ _ => ⟨by omega, fun _ => ⟨⟨by omega, by omega⟩, fun _ _ => ⟨by omega, fun _ => ⟨⟨by omega, by omega⟩, fun _ _ => ⟨_, _, _, ⟨rfl, rfl, rfl⟩, ⟨by omega, by omega, by omega⟩, out, a0Y _ _ _, ⟨rfl, rfl, rfl, rfl, rfl, rfl⟩, ⟨rfl, rfl, rfl, rfl, rfl⟩, ?_, ?_⟩⟩⟩⟩⟩⟩
  ·rintro q1 q2 (⟨rfl, rfl⟩ | ⟨rfl, rfl⟩ | ⟨rfl, rfl⟩ | ⟨rfl, rfl⟩ | ⟨rfl, rfl⟩) <;> simp
  have pl2 := a8m out (a0Y ((o.take t).drop io) ((a.take x.toNat).drop ia) ((b.take y.toNat).drop ib))
  have pb := b0a (p := a0Y ((o.take t).drop io) ((a.take x.toNat).drop ia) ((b.take y.toNat).drop ib)) k7
  generalize a0Y ((o.take t).drop io) ((a.take x.toNat).drop ia) ((b.take y.toNat).drop ib) = p at *
  refine ⟨⟨by omega, fun q hq => by have := k7 q hq; omega, by omega⟩, fun _ => ⟨fun hto => ?_, fun hto => ?_⟩⟩
  ·have go : o.getD t [] = o[t] := by simp -implicitDefEqProofs [List.getD_eq_getElem?_getD, hto]
   rw [if_pos hto, go] at st2
   simp -implicitDefEqProofs [hto, eStr, D.asStr]
   refine ⟨put3 out p, [o[t]], ⟨rfl, rfl⟩, ⟨rfl, rfl⟩, ?_, ⟨by omega, fun q hq => by have := pb q hq; omega, by simp⟩, ⟨by omega, by omega⟩, fun _ _ => ⟨by omega, fun _ => ⟨⟨by omega, by omega⟩, fun _ _ => ⟨by omega, fun _ => ⟨⟨by omega, by omega⟩, fun _ _ => ⟨⟨by omega, by omega⟩, fun _ _ => ⟨t + 1, ?_⟩⟩⟩⟩⟩⟩⟩
   ·rintro q1 q2 (⟨rfl, rfl⟩ | ⟨rfl, rfl⟩) <;> simp
   ·rw [st2]
    exact ⟨⟨⟨rfl, by simp, by simp; omega, by simp; omega, by omega⟩, rfl⟩, by omega, by omega⟩
  ·rw [if_neg (by omega)] at st2
   refine ⟨⟨by omega, by omega⟩, fun _ _ => ⟨by omega, fun _ => ⟨⟨by omega, by omega⟩, fun _ _ => ⟨by omega, fun _ => ⟨⟨by omega, by omega⟩, fun _ _ => ⟨⟨by omega, by omega⟩, fun _ _ => ⟨t + 1, ?_⟩⟩⟩⟩⟩⟩⟩
   rw [st2]
   exact ⟨⟨⟨rfl, by simp, by simp; omega, by simp; omega, by omega⟩, rfl⟩, by omega, by omega⟩
 ·have : t = o.length + 1 := by omega
  subst this
  exact ⟨rfl, rfl⟩
def a1p (l : List PartD) (i : Nat) : List Str := (l.take i).flatMap (·.lines)
def b2S : Con := .fn 29 (List PartD) (fun l => [.sl true 5 (a0n l)]) (fun l => l.length <= 1048576 /\ ∀ q ∈ l, q.lines.length <= 1048576) (fun l => .tup [.sl false 1 (a0a (a1v l).1), .bool (a1v l).2]) (fun _ => [])
theorem b9R : Has Tryz.prog 216 b2S := by
 refine a0d mixed a0h (HasL.cons b1b HasL.nil) [0, 2, 3, 4, 5] ((fun a n (_ : Nat) => (fun l _ => ⟨Nat, fun i => ⟨[(0, true, .sl true 5 (a0n l)), (2, true, .nil), (3, true, .bool false), (4, true, .own 9 1 (a0a (a1p l i))), (5, true, .int .i64 i)], [(9, .own 9 1 true (a0a (a1p l i)))]⟩, fun i => i <= l.length /\ (l.take i).any (·.clash) = false, fun i => l.length - i⟩) a n)) [] Tryz.func216 (by unfold Tryz.f216; rfl) (fun _ => ⟨(), trivial⟩) ?_
 intro (l : List PartD) ha
 obtain ⟨h1, h2⟩ : l.length <= 1048576 /\ ∀ q ∈ l, q.lines.length <= 1048576 := ha
 simp -implicitDefEqProofs [b2S, b1D, Con.fn, tTab]
 try dsimp only
 have hl0 : ∀ i, i <= l.length -> (a1p l i).length <= i * 1048576 := fun i => by
  induction i with
  | zero => intro _; simp -implicitDefEqProofs [a1p]
  | succ i ih =>
   intro h
   have e : a1p l (i + 1) = a1p l i ++ l[i].lines := by unfold a1p; rw [a0w (show i < l.length by omega), List.flatMap_append]; simp
   have := h2 l[i] (List.getElem_mem _)
   have := ih (by omega)
   rw [e, List.length_append]; clear e; omega
 have f : ∀ (t : List Str), ∀ x ∈ a0a t, ∀ d ∈ x, match d with | .sl _ _ _ => False | _ => True := fun t => (eStrs_flat t).mpr trivial
 have hn0 : (∃ q ∈ l, q.clash = true) -> a1v l = ([], false) := fun ⟨q, h, h'⟩ => by unfold a1v; rw [if_pos (by simp; exact ⟨q, h, h'⟩)]
 have hn1 : (∀ q ∈ l, q.clash = false) -> a1i (a1p l l.length) = false -> a1v l = ([], false) := fun h h' => by
  unfold a1v a1p at *; rw [List.take_length] at h'; rw [if_neg (by simp; exact h), if_neg (by simp -implicitDefEqProofs [h'])]
 have hn2 : (∀ q ∈ l, q.clash = false) -> a1i (a1p l l.length) = true -> a1v l = (a1p l l.length, true) := fun h h' => by
  unfold a1v a1p at *; rw [List.take_length] at *; rw [if_neg (by simp; exact h), if_pos h']
 refine ⟨⟨0, ⟨⟨rfl, rfl⟩, rfl⟩, Nat.zero_le _, by simp⟩, fun t ht hc _ => ⟨fun hlt => ⟨hlt, fun _ => ?_⟩, fun hge => ?_⟩⟩
 ·have e : a1p l (t + 1) = a1p l t ++ l[t].lines := by unfold a1p; rw [a0w hlt, List.flatMap_append]; simp
  have q1 := h2 l[t] (List.getElem_mem hlt)
  have q2 := hl0 t ht
  have q3 : l[t] ∈ l := List.getElem_mem hlt
  have q4 : ∀ x ∈ l.take (t + 1), x ∈ l.take t \/ x = l[t] := fun x hx => by rw [a0w hlt] at hx; exact (List.mem_append.1 hx).imp id (fun h => List.mem_singleton.1 h)
  have qq : Option.map a1Q l[t]? = some (a1Q l[t]) := by simp -implicitDefEqProofs [hlt]
  rw [qq]
  generalize l[t] = q at *
  simp -implicitDefEqProofs [a1Q, D.asBool, D.asRows]
  refine ⟨fun h => by rw [hn0 ⟨q, q3, h⟩]; exact ⟨rfl, rfl⟩, fun h => ⟨hlt, fun _ => ⟨f _, ⟨by omega, by omega⟩, ⟨by omega, by omega⟩, fun _ _ => ⟨t + 1, ⟨⟨by rw [e, a0o], by omega⟩, by rw [e, a0o]⟩, ⟨by omega, fun x hx => (q4 x hx).elim (hc x) (fun hx => hx ▸ h)⟩, by omega⟩⟩⟩⟩
 ·have : t = l.length := by omega
  subst this
  rw [List.take_length] at hc
  exact ⟨fun h => by rw [hn1 hc h]; exact ⟨rfl, rfl⟩, fun h => by rw [hn2 hc h]; exact ⟨rfl, rfl⟩⟩
def iniT (n w i : Nat) : List (List Int) := List.replicate i (List.replicate w 0) ++ List.replicate (n - i) []
theorem b1a {n w i : Nat} (h : i <= n) : (iniT n w i).length = n := by simp -implicitDefEqProofs [iniT]; omega
theorem c1N (n w : Nat) : a1g (iniT n w 0) = List.replicate n [D.sl 3 1 []] := by simp -implicitDefEqProofs [iniT, a1g, eRow]
theorem b5U (n w : Nat) : iniT n w n = List.replicate n (List.replicate w 0) := by simp -implicitDefEqProofs [iniT]
theorem b5V {n w i : Nat} (h : i < n) : (a1g (iniT n w i)).set i [D.sl 3 1 (List.replicate w [D.int .i64 0])] = a1g (iniT n w (i + 1)) := by
 have e : (iniT n w i).set i (List.replicate w 0) = iniT n w (i + 1) := by
  apply List.ext_getElem
  ·rw [List.length_set, b1a (by omega), b1a (by omega)]
  ·intro k h1 h2
   rw [List.getElem_set]
   simp only [iniT, List.getElem_append, List.length_replicate, List.getElem_replicate]
   by_cases hk : i = k
   ·subst hk; simp
   ·rw [if_neg hk]
    by_cases h3 : k < i
    ·rw [dif_pos h3, dif_pos (by omega)]
    ·rw [dif_neg h3, dif_neg (by omega)]
 rw [<- e]
 simp -implicitDefEqProofs [a1g, List.map_set, eRow, a0f, eInt]
def lcA (a b : List Str) : Inv := ⟨Nat, fun i => ⟨[(0, true, .sl true 1 (a0a a)), (1, true, .sl true 1 (a0a b)), (4, true, .nil), (5, true, .own 9 1 (a1g (iniT (a.length + 1) (b.length + 1) i))), (14, true, .int .i64 (a.length + 1 : Nat)), (15, true, .int .i64 i)], [(9, .own 32 1 true (a1g (iniT (a.length + 1) (b.length + 1) i)))]⟩, fun i => i <= a.length + 1, fun i => a.length + 1 - i⟩
def lcB (a b : List Str) : Inv := ⟨Nat, fun p => ⟨[(0, true, .sl true 1 (a0a a)), (1, true, .sl true 1 (a0a b)), (4, true, .nil), (5, true, .own 9 1 (a1g (tabF a b p (b.length + 1)))), (7, true, .int .i64 ((p : Int) - 1))], [(9, .own 32 1 true (a1g (tabF a b p (b.length + 1))))]⟩, fun p => p <= a.length, fun p => p⟩
def lcC (a b : List Str) (g : Nat) : Inv := ⟨Nat, fun q => ⟨[(0, true, .sl true 1 (a0a a)), (1, true, .sl true 1 (a0a b)), (4, true, .nil), (5, true, .own 9 1 (a1g (tabF a b g q))), (7, true, .int .i64 ((g : Int) - 1)), (8, true, .int .i64 ((q : Int) - 1))], [(9, .own 32 1 true (a1g (tabF a b g q)))]⟩, fun q => q <= b.length /\ 0 < g /\ g <= a.length, fun q => q⟩
def b4K (a b : List Str) (n g : Nat) : Inv := if n = 3 then lcA a b else if n = 8 then lcB a b else lcC a b g
theorem c6Q (a b g) : b4K a b 3 g = lcA a b := rfl
theorem c6R (a b g) : b4K a b 8 g = lcB a b := rfl
theorem c4G (a b g) : b4K a b 11 g = lcC a b g := rfl
def b9f : Con := .fn 89 (List Str × List Str) (fun a => [.sl true 1 (a0a a.1), .sl true 1 (a0a a.2)]) (fun a => a.1.length <= 1048576 /\ a.2.length <= 1048576) (fun a => .own 8 1 (a1g (tabF a.1 a.2 0 0))) (fun a => [(8, .own 32 1 true (a1g (tabF a.1 a.2 0 0)))])
theorem c4H : Has Tryz.prog 59 b9f := by
 refine a0d mixed a0h HasL.nil [0, 1, 4, 5, 6, 7, 8, 14, 15] (fun a => b4K a.1 a.2) [] Tryz.func59 (by unfold Tryz.f59; rfl) (fun _ => ⟨(), trivial⟩) ?_
 intro a ha
 obtain ⟨a, b⟩ := a
 obtain ⟨h1, h2⟩ : a.length <= 1048576 /\ b.length <= 1048576 := ha
 simp (maxSteps := 4000000) [b9f, Con.fn, tTab, c6Q, c6R, c4G, lcA, lcB, lcC]
 try dsimp only
 refine fun _ => ⟨by omega, fun _ _ => ⟨by omega, fun _ _ _ _ => ⟨⟨0, ⟨⟨c1N _ _, rfl⟩, (c1N _ _).symm⟩, Nat.zero_le _⟩, fun i hi => ⟨fun hlt _ => ⟨by omega, fun _ _ => ⟨by omega, fun _ _ _ => ⟨by rw [b1a hi]; omega, fun hx => ⟨hx, by omega, fun _ _ => ⟨i + 1, ⟨⟨(b5V (by omega)).symm, by omega⟩, b5V (by omega)⟩, by omega, by omega⟩⟩⟩⟩⟩, fun hge _ => ⟨by omega, fun _ _ => ⟨⟨a.length, ⟨⟨?_, rfl⟩, ?_⟩, Nat.le_refl _⟩, fun p hp => ⟨fun h1p _ => ⟨by omega, fun _ _ => ⟨p, ⟨b.length, ⟨⟨?_, rfl, rfl⟩, ?_⟩, Nat.le_refl _, by omega, hp⟩, fun q hq hg hga => ⟨fun hq1 => ?_, fun hq0 => ⟨by omega, fun _ _ => ⟨p - 1, ⟨⟨?_, by omega⟩, ?_⟩, by omega, by omega⟩⟩⟩⟩⟩, fun hp0 => ?_⟩⟩⟩⟩⟩⟩⟩
 ·rw [show i = a.length + 1 by omega, b5U, a6J rfl]
 ·rw [show i = a.length + 1 by omega, b5U, a6J rfl]
 ·rw [b0e]
 ·rw [b0e]
 ·obtain ⟨T, hT⟩ : ∃ T, T = tabF a b p q := ⟨_, rfl⟩
  have t1 := @b0f a b p q
  have t2 := a4C (a := a) (b := b) (p := p) (q := q) (r := p) (by omega)
  have t3 := a4C (a := a) (b := b) (p := p) (q := q) (r := p - 1) (by omega)
  have t4 : a[p - 1]? = some a[p - 1] := List.getElem?_eq_getElem (by omega)
  have t5 : b[q - 1]? = some b[q - 1] := List.getElem?_eq_getElem (by omega)
  have u1 := @a3U a b p q p
  have u2 := @a3U a b p q (p - 1)
  have u3 : (tabR a b p q p)[q]? = some (lcs (a.drop p) (b.drop q)) := by rw [a2X (by omega), if_pos (by omega)]
  have u4 : (tabR a b p q p)[q - 1]? = some (lcs (a.drop p) (b.drop (q - 1))) := by rw [a2X (by omega), if_pos (by omega)]
  have u5 : (tabR a b p q (p - 1))[q]? = some (lcs (a.drop (p - 1)) (b.drop q)) := by rw [a2X (by omega), if_pos (by omega)]
  have v1 := a7q (a.drop p) (b.drop q)
  have v2 := a7q (a.drop p) (b.drop (q - 1))
  have v3 := a7q (a.drop (p - 1)) (b.drop q)
  have v4 : (a.drop p).length <= a.length := by simp
  have v5 : (a.drop (p - 1)).length <= a.length := by simp
  have w1 := b8J (a := a) (b := b) (p := p) (q := q) hg hga (by omega) hq
  have w2 := b6g (a := a) (b := b) (p := p) (q := q) hg hga (by omega) hq
  rw [<- hT] at t1 t2 t3 w1 ⊢
  clear hT
  generalize lcs (a.drop p) (b.drop q) = L11 at *
  generalize lcs (a.drop p) (b.drop (q - 1)) = L10 at *
  generalize lcs (a.drop (p - 1)) (b.drop q) = L01 at *
  generalize tabR a b p q p = rB at *
  generalize tabR a b p q (p - 1) = rA at *
  simp -implicitDefEqProofs [t1, t2, t3, t4, t5, u1, u2, u3, u4, u5, eInt, eStr, D.asStr, eRow, D.asRows, D.asInt, and_assoc]
  have fin : ∀ v, v = lcs (a.drop (p - 1)) (b.drop (q - 1)) -> ∃ t', a1g (tabF a b p t') = (a1g T).set (p - 1) [D.sl 3 1 ((a0f rA).set (q - 1) [D.int .i64 v])] /\ (t' : Int) = q - 1 /\ (a1g T).set (p - 1) [D.sl 3 1 ((a0f rA).set (q - 1) [D.int .i64 v])] = a1g (tabF a b p t') /\ t' <= b.length /\ 0 < p /\ p <= a.length /\ t' < q :=
   fun v hv => ⟨q - 1, (w1 v hv).symm, by omega, w1 v hv, by omega, hg, hga, by omega⟩
  have fin1 := fun h => fin (L11 + 1) (by rw [w2, if_pos h])
  have fin2 := fun (h : ¬ a[p - 1] = b[q - 1]) => fin (if L10 < L01 then L01 else L10) (by rw [w2, if_neg h]; split <;> split <;> omega)
  clear w1 w2 fin
  repeat' (first | intro _ | apply And.intro)
  all_goals first | omega | exact fin1 (by assumption) | exact fin2 (by assumption)
 ·rw [show q = 0 by omega, a8u (by omega)]
 ·rw [show q = 0 by omega, a8u (by omega)]
 ·rw [show p = 0 by omega, b6Q]; exact ⟨rfl, rfl⟩
def maI (a b : List Str) : Inv := ⟨Nat × Nat × List Int, fun t => ⟨[(0, true, .sl true 1 (a0a a)), (1, true, .sl true 1 (a0a b)), (4, true, .nil), (5, true, .own 9 1 (a1g (tabF a b 0 0))), (6, true, .own 10 1 (a0f t.2.2)), (8, true, .int .i64 t.2.1), (7, true, .int .i64 t.1)], [(9, .own 32 1 true (a1g (tabF a b 0 0))), (10, .own 3 1 true (a0f t.2.2))]⟩,
 fun t => t.1 <= a.length /\ t.2.1 <= b.length /\ t.2.2.length = t.1 /\ t.2.2 ++ mt (a.drop t.1) (b.drop t.2.1) t.2.1 = mt a b 0, fun t => (a.length - t.1) + (b.length - t.2.1)⟩
def b2X : Con := .fn 72 (List Str × List Str) (fun a => [.sl true 1 (a0a a.1), .sl true 1 (a0a a.2)]) (fun a => a.1.length <= 1048576 /\ a.2.length <= 1048576) (fun a => .own 8 1 (a0f (mt a.1 a.2 0))) (fun a => a3d 8 (mt a.1 a.2 0))
theorem c0e : Has Tryz.prog 168 b2X := by
 refine a0d mixed a0h (HasL.cons c4H HasL.nil) [0, 1, 4, 5, 6, 7, 8] ((fun a n (_ : Nat) => (fun a _ => maI a.1 a.2) a n)) [] Tryz.func168 (by unfold Tryz.f168; rfl) (fun _ => ⟨(), trivial⟩) ?_
 intro a ha
 obtain ⟨a, b⟩ := a
 obtain ⟨h1, h2⟩ : a.length <= 1048576 /\ b.length <= 1048576 := ha
 simp (maxSteps := 4000000) [b2X, b9f, Con.fn, tTab, maI]
 try dsimp only
 refine ⟨a, b, ⟨rfl, rfl⟩, ⟨h1, h2⟩, ⟨0, 0, [], ⟨⟨rfl, rfl, rfl, rfl⟩, rfl, rfl⟩, Nat.zero_le _, Nat.zero_le _, rfl, by simp⟩, fun i k out hi hk hl hm _ => ⟨fun hlt => ?_, fun hge => ?_⟩⟩
 ·have t1 := @b0f a b 0 0
  have t2 := a4C (a := a) (b := b) (p := 0) (q := 0) (r := i) (by omega)
  have t3 := a4C (a := a) (b := b) (p := 0) (q := 0) (r := i + 1) (by omega)
  have u1 := @a3U a b 0 0 i
  have u2 := @a3U a b 0 0 (i + 1)
  have t4 : a[i]? = some a[i] := List.getElem?_eq_getElem hlt
  have m0 := c2v (a := a) (b := b) (i := i) (k := k) hlt
  rcases Nat.lt_or_ge k b.length with hkb | hkb
  ·have t5 : b[k]? = some b[k] := List.getElem?_eq_getElem hkb
   have u3 : (tabR a b 0 0 (i + 1))[k]? = some (lcs (a.drop (i + 1)) (b.drop k)) := by rw [a2X (by omega), if_pos (by omega)]
   have u4 : (tabR a b 0 0 i)[k + 1]? = some (lcs (a.drop i) (b.drop (k + 1))) := by rw [a2X (by omega), if_pos (by omega)]
   have m1 := b8u (a := a) (b := b) (i := i) (k := k) hlt hkb
   generalize tabF a b 0 0 = T at *
   generalize tabR a b 0 0 i = rA at *
   generalize tabR a b 0 0 (i + 1) = rB at *
   generalize lcs (a.drop (i + 1)) (b.drop k) = L1 at *
   generalize lcs (a.drop i) (b.drop (k + 1)) = L2 at *
   have g1 : ¬ (k : Int) = b.length := by omega
   have g3 : ¬ b.length <= k := by omega
   obtain ⟨_, u6⟩ := List.getElem?_eq_some_iff.1 u4
   simp -implicitDefEqProofs [hkb, g1, g3, t1, t2, t3, t4, t5, u1, u2, u3, u4, u6, eInt, eStr, D.asStr, eRow, D.asRows, D.asInt, and_assoc]
   refine ⟨hlt, fun _ => ⟨fun e => ⟨by omega, by omega, by omega, by omega, fun _ _ => ⟨by omega, by omega, fun _ _ => ⟨i + 1, k + 1, out ++ [(k : Int)], a4l _ _, by omega, by omega, (a4l _ _).symm, by omega, by omega, by simp -implicitDefEqProofs [hl], ?_, by omega⟩⟩⟩, fun e => ⟨by omega, by omega, fun _ _ => ⟨by omega, hlt, fun _ _ => ⟨by omega, fun _ => ⟨by omega, fun _ => ⟨by omega, by omega, fun _ _ => ⟨by omega, fun _ => ⟨fun c => ⟨by omega, by omega, by omega, by omega, fun _ _ => ⟨i + 1, k, out ++ [-1], a4l _ _, by omega, by omega, (a4l _ _).symm, by omega, by omega, by simp -implicitDefEqProofs [hl], ?_, by omega⟩⟩, fun c => ⟨by omega, by omega, fun _ _ => ⟨i, k + 1, by omega, by omega, by omega, by omega, hl, ?_, by omega⟩⟩⟩⟩⟩⟩⟩⟩⟩⟩⟩
   ·rw [<- hm, m1, if_pos e]; simp
   ·rw [<- hm, m1, if_neg e, if_pos c]; simp
   ·rw [<- hm, m1, if_neg e, if_neg (by omega)]
  ·have g1 : ¬ k < b.length := by omega
   have g2 : (k : Int) = b.length := by omega
   simp -implicitDefEqProofs [hkb, g1, g2, t4, eStr, D.asStr, and_assoc]
   refine ⟨by omega, by omega, by omega, by omega, fun _ _ => ⟨i + 1, k, out ++ [-1], a4l _ _, by omega, by omega, (a4l _ _).symm, by omega, by omega, by simp -implicitDefEqProofs [hl], ?_, by omega⟩⟩
   rw [<- hm, m0 (by omega)]; simp
 ·rw [List.drop_eq_nil_of_le hge, mt, List.append_nil] at hm
  exact ⟨hm.symm, hm⟩
def lnP (l : List Str) : PartD := ⟨false, l, [], [], []⟩
def b6G (a : List Str × List PartD) : List (Nat × Blk) := [(0, .box 163 [.own 8 5 (a0n (put3 a.2 (lnP a.1)))]), (8, .own 122 5 true (a0n (put3 a.2 (lnP a.1))))]
def b0R : Con := { A := List Str × List PartD, X := Unit, n := 36, args := fun a => [.sl true 1 (a0a a.1), .ptr 0 0], boxes := fun a => [(0, 163, [.own 1 5 (a0n a.2)])], pre := fun a => a.1.length <= 1073741824 /\ a.2.length <= 1048576 /\ ∀ q ∈ a.2, q.lines.length <= 1073741824, post := fun _ _ => True, res := fun _ _ => .tup [], fin := fun a _ => b6G a, owns := fun a => [(1, 122, 5, a0n a.2)], nob := false, mv := true }
theorem b7Q : Has Tryz.prog 169 b0R := by
 refine a0d mixed a0h HasL.nil [0, 1, 3] ((fun a n (_ : Nat) => (fun _ => a0r) a n)) [12287, 12321, 16409, 16410] Tryz.func169 (by unfold Tryz.f169; rfl) (fun _ => ⟨(), trivial⟩) ?_
 intro a ha
 obtain ⟨x, l⟩ := a
 obtain ⟨h1, h2, h3⟩ : x.length <= 1073741824 /\ l.length <= 1048576 /\ ∀ q ∈ l, q.lines.length <= 1073741824 := ha
 simp -implicitDefEqProofs [b0R, b6G, Con.fn, tTab]
 try dsimp only
 have f : ∀ (t : List Str), ∀ x ∈ a0a t, ∀ d ∈ x, match d with | .sl _ _ _ => False | _ => True := fun t => (eStrs_flat t).mpr trivial
 have sn : ∀ k : List PartD, a0n k ++ [[D.bool false, D.sl 9 1 (a0a x), D.sl 9 1 [], D.sl 9 1 [], D.sl 9 1 []]] = a0n (k ++ [lnP x]) := fun k => by simp -implicitDefEqProofs [a0n, a1Q, lnP]
 rw [sn]
 have hlc : (lnP x).clash = false := rfl
 have hll : (lnP x).lines = x := rfl
 have e0 : x = [] -> put3 l (lnP x) = l := fun h => a3H hlc (by rw [hll]; exact h)
 rcases List.eq_nil_or_concat l with rfl | ⟨m, q, rfl⟩
 ·have e4 : ¬ x = [] -> put3 [] (lnP x) = [lnP x] := fun h => a3I (by rw [hll]; simp -implicitDefEqProofs [h])
  clear hll hlc
  simp
  repeat' (first | intro _ | apply And.intro)
  all_goals first | omega | exact f _ | exact f _ _ (by assumption) _ (by assumption) | exact e0 (by assumption) | exact (e0 (by assumption)).symm | exact e4 (by assumption) | exact (e4 (by assumption)).symm
 ·have he : ∀ r, (a0n m ++ [r])[m.length]? = some r := fun r => by rw [List.getElem?_append_right (by simp)]; simp
  have hs : ∀ r, (a0n (m ++ [q])).set m.length r = a0n m ++ [r] := fun r => by simp -implicitDefEqProofs [a0n]
  have hq : (m ++ [q])[m.length]? = some q := by simp
  have hql := h3 q (by simp)
  have ee : ∀ r r', (a0n m ++ [r] = a0n (m ++ [r'])) = (r = a1Q r') := fun r r' => by simp -implicitDefEqProofs [a0n]
  have h2 : m.length + 1 <= 1048576 := by simpa using h2
  have e1 : q.clash = false -> ¬ x = [] -> put3 (m ++ [q]) (lnP x) = m ++ [⟨q.clash, q.lines ++ x, q.old, q.one, q.two⟩] := fun h h' => a5Z h hlc (by rw [hll]; exact h')
  have e2 : q.clash = true -> ¬ x = [] -> put3 (m ++ [q]) (lnP x) = m ++ [q] ++ [lnP x] := fun h h' => a7u h (by rw [hll]; simp -implicitDefEqProofs [h'])
  clear hll hlc
  rw [List.concat_eq_append] at e0
  simp -implicitDefEqProofs [he, hs, a1Q, D.asBool, D.asRows]
  repeat' (first | intro _ | apply And.intro)
  all_goals first | omega | exact f _ | exact f _ _ (by assumption) _ (by assumption) | exact e0 (by assumption) | exact (e0 (by assumption)).symm | (rw [e1 (by assumption) (by assumption)]; simp -implicitDefEqProofs [a0n, a1Q, a0a]; done) | (rw [e2 (by assumption) (by assumption)]; simp; done)
end Vx
end Go.Proofs.YtokdjnbcdokpjaaGreatDoor
/-
  DERIVED: THE SHELF's CONTRACTS AT THIS DUMP, IN PLAIN WORDS (tools/lay-plain.mjs out of 'YtokdjnbcdokpjaaGreatDoorShelf.lean', which tools/lay-shelf.mjs wrote): THE SAME DECLARATIONS UNDER THE SAME NAMES: 'import', 'namespace', 'open', 'def', 'theorem' AND NOTHING ELSE: no command of the shelf's: FOR A HAND-IN. Each laying: the table of numbers ('.._ren') and one theorem, a field a fact of the dump's own or the kernel's comparison; each contract: ONE APPLICATION.
-/
namespace Go.Proofs
open Go.Shelf
def Tryz.laysSort_ren : Go.Shelf.Ren := ⟨fun | 190 => 109 | 125 => 150 | 258 => 149 | 128 => 181 | 129 => 182 | 302 => 172 | 303 => 173 | 304 => 174 | 305 => 175 | 306 => 176 | 307 => 177 | 308 => 178 | 309 => 179 | 310 => 180 | 333 => 195 | 329 => 196 | 330 => 197 | 334 => 198 | 335 => 199 | 336 => 200 | 344 => 219 | n => n, fun | 31 => 35 | 9 => 9 | 3 => 3 | 46 => 169 | 0 => 0 | 51 => 194 | 53 => 196 | 4 => 4 | 183 => 187 | 182 => 186 | 131 => 191 | 5 => 5 | 218 => 211 | 222 => 215 | 228 => 229 | 229 => 29 | n => n, fun | n => n⟩
theorem Tryz.laysSort : Go.Proofs.Lays.n190 Tryz.prog Tryz.laysSort_ren := {
  mixed := by kernel_rfl
  f125 := Tryz.func150.trans (congrArg some (by kernel_rfl))
  f128 := Tryz.func181.trans (congrArg some (by kernel_rfl))
  f129 := Tryz.func182.trans (congrArg some (by kernel_rfl))
  f190 := Tryz.func109.trans (congrArg some (by kernel_rfl))
  f258 := Tryz.func149.trans (congrArg some (by kernel_rfl))
  f302 := Tryz.func172.trans (congrArg some (by kernel_rfl))
  f303 := Tryz.func173.trans (congrArg some (by kernel_rfl))
  f304 := Tryz.func174.trans (congrArg some (by kernel_rfl))
  f305 := Tryz.func175.trans (congrArg some (by kernel_rfl))
  f306 := Tryz.func176.trans (congrArg some (by kernel_rfl))
  f307 := Tryz.func177.trans (congrArg some (by kernel_rfl))
  f308 := Tryz.func178.trans (congrArg some (by kernel_rfl))
  f309 := Tryz.func179.trans (congrArg some (by kernel_rfl))
  f310 := Tryz.func180.trans (congrArg some (by kernel_rfl))
  f329 := Tryz.func196.trans (congrArg some (by kernel_rfl))
  f330 := Tryz.func197.trans (congrArg some (by kernel_rfl))
  f333 := Tryz.func195.trans (congrArg some (by kernel_rfl))
  f334 := Tryz.func198.trans (congrArg some (by kernel_rfl))
  f335 := Tryz.func199.trans (congrArg some (by kernel_rfl))
  f336 := Tryz.func200.trans (congrArg some (by kernel_rfl))
  f344 := Tryz.func219.trans (congrArg some (by kernel_rfl))
  t0 := Tryz.underlying0
  a0 := Tryz.isAgg0
  z0 := Tryz.sizeOf0
  v0 := Tryz.zeroValue0
  t3 := Tryz.underlying3
  a3 := Tryz.isAgg3
  z3 := Tryz.sizeOf3
  v3 := Tryz.zeroValue3
  t4 := Tryz.underlying4
  a4 := Tryz.isAgg4
  z4 := Tryz.sizeOf4
  v4 := Tryz.zeroValue4
  t5 := Tryz.underlying5
  a5 := Tryz.isAgg5
  z5 := Tryz.sizeOf5
  v5 := Tryz.zeroValue5
  t9 := Tryz.underlying9
  a9 := Tryz.isAgg9
  z9 := Tryz.sizeOf9
  v9 := Tryz.zeroValue9
  t31 := Tryz.underlying35
  a31 := Tryz.isAgg35
  z31 := Tryz.sizeOf35
  v31 := Tryz.zeroValue35
  t46 := Tryz.underlying169
  a46 := Tryz.isAgg169
  z46 := Tryz.sizeOf169
  v46 := Tryz.zeroValue169
  t51 := Tryz.underlying194
  a51 := Tryz.isAgg194
  z51 := Tryz.sizeOf194
  v51 := Tryz.zeroValue194
  t53 := Tryz.underlying196
  a53 := Tryz.isAgg196
  z53 := Tryz.sizeOf196
  v53 := Tryz.zeroValue196
  t131 := Tryz.underlying191
  a131 := Tryz.isAgg191
  z131 := Tryz.sizeOf191
  v131 := Tryz.zeroValue191
  t182 := Tryz.underlying186
  a182 := Tryz.isAgg186
  z182 := Tryz.sizeOf186
  v182 := Tryz.zeroValue186
  t183 := Tryz.underlying187
  a183 := Tryz.isAgg187
  z183 := Tryz.sizeOf187
  v183 := Tryz.zeroValue187
  t218 := Tryz.underlying211
  a218 := Tryz.isAgg211
  z218 := Tryz.sizeOf211
  v218 := Tryz.zeroValue211
  t222 := Tryz.underlying215
  a222 := Tryz.isAgg215
  z222 := Tryz.sizeOf215
  v222 := Tryz.zeroValue215
  t228 := Tryz.underlying229
  a228 := Tryz.isAgg229
  z228 := Tryz.sizeOf229
  v228 := Tryz.zeroValue229
  t229 := Tryz.underlying29
  a229 := Tryz.isAgg29
  z229 := Tryz.sizeOf29
  v229 := Tryz.zeroValue29 }
def Tryz.laysCompact_ren : Go.Shelf.Ren := ⟨fun | 194 => 110 | n => n, fun | 31 => 35 | 9 => 9 | 3 => 3 | 4 => 4 | 0 => 0 | n => n, fun | n => n⟩
theorem Tryz.laysCompact : Go.Proofs.Lays.n194 Tryz.prog Tryz.laysCompact_ren := {
  mixed := by kernel_rfl
  f194 := Tryz.func110.trans (congrArg some (by kernel_rfl))
  t0 := Tryz.underlying0
  a0 := Tryz.isAgg0
  z0 := Tryz.sizeOf0
  v0 := Tryz.zeroValue0
  t3 := Tryz.underlying3
  a3 := Tryz.isAgg3
  z3 := Tryz.sizeOf3
  v3 := Tryz.zeroValue3
  t4 := Tryz.underlying4
  a4 := Tryz.isAgg4
  z4 := Tryz.sizeOf4
  v4 := Tryz.zeroValue4
  t9 := Tryz.underlying9
  a9 := Tryz.isAgg9
  z9 := Tryz.sizeOf9
  v9 := Tryz.zeroValue9
  t31 := Tryz.underlying35
  a31 := Tryz.isAgg35
  z31 := Tryz.sizeOf35
  v31 := Tryz.zeroValue35 }
end Go.Proofs
namespace Go.Proofs.YtokdjnbcdokpjaaGreatDoor
set_option maxHeartbeats 4000000
namespace Vx
open Go.RowKit Go.Sort
theorem b2n {j : Nat} {v : Value} {c : Cx} {s : St} {a : Act} {w w' : World} {β : Nat -> Value} {fp : Nat -> List (Nat × Nat)} (S : SatI c s a w β fp) {e k : Nat} {R : List (List D)} {f : List (Nat × Nat)}
  (hpin : ∀ p ∈ c.pins, v = p.2 /\ p.1 = j) (hb : BlkOk w' (get? [(j, Blk.own e k true R)]) (fun _ => v) c j f (.own e k true R)) (hnd : (Ob (fun _ => v) j f (.own e k true R)).Nodup) (hfree : ∀ x ∈ Ob (fun _ => v) j f (.own e k true R), ¬ c.G x)
  (hG : ∀ b, c.G b -> w'.heap[b]? = w.heap[b]?) (hsize : w.heap.size <= w'.heap.size) (hos : w'.os = w.os) (htape : w'.tape = w.tape) (hout : w'.output = w.output) :
  ∃ β' fp' a', SatI c ⟨fun _ => none, get? [(j, .own e k true R)]⟩ a' w' β' fp' /\ RelL w' (get? [(j, .own e k true R)]) β' c [.own j k R] [v] := by
 refine ⟨fun _ => v, fun _ => f, ⟨Array.replicate c.n undef, []⟩, ⟨?_, ?_, ?_, ?_, ?_, S.fg, fun b hb => ⟨(S.old b hb).1, (hG b hb).trans (S.old b hb).2⟩, hos.trans S.os, htape.trans S.tape, hout.trans S.output, Nat.le_trans S.size hsize, rfl, by simp, fun p hp => ?_⟩, ?_⟩
 ·intro t g av h; cases h
 ·intro h blk hm; obtain ⟨rfl, rfl⟩ := get1 hm; exact hb
 ·intro h blk hm; obtain ⟨rfl, rfl⟩ := get1 hm; exact hnd
 ·intro h h' blk blk' hm hm' hne; obtain ⟨rfl, rfl⟩ := get1 hm; obtain ⟨rfl, rfl⟩ := get1 hm'; exact absurd rfl hne
 ·intro h blk hm x hx; obtain ⟨rfl, rfl⟩ := get1 hm; exact hfree x hx
 ·obtain ⟨h1, h2⟩ := hpin p hp
  exact ⟨h1, by rw [h2]; simp [get?]⟩
 ·exact a3e (h := j) (fps := fun _ => f) (by simp [get?]) hb hnd (fun h' blk' hm hne => by obtain ⟨rfl, rfl⟩ := get1 hm; exact absurd rfl hne) hfree
theorem b3t {q : Bool} {w : World} : ∀ {l : List Str}, (∀ s ∈ l, s.length <= maxLen) -> RdL q w (a0a l).flatten (l.map encStr) []
 | [], _ => .nil
 | s :: l, h => .str (h s (by simp)) (b3t fun x hx => h x (by simp [hx]))
theorem a6V {q : Bool} {w : World} : ∀ {l : List Str} {vs f}, RdL q w (a0a l).flatten vs f -> vs = l.map encStr /\ f = [] /\ ∀ s ∈ l, s.length <= maxLen
 | [], vs, f, h => by cases h; exact ⟨rfl, rfl, by simp⟩
 | s :: l, vs, f, h => by
  cases h with
  | str h1 h2 =>
   obtain ⟨rfl, rfl, h3⟩ := a6V (l := l) h2
   exact ⟨rfl, rfl, by simpa using ⟨h1, h3⟩⟩
theorem c2V {w : World} {n b : Nat} {d : List Str} {os : Array Obj} {cs : Array Value} {e : Nat} {fr : Nat × Nat} (hb : w.heap[b]? = some (.cells cs e fr)) :
  (grow (putRow encStr (Sort.ahead w n) b 0 d.toArray) os).heap[b]? = some (.cells (putCells encStr 0 d.toArray cs) e fr) /\
  (∀ x, x < w.heap.size -> x ≠ b -> (grow (putRow encStr (Sort.ahead w n) b 0 d.toArray) os).heap[x]? = w.heap[x]?) /\ w.heap.size <= (grow (putRow encStr (Sort.ahead w n) b 0 d.toArray) os).heap.size /\
  (putCells encStr 0 d.toArray cs).size = cs.size /\ ∀ k, k <= d.length -> k <= cs.size -> (putCells encStr 0 d.toArray cs).toList.take k = (d.take k).map encStr := by
 have hlt : b < w.heap.size := (Array.getElem?_eq_some_iff.1 hb).1
 refine ⟨?_, fun x hx hne => ?_, ?_, by simp [putCells], fun k hk hk2 => ?_⟩
 ·simp only [grow, putRow, mapBlock, Sort.ahead]
  rw [Array.getElem?_append_left (by simpa using hlt), Array.getElem?_modify, if_pos rfl, hb]
  rfl
 ·simp only [grow, putRow, mapBlock, Sort.ahead]
  rw [Array.getElem?_append_left (by simpa using hx), Array.getElem?_modify, if_neg (Ne.symm hne)]
 ·simp [grow, putRow, mapBlock, Sort.ahead]
 ·apply List.ext_getElem
  ·simp [putCells]; omega
  ·intro i h1 h2
   have hi : i < d.length := by simp at h2; omega
   simp only [List.getElem_take, List.getElem_map, putCells, Array.getElem_toList, Array.getElem_mapIdx]
   rw [if_pos (by simp; omega)]
   simp [hi]
def a2G (l : List Str) : List Str := l.mergeSort fun x y => decide (x <= y)
def cSortS : Con := { A := List Str, X := Unit, n := 11, args := fun l => [.own 0 1 (a0a l)], boxes := fun _ => [], pre := fun l => l.length <= 1048576, post := fun _ _ => True, res := fun _ _ => .tup [], fin := fun l _ => [(0, .own 9 1 true (a0a (a2G l)))], owns := fun l => [(0, 9, 1, a0a l)], lends := [0], mv := true }
theorem a6G (l : List Str) : (a2G l).length = l.length := by simp [a2G]
theorem b4h (l : List Str) (x : Str) : x ∈ a2G l ↔ x ∈ l := by simp [a2G]
theorem c3h : Has Tryz.prog 109 cSortS := by
 refine ⟨fun args w => Go.MuLone.run_callFunc_enter Tryz.func109 (by kernel_rfl) rfl args w, fun _ => ⟨(), trivial⟩, fun _ _ => rfl, ?_, trivial, .inl rfl⟩
 intro (l : List Str) (h1 : l.length <= 1048576) c _ vs β fp hn hpin hlen hlen2 S
 have hp : c.pins = [(0, β 0)] := hpin
 have hr := a6H hlen S
 obtain ⟨v0, vs1, rfl, r0, hr⟩ := hr.uncons
 cases hr
 have m0 : (cSortS.start2 l).m 0 = some (.own 9 1 true (a0a l)) := rfl
 have e0 : v0 = β 0 := by cases r0 with | own _ _ h3 _ => exact (h3 _ _ _ _ m0).1
 subst e0
 have hnd := S.nodup 0 _ m0
 have hfr := S.free 0 _ m0
 have hGlt : ∀ b, c.G b -> b < c.w0.heap.size := fun b hG => (S.old b hG).1
 have fin : ∀ {w' : World}, (∃ β' fp' a', SatI c ⟨fun _ => none, get? [(0, .own 9 1 true (a0a (a2G l)))]⟩ a' w' β' fp' /\ RelL w' (get? [(0, .own 9 1 true (a0a (a2G l)))]) β' c [.own 0 1 (a0a (a2G l))] [β 0]) ->
   ∃ x, cSortS.post l x /\ ∃ v, Ending.returned (.tuple #[]) = Ending.returned v /\ ∃ β' fp' a', SatI c (cSortS.end_ l x) a' w' β' fp' /\ RelL w' (get? (cSortS.fin l x)) β' c [cSortS.res l x] [v] :=
  fun ⟨β', fp', a', g1, g2⟩ => ⟨(), trivial, _, rfl, β', fp', a', g1, .tup .lnil .lnil⟩
 obtain ⟨_, _, B0⟩ := S.mem 0 _ m0
 rcases B0 with ⟨q1, q2, q3⟩ | ⟨b, cap, cs, f0, q1, q2, q3, q4, q5, q6, q7, _⟩
 ·have hl : l = [] := by simpa using q2
  subst hl
  rw [q1]
  refine (Any.slices_Sort_string_none Tryz.laysSort none 0 c.w0).mono ?_
  rintro e w' ⟨rfl, rfl⟩
  have := b2n (w' := c.w0) (j := 0) (v := β 0) (f := []) (e := 9) (k := 1) (R := []) S (by rw [hp]; intro p hp; simp at hp; subst hp; exact ⟨rfl, rfl⟩) ⟨by omega, by simp, .inl ⟨q1, rfl, rfl⟩⟩ (by simp [Ob, q1]) (by simp [Ob, q1]) (fun _ _ => rfl) (Nat.le_refl _) rfl rfl rfl
  exact fin (by simpa [a2G] using this)
 ·rw [eStrs_length] at q1 q3 q6
  obtain ⟨u1, u2, u3⟩ := a6V q6
  have q7 := q7 rfl
  rw [u2] at q7
  have hlt : b < c.w0.heap.size := (Array.getElem?_eq_some_iff.1 q2).1
  have hH : Holds encStr c.w0 b 0 l.toArray := by
   intro j hj
   have hj : j < l.length := by simpa using hj
   have hjc : j < cs.size := by omega
   constructor
   ·have : (cs.toList.take (l.length * 1))[j]? = some (encStr l[j]) := by rw [u1]; simp [hj]
    rw [List.getElem?_take, if_pos (by omega)] at this
    simp only [World.cell?, q2]
    simpa [hj] using this
   ·simp [World.frozen?, q2]
  rw [q1]
  refine (Any.slices_Sort_string Tryz.laysSort b 0 cap l c.w0 hH hlt (by omega)).mono ?_
  rintro e w' ⟨rfl, n, os, rfl⟩
  obtain ⟨z1, z2, z3, z4, z5⟩ := c2V (n := n) (d := a2G l) (os := os) q2
  have hob : Ob β 0 (fp 0) (.own 9 1 true (a0a l)) = [b] := by simp [Ob, q1, q7]
  rw [hob] at hfr
  have := b2n (j := 0) (v := β 0) (f := []) (e := 9) (k := 1) (R := a0a (a2G l)) (w' := grow (putRow encStr (Sort.ahead c.w0 n) b 0 (a2G l).toArray) os) S (by rw [hp]; intro p hp; simp at hp; subst hp; exact ⟨rfl, rfl⟩)
   ⟨by omega, by simp [a0a, eStr], .inr ⟨b, cap, putCells encStr 0 (a2G l).toArray cs, [], by rw [eStrs_length, a6G]; exact q1, z1, by rw [eStrs_length, a6G]; exact q3, q4, by rw [z4]; exact q5, by
    rw [eStrs_length, Nat.mul_one, z5 _ (Nat.le_refl _) (by rw [a6G]; omega), List.take_length]
    exact b3t fun s hs => u3 s ((b4h l s).1 hs), fun _ => rfl, by simp⟩⟩
   (by simp [Ob, q1]) (by simpa [Ob, q1] using hfr) (fun x hG => z2 x (hGlt x hG) fun e => by subst e; exact hfr x (by simp) hG) z3 rfl rfl rfl
  rw [q1] at this fin
  exact fin this
theorem c1D {w : World} {m : Nat -> Option Blk} {β : Nat -> Value} {c : Cx} {h b cap : Nat} {cells : Array Value} {C : List Str} (hv : β h = .slice (some ⟨b, 0, none⟩) C.length cap) (hw : w.heap[b]? = some (.cells cells 9 (0, 0))) (hcap : C.length <= cap) (q4 : cap <= maxLen) (q5 : cells.size = cap * 1)
  (htk : cells.toList.take C.length = C.map encStr) (hu : ∀ s ∈ C, s.length <= maxLen) : BlkOk w m β c h [] (.own 9 1 true (a0a C)) := by
 refine ⟨by omega, by simp [a0a, eStr], .inr ⟨b, cap, cells, [], ?_, hw, ?_, q4, q5, ?_, fun _ => rfl, by simp⟩⟩
 ·rw [eStrs_length]; exact hv
 ·rw [eStrs_length]; exact hcap
 ·rw [eStrs_length, Nat.mul_one, htk]
  exact b3t hu
def cCompactS : Con := { A := List Str, X := Unit, n := 61, args := fun l => [.own 0 1 (a0a l)], boxes := fun _ => [], pre := fun l => l.length <= 1048576, post := fun _ _ => True, res := fun l _ => .own 8 1 (a0a (Lib.compact l)), fin := fun l _ => [(8, .own 9 1 true (a0a (Lib.compact l)))], owns := fun l => [(0, 9, 1, a0a l)], mv := true }
theorem b7l (l : List Str) : (Lib.compact l).length <= l.length := by
 unfold Lib.compact Lib.compactUpTo
 rw [List.length_map]
 exact Nat.le_trans (List.length_filter_le _ _) (by simp)
theorem b5C (l : List Str) : ∀ s ∈ Lib.compact l, s ∈ l := by
 intro s hs
 unfold Lib.compact Lib.compactUpTo at hs
 obtain ⟨j, hj, rfl⟩ := List.mem_map.1 hs
 have hj : j < l.length := by simpa using (List.mem_filter.1 hj).1
 rw [getElem!_pos _ j (by simpa using hj)]
 simp
set_option maxHeartbeats 400000 in
theorem b5B : Has Tryz.prog 110 cCompactS := by
 refine ⟨fun args w => Go.MuLone.run_callFunc_enter Tryz.func110 (by kernel_rfl) rfl args w, fun _ => ⟨(), trivial⟩, fun _ _ => rfl, ?_, trivial, .inl rfl⟩
 intro (l : List Str) (h1 : l.length <= 1048576) c _ vs β fp hn hpin hlen hlen2 S
 have hp : c.pins = [] := hpin
 have hr := a6H hlen S
 obtain ⟨v0, vs1, rfl, r0, hr⟩ := hr.uncons
 cases hr
 have m0 : (cCompactS.start2 l).m 0 = some (.own 9 1 true (a0a l)) := rfl
 have e0 : v0 = β 0 := by cases r0 with | own _ _ h3 _ => exact (h3 _ _ _ _ m0).1
 subst e0
 have hfr := S.free 0 _ m0
 have hGlt : ∀ b, c.G b -> b < c.w0.heap.size := fun b hG => (S.old b hG).1
 have fin : ∀ {w' : World} {v : Value}, (∃ β' fp' a', SatI c ⟨fun _ => none, get? [(8, .own 9 1 true (a0a (Lib.compact l)))]⟩ a' w' β' fp' /\ RelL w' (get? [(8, .own 9 1 true (a0a (Lib.compact l)))]) β' c [.own 8 1 (a0a (Lib.compact l))] [v]) ->
   ∃ x, cCompactS.post l x /\ ∃ v', Ending.returned v = Ending.returned v' /\ ∃ β' fp' a', SatI c (cCompactS.end_ l x) a' w' β' fp' /\ RelL w' (get? (cCompactS.fin l x)) β' c [cCompactS.res l x] [v'] :=
  fun ⟨β', fp', a', g1, g2⟩ => ⟨(), trivial, _, rfl, β', fp', a', g1, g2⟩
 obtain ⟨_, _, B0⟩ := S.mem 0 _ m0
 rcases B0 with ⟨q1, q2, q3⟩ | ⟨b, cap, cs, f0, q1, q2, q3, q4, q5, q6, q7, _⟩
 ·have hl : l = [] := by simpa using q2
  subst hl
  rw [q1]
  refine (Any.slices_Compact_string_empty Tryz.laysCompact none 0 c.w0).mono ?_
  rintro e w' ⟨rfl, rfl⟩
  have := b2n (w' := c.w0) (j := 8) (v := .slice none 0 0) (f := []) (e := 9) (k := 1) (R := []) S (by rw [hp]; simp) ⟨by omega, by simp, .inl ⟨rfl, rfl, rfl⟩⟩ (by simp [Ob]) (by simp [Ob]) (fun _ _ => rfl) (Nat.le_refl _) rfl rfl rfl
  exact fin (by simpa [Lib.compact, Lib.compactUpTo] using this)
 ·rw [eStrs_length] at q1 q3 q6
  obtain ⟨u1, u2, u3⟩ := a6V q6
  have q7 := q7 rfl
  rw [u2] at q7
  have hlt : b < c.w0.heap.size := (Array.getElem?_eq_some_iff.1 q2).1
  have hH : Holds encStr c.w0 b 0 l.toArray := by
   intro j hj
   have hj : j < l.length := by simpa using hj
   have hjc : j < cs.size := by omega
   constructor
   ·have : (cs.toList.take (l.length * 1))[j]? = some (encStr l[j]) := by rw [u1]; simp [hj]
    rw [List.getElem?_take, if_pos (by omega)] at this
    simp only [World.cell?, q2]
    simpa [hj] using this
   ·simp [World.frozen?, q2]
  rw [q1]
  refine (Any.slices_Compact_string Tryz.laysCompact b 0 cap l c.w0 hH (by omega) q3).mono ?_
  rintro e w' ⟨rfl, n, rfl⟩
  have hcl := b7l l
  obtain ⟨z1, z2, z3, z4, z5⟩ := c2V (n := n) (d := Lib.compact l ++ List.replicate (l.length - (Lib.compact l).length) []) (os := #[]) q2
  simp only [grow_empty] at z1 z2 z3 z4 z5
  have hob : Ob β 0 (fp 0) (.own 9 1 true (a0a l)) = [b] := by simp [Ob, q1, q7]
  rw [hob] at hfr
  have htk := z5 (Lib.compact l).length (by simp) (by omega)
  rw [List.take_left] at htk
  have hu : ∀ s ∈ Lib.compact l, s.length <= maxLen := fun s hs => u3 s (b5C l s hs)
  generalize hcs : putCells encStr 0 (Lib.compact l ++ List.replicate (l.length - (Lib.compact l).length) []).toArray cs = cells at z1 z4 htk
  generalize hw' : putRow encStr (Sort.ahead c.w0 n) b 0 (Lib.compact l ++ List.replicate (l.length - (Lib.compact l).length) []).toArray = w1 at z1 z2 z3
  have hos : w1.os = c.w0.os := by rw [<- hw']; rfl
  have htp : w1.tape = c.w0.tape := by rw [<- hw']; rfl
  have hou : w1.output = c.w0.output := by rw [<- hw']; rfl
  have hw'' : putRow encStr (Sort.ahead c.w0 n) b 0 (Lib.compact l ++ List.replicate (l.length - (Lib.compact l).length) []).toArray = w1 := hw'
  clear hw' hcs
  generalize hC : Lib.compact l = C at *
  have := b2n (j := 8) (v := .slice (some ⟨b, 0, none⟩) C.length cap) (f := []) (e := 9) (k := 1) (R := a0a C) (w' := w1) S (by rw [hp]; simp)
   (c1D (cells := cells) rfl z1 (by omega) q4 (by rw [z4]; exact q5) htk hu) (by simp [Ob]) (by simpa [Ob] using hfr) (fun x hG => z2 x (hGlt x hG) fun e => by subst e; exact hfr x (by simp) hG) z3 hos htp hou
  exact fin this
end Vx
end Go.Proofs.YtokdjnbcdokpjaaGreatDoor
namespace Go.Proofs.YtokdjnbcdokpjaaGreatDoor
set_option maxHeartbeats 4000000
namespace Vx
open Go.RowKit
set_option maxRecDepth 8000
def okSz (t : List FileD) : Prop := t.length <= 1048576 /\ (∀ f ∈ t, f.text.length <= 1048576) /\ ∀ f ∈ t, f.path.length <= 536870912
def getI (t : List FileD) (p : Str) : List Str × Bool := match t.find? (fun f => decide (f.path = p)) with
 | some f => (f.text, true)
 | none => ([], false)
theorem c4l {t : List FileD} {p : Str} {i : Nat} (h : i < t.length) (h1 : ∀ j (hj : j < t.length), j < i -> ¬ t[j].path = p) (h2 : t[i].path = p) : getI t p = (t[i].text, true) := by
 have : t.find? (fun f => decide (f.path = p)) = some t[i] := by
  rw [List.find?_eq_some_iff_getElem]
  refine ⟨by simp -implicitDefEqProofs [h2], i, h, rfl, fun j hj => ?_⟩
  simpa using h1 j (by omega) hj
 unfold getI; rw [this]
theorem c1G {t : List FileD} {p : Str} (h : ∀ j (hj : j < t.length), ¬ t[j].path = p) : getI t p = ([], false) := by
 have : t.find? (fun f => decide (f.path = p)) = none := by
  rw [List.find?_eq_none]
  intro f hf
  obtain ⟨j, hj, rfl⟩ := List.getElem_of_mem hf
  simpa using h j hj
 unfold getI; rw [this]
def b4G : Con := .fn 22 (List FileD × Str) (fun a => [.sl true 2 (a0b a.1), .str a.2]) (fun a => ∀ f ∈ a.1, f.text.length <= 1048576) (fun a => .tup [.own 8 1 (a0a (getI a.1 a.2).1), .bool (getI a.1 a.2).2]) (fun a => a2h 8 (getI a.1 a.2).1)
theorem b5P : Has Tryz.prog 65 b4G := by
 refine a0d mixed a0h (HasL.cons a6i HasL.nil) [0, 1, 4, 5, 7, 8, 9, 10] ((fun a n (_ : Nat) => (fun a _ => ⟨Nat, fun i => ⟨[(1, true, .str a.2), (4, true, .nil), (5, true, .bool false), (8, true, .sl true 2 (a0b a.1)), (9, true, .int .i64 a.1.length), (10, true, .int .i64 i)], []⟩, fun i => i <= a.1.length /\ ∀ j (hj : j < a.1.length), j < i -> ¬ a.1[j].path = a.2, fun i => a.1.length - i⟩) a n)) [] Tryz.func65 (by unfold Tryz.f65; rfl) (fun _ => ⟨(), trivial⟩) ?_
 intro a ha
 obtain ⟨t, p⟩ := a
 replace ha : ∀ f ∈ t, f.text.length <= 1048576 := ha
 simp -implicitDefEqProofs [b4G, a5x, Con.fn, tTab]
 try dsimp only
 refine fun _ i hi hb => ⟨fun hlt => ⟨hlt, fun _ => ?_⟩, fun hge => ?_⟩
 ·have hf := ha t[i] (List.getElem_mem hlt)
  have e1 := fun h => c4l (p := p) hlt hb h
  simp -implicitDefEqProofs [hlt, a0z, D.asStr, D.asRows, and_assoc]
  refine ⟨fun h => ⟨hf, by rw [e1 h]; exact ⟨rfl, rfl, rfl⟩⟩, fun h => ⟨by omega, by omega, fun _ _ => ⟨i + 1, by omega, by omega, fun j hj hji => ?_, by omega⟩⟩⟩
  by_cases e : j = i
  ·subst e; exact h
  ·exact hb j hj (by omega)
 ·rw [c1G fun j hj => hb j hj (by omega)]
  exact ⟨⟨rfl, rfl⟩, rfl⟩
def a4m (t : List FileD) (p : Str) : List Str × Bool := if a0s t then getI t p else ([], false)
def b0T : Con := .fn 14 (List FileD × Str) (fun a => [.sl true 2 (a0b a.1), .str a.2]) (fun a => okSz a.1) (fun a => .tup [.own 8 1 (a0a (a4m a.1 a.2).1), .bool (a4m a.1 a.2).2]) (fun a => a2h 8 (a4m a.1 a.2).1)
theorem b7X : Has Tryz.prog 14 b0T := by
 refine a0d mixed a0h (HasL.cons a5S (HasL.cons b5P HasL.nil)) [0, 1, 4, 5] ((fun a n (_ : Nat) => (fun _ => a0r) a n)) [] Tryz.func14 (by unfold Tryz.f14; rfl) (fun _ => ⟨(), trivial⟩) ?_
 intro a ha
 obtain ⟨t, p⟩ := a
 replace ha : okSz t := ha
 simp -implicitDefEqProofs [b0T, a5U, b4G, Con.fn, tTab]
 try dsimp only
 refine ⟨ha.2.2, fun h => ?_, fun h => ⟨t, p, ⟨rfl, rfl⟩, ha.2.1, ?_⟩⟩
 ·unfold a4m; rw [h]; exact ⟨⟨rfl, rfl⟩, rfl⟩
 ·unfold a4m; rw [h]; exact ⟨⟨rfl, rfl⟩, rfl⟩
theorem b8o (t : List FileD) (p : Str) : getI t p = getL t p := by
 unfold getI
 induction t with
 | nil => rfl
 | cons f t ih =>
  unfold getL
  by_cases h : f.path = p
  ·simp -implicitDefEqProofs [h]
  ·rw [List.find?_cons_of_neg (by simpa using h), if_neg h]; exact ih
--TAB a2n
def a2n : List (Nat × TI) := (129, ⟨false, [.sl 31 1], 24, [], 31⟩) :: (81, ⟨true, [.sl 9 1, .bool], 32, [(35, 0), (4, 1)], 0⟩) :: tTab
theorem a2d : ∀ t ti, get? a2n t = some ti -> TOk Tryz.prog t ti := a9B (by kernel_rfl)
theorem b6O {a b c : Str} (h : a <= b) (h' : b <= c) : a <= c := List.le_trans h h'
theorem b4i {a b : Str} (h : a <= b) (hne : a ≠ b) : a < b := a9z b a h (Ne.symm hne)
theorem c5G (l : List Str) : (a2G l).Pairwise (· <= ·) := by
 have := List.pairwise_mergeSort (le := fun x y : Str => decide (x <= y)) (fun a b c h h' => by simp only [decide_eq_true_eq] at *; exact b6O h h') (fun a b => by
  simp only [Bool.or_eq_true, decide_eq_true_eq]
  exact List.le_total a b) l
 refine List.Pairwise.imp ?_ this
 intro a b h; simpa using h
theorem b3I {l : List Str} (h : l.Pairwise (· <= ·)) : ∀ m, m <= l.length -> srt (Lib.compactUpTo l.toArray m) /\ ∀ x, x ∈ Lib.compactUpTo l.toArray m ↔ x ∈ l.take m
 | 0, _ => ⟨by simp -implicitDefEqProofs [Lib.compactUpTo, srt], by simp -implicitDefEqProofs [Lib.compactUpTo]⟩
 | m + 1, hm => by
  obtain ⟨h1, h2⟩ := b3I h m (by omega)
  have hlt : m < l.length := by omega
  have e : l.toArray[m]! = l[m] := by simp -implicitDefEqProofs [hlt]
  have hall : ∀ x ∈ l.take m, x <= l[m] := by
   intro x hx
   obtain ⟨i, hi, rfl⟩ := List.getElem_of_mem hx
   have hi' : i < m := by simp at hi; omega
   rw [List.getElem_take]
   exact List.pairwise_iff_getElem.1 h i m (by omega) hlt hi'
  rw [Lib.compactUpTo_succ, e, a0w hlt]
  by_cases hk : Lib.keeps l.toArray m = true
  ·rw [if_pos hk]
   refine ⟨List.pairwise_append.2 ⟨h1, by simp, fun x hx y hy => ?_⟩, fun x => by rw [List.mem_append, List.mem_append, h2]⟩
   have : y = l[m] := by simpa using hy
   subst this
   have hx := (h2 x).1 hx
   have hle := hall x hx
   refine b4i hle fun e2 => ?_
   have hm0 : 0 < m := by
    rcases Nat.eq_zero_or_pos m with h0 | h0
    ·subst h0; simp at hx
    ·exact h0
   have hne : l[m] ≠ l[m - 1] := by
    have := hk
    unfold Lib.keeps at this
    simp only [decide_eq_true_eq] at this
    rcases this with h0 | h0
    ·omega
    ·simpa [hlt, show m - 1 < l.length by omega] using h0
   obtain ⟨i, hi, rfl⟩ := List.getElem_of_mem hx
   have hi' : i < m := by simp at hi; omega
   rw [List.getElem_take] at e2 hle
   rcases Nat.lt_or_ge i (m - 1) with hq | hq
   ·have q1 := List.pairwise_iff_getElem.1 h i (m - 1) (by omega) (by omega) hq
    have q2 := List.pairwise_iff_getElem.1 h (m - 1) m (by omega) hlt (by omega)
    have q3 := b4i q2 (Ne.symm hne)
    rw [<- e2] at q3
    exact q1 q3
   ·have : i = m - 1 := by omega
    subst this
    exact hne e2.symm
  ·rw [if_neg hk, List.append_nil]
   refine ⟨h1, fun x => ?_⟩
   rw [h2, List.mem_append]
   have hk : Lib.keeps l.toArray m = false := by simpa using hk
   unfold Lib.keeps at hk
   simp only [decide_eq_false_iff_not, not_or, Classical.not_not] at hk
   obtain ⟨k1, k2⟩ := hk
   have k3 : l[m] = l[m - 1] := by simpa [hlt, show m - 1 < l.length by omega] using k2
   refine ⟨.inl, fun hx => hx.elim id fun hx => ?_⟩
   have : x = l[m] := by simpa using hx
   rw [this, k3]
   exact List.mem_take_iff_getElem.2 ⟨m - 1, by omega, rfl⟩
theorem b5D (l : List Str) : srt (Lib.compact (a2G l)) /\ ∀ x, x ∈ Lib.compact (a2G l) ↔ x ∈ l := by
 obtain ⟨h1, h2⟩ := b3I (c5G l) (a2G l).length (Nat.le_refl _)
 exact ⟨h1, fun x => by
  unfold Lib.compact
  rw [h2, List.take_length, b4h]⟩
def allP (ts : List (List FileD)) : List Str := Lib.compact (a2G (ts.flatten.map (·.path)))
theorem b4Z (o a b : List FileD) : allP [o, a, b] = a0H o a b := by
 obtain ⟨h1, h2⟩ := b5D (([o, a, b] : List (List FileD)).flatten.map (·.path))
 obtain ⟨h3, h4⟩ := a5P o a b
 refine b6M h1 h3 fun x => ?_
 unfold allP at *
 rw [h2, h4]; simp
def b1S (t : List FileD) : List D := [.sl 39 2 (a0b t)]
def a6j (ts : List (List FileD)) : List (List D) := ts.map b1S
@[simp] theorem eTrees_length (l : List (List FileD)) : (a6j l).length = l.length := by simp -implicitDefEqProofs [a6j]
@[simp] theorem eTrees_get (l : List (List FileD)) (i : Nat) : (a6j l)[i]? = l[i]?.map b1S := by simp -implicitDefEqProofs [a6j]
def preP (ts : List (List FileD)) (i j : Nat) : List Str := ((ts.take i).flatten ++ (ts.getD i []).take j).map (·.path)
theorem c2N (ts : List (List FileD)) : preP ts 0 0 = [] := by simp -implicitDefEqProofs [preP]
theorem c5k (ts : List (List FileD)) : preP ts ts.length 0 = ts.flatten.map (·.path) := by simp -implicitDefEqProofs [preP]
theorem b4d {ts : List (List FileD)} {i : Nat} (h : i < ts.length) : preP ts i (ts.getD i []).length = preP ts (i + 1) 0 := by
 have e3 : ts.getD i [] = ts[i] := by simp -implicitDefEqProofs [List.getD_eq_getElem?_getD, h]
 unfold preP
 rw [a0w h, e3, List.take_length, List.flatten_append, List.take_zero, List.append_nil]
 simp only [List.flatten_cons, List.flatten_nil, List.append_nil]
theorem c2O {ts : List (List FileD)} {i j : Nat} (h : j < (ts.getD i []).length) : preP ts i (j + 1) = preP ts i j ++ [(ts.getD i [])[j].path] := by
 unfold preP
 rw [a0w h, <- List.append_assoc, List.map_append]; rfl
theorem c6H {ts : List (List FileD)} {i : Nat} (j : Nat) (h : i < ts.length) : ((ts.take i).flatten ++ (ts.getD i []).take j).length <= ts.flatten.length := by
 have e := List.take_append_drop (i + 1) ts
 have e2 : ts.flatten.length = ((ts.take (i + 1)).flatten ++ (ts.drop (i + 1)).flatten).length := by rw [<- List.flatten_append, e]
 rw [e2, a0w h]
 have e3 : ts.getD i [] = ts[i] := by simp -implicitDefEqProofs [List.getD_eq_getElem?_getD, h]
 rw [e3]
 have : (List.take j ts[i]).length <= ts[i].length := by rw [List.length_take]; omega
 simp only [List.length_append, List.flatten_append, List.flatten_cons, List.flatten_nil, List.append_nil]
 omega
theorem c5l {ts : List (List FileD)} {i : Nat} (j : Nat) (h : i < ts.length) : (preP ts i j).length <= ts.flatten.length := by
 unfold preP; rw [List.length_map]; exact c6H j h
def apI (ts : List (List FileD)) : Inv := ⟨Nat, fun i => ⟨[(2, true, .nil), (3, true, .own 9 1 (a0a (preP ts i 0))), (8, true, .sl true 1 (a6j ts)), (9, true, .int .i64 ts.length), (10, true, .int .i64 i)], [(9, .own 9 1 true (a0a (preP ts i 0)))]⟩, fun i => i <= ts.length, fun i => ts.length - i⟩
def apJ (ts : List (List FileD)) (g : Nat) : Inv := ⟨Nat, fun j => ⟨[(2, true, .nil), (3, true, .own 9 1 (a0a (preP ts g j))), (8, true, .sl true 1 (a6j ts)), (9, true, .int .i64 ts.length), (10, true, .int .i64 g), (14, true, .sl true 2 (a0b (ts.getD g []))), (15, true, .int .i64 (ts.getD g []).length), (16, true, .int .i64 j)], [(9, .own 9 1 true (a0a (preP ts g j)))]⟩, fun j => g < ts.length /\ j <= (ts.getD g []).length, fun j => (ts.getD g []).length - j⟩
def b8V (ts : List (List FileD)) (n g : Nat) : Inv := if n = 3 then apI ts else apJ ts g
theorem c6u (ts g) : b8V ts 3 g = apI ts := rfl
theorem c6v (ts g) : b8V ts 6 g = apJ ts g := rfl
def a8K : Con := .fn 31 (List (List FileD)) (fun ts => [.sl true 1 (a6j ts)]) (fun ts => ts.flatten.length <= 1048576 /\ ts.length <= 1048576) (fun ts => .own 8 1 (a0a (allP ts))) (fun ts => a2h 8 (allP ts))
theorem b5a : Has Tryz.prog 57 a8K := by
 refine a0d mixed a2d (HasL.cons c3h (HasL.cons b5B HasL.nil)) [0, 2, 3, 5, 7, 8, 9, 10, 14, 15, 16] (b8V) [] Tryz.func57 (by unfold Tryz.f57; rfl) (fun _ => ⟨(), trivial⟩) ?_
 intro (ts : List (List FileD)) ha
 obtain ⟨h1, h2⟩ : ts.flatten.length <= 1048576 /\ ts.length <= 1048576 := ha
 simp (maxSteps := 4000000) [a8K, cSortS, cCompactS, Con.fn, a2n, tTab, c6u, c6v, apI, apJ]
 try dsimp only
 refine fun _ => ⟨⟨0, ⟨⟨c2N ts, rfl⟩, c2N ts⟩, Nat.zero_le _⟩, fun i hi => ⟨fun hlt => ⟨hlt, fun _ => ?_⟩, fun hge => ?_⟩⟩
 ·have qq : Option.map b1S ts[i]? = some (b1S ts[i]) := by simp -implicitDefEqProofs [hlt]
  have e3 : ts[i]?.getD [] = ts[i] := by simp -implicitDefEqProofs [hlt]
  have e4 : (ts[i]?.getD []).length = ts[i].length := by rw [e3]
  have hb : ∀ j, (preP ts i j).length <= ts.flatten.length := fun j => c5l j hlt
  rw [qq]
  simp -implicitDefEqProofs [b1S, D.asRows]
  refine fun _ => ⟨i, ⟨0, ⟨⟨rfl, rfl, by rw [e3], by rw [e3], rfl⟩, rfl⟩, hlt, Nat.zero_le _⟩, fun j hg hj => ⟨fun hjl => ⟨hjl, fun _ => ?_⟩, fun hjg => ⟨by omega, fun _ _ => ⟨i + 1, ⟨⟨?_, by omega⟩, ?_⟩, by omega, by omega⟩⟩⟩⟩
  ·have q2 : Option.map a0z (ts[i]?.getD [])[j]? = some (a0z (ts[i]?.getD [])[j]) := by simp -implicitDefEqProofs [hjl]
   have q3 : preP ts i (j + 1) = preP ts i j ++ [(ts[i]?.getD [])[j].path] := c2O (ts := ts) (i := i) (j := j) hjl
   have hbj := hb j
   rw [q2]
   simp -implicitDefEqProofs [a0z, D.asRows, D.asStr]
   refine ⟨⟨by omega, by omega⟩, by omega, fun _ _ => ⟨j + 1, ⟨⟨?_, by omega⟩, ?_⟩, ⟨hg, by omega⟩, by omega⟩⟩
   ·rw [q3, <- a0y]
   ·rw [q3, <- a0y]
  ·rw [show j = (ts.getD i []).length by rw [List.getD_eq_getElem?_getD]; omega, b4d hlt]
  ·rw [show j = (ts.getD i []).length by rw [List.getD_eq_getElem?_getD]; omega, b4d hlt]
 ·have : i = ts.length := by omega
  subst this
  rw [a6G, c5k, List.length_map]
  exact ⟨h1, h1, rfl, rfl⟩
def b5o : Con := .fn 16 (List FileD × Str) (fun a => [.sl true 2 (a0b a.1), .str a.2]) (fun a => ∀ f ∈ a.1, f.text.length <= 1048576) (fun a => .agg [.own 8 1 (a0a (getI a.1 a.2).1), .bool (getI a.1 a.2).2]) (fun a => a2h 8 (getI a.1 a.2).1)
theorem c1K : Has Tryz.prog 58 b5o := by
 refine a0d mixed a2d (HasL.cons b5P HasL.nil) [0, 1, 4, 5, 6] ((fun a n (_ : Nat) => (fun _ => a0r) a n)) [] Tryz.func58 (by unfold Tryz.f58; rfl) (fun _ => ⟨(), trivial⟩) ?_
 intro a ha
 obtain ⟨t, p⟩ := a
 replace ha : ∀ f ∈ t, f.text.length <= 1048576 := ha
 simp -implicitDefEqProofs [b5o, b4G, Con.fn, a2n, tTab]
 try dsimp only
 exact ⟨t, p, ⟨rfl, rfl⟩, ha, fun h => ⟨⟨rfl, h⟩, rfl⟩, fun h => ⟨⟨rfl, h⟩, rfl⟩⟩
--TAB a2n
def a9M : Con := .fn 26 (List Str × List Str) (fun a => [.sl true 1 (a0a a.1), .sl true 1 (a0a a.2)]) (fun _ => True) (fun a => .bool (decide (a.1 = a.2))) (fun _ => [])
theorem b1T : Has Tryz.prog 170 a9M := by
 refine a0d mixed a2d HasL.nil [0, 1, 4, 5, 12, 13] ((fun a n (_ : Nat) => (fun a _ => ⟨Nat, fun i => ⟨[(0, true, .sl true 1 (a0a a.1)), (1, true, .sl true 1 (a0a a.2)), (4, true, .bool false), (12, true, .int .i64 a.1.length), (13, true, .int .i64 i)], []⟩, fun i => i <= a.1.length /\ a.1.length = a.2.length /\ a.1.take i = a.2.take i, fun i => a.1.length - i⟩) a n)) [] Tryz.func170 (by unfold Tryz.f170; rfl) (fun _ => ⟨(), trivial⟩) ?_
 intro a _
 obtain ⟨l, r⟩ := a
 simp -implicitDefEqProofs [a9M, Con.fn, a2n, tTab]
 try dsimp only
 try simp +contextual -implicitDefEqProofs [eStr, a0z, a0M, a0W, a0N, List.getElem?_eq_getElem, a0O, a0F, a0J, a0E, <- a0o, <- a0p, a0v, a0C, a0B, a0A, a0y, a0t, and_assoc]
 repeat' (first | intro _ | apply And.intro)
 all_goals first | omega | grind [a1c, a5V, a9a]
def b0c (a b : List Str × Bool) : Bool := decide (a.2 = b.2) && decide (a.1 = b.1)
def b0G : Con := .fn 17 ((List Str × Bool) × (List Str × Bool)) (fun a => [.agg [.sl true 1 (a0a a.1.1), .bool a.1.2], .agg [.sl true 1 (a0a a.2.1), .bool a.2.2]]) (fun _ => True) (fun a => .bool (b0c a.1 a.2)) (fun _ => [])
theorem b7p : Has Tryz.prog 192 b0G := by
 refine a0d mixed a2d (HasL.cons b1T HasL.nil) [0, 1, 2, 3, 4] ((fun a n (_ : Nat) => (fun _ => a0r) a n)) [] Tryz.func192 (by unfold Tryz.f192; rfl) (fun _ => ⟨(), trivial⟩) ?_
 intro a _
 obtain ⟨⟨x, p⟩, y, q⟩ := a
 simp -implicitDefEqProofs [-kStep_move, -Bool.exists_bool, b0G, a9M, Con.fn, a2n, tTab]
 try dsimp only
 exact ⟨x, y, ⟨rfl, rfl⟩, rfl⟩
def a8M : Con := .fn 17 (List Str × List Str × List Str) (fun a => [.sl true 1 (a0a a.1), .sl true 1 (a0a a.2.1), .sl true 1 (a0a a.2.2)]) (fun _ => True) (fun a => .bool (a1i a.1 && a1i a.2.1 && a1i a.2.2)) (fun _ => [])
theorem b5e : Has Tryz.prog 145 a8M := by
 refine a0d mixed a2d (HasL.cons a8v HasL.nil) [0, 1, 2, 6] ((fun a n (_ : Nat) => (fun _ => a0r) a n)) [] Tryz.func145 (by unfold Tryz.f145; rfl) (fun _ => ⟨(), trivial⟩) ?_
 intro a _
 obtain ⟨x, y, z⟩ := a
 simp -implicitDefEqProofs [-kStep_move, -Bool.exists_bool, a8M, a7f, Con.fn, a2n, tTab]
 try dsimp only
 cases a1i x <;> cases a1i y <;> simp
def ptSz (t : List FileD) : Prop := ∀ f ∈ t, f.path.length <= 536870912
def a6w : Con := .fn 17 (List FileD × List FileD × List FileD) (fun a => [.sl true 2 (a0b a.1), .sl true 2 (a0b a.2.1), .sl true 2 (a0b a.2.2)]) (fun a => ptSz a.1 /\ ptSz a.2.1 /\ ptSz a.2.2) (fun a => .bool (a0s a.1 && a0s a.2.1 && a0s a.2.2)) (fun _ => [])
theorem a8J : Has Tryz.prog 141 a6w := by
 refine a0d mixed a2d (HasL.cons a5S HasL.nil) [0, 1, 2, 6] ((fun a n (_ : Nat) => (fun _ => a0r) a n)) [] Tryz.func141 (by unfold Tryz.f141; rfl) (fun _ => ⟨(), trivial⟩) ?_
 intro a ha
 obtain ⟨x, y, z⟩ := a
 obtain ⟨h1, h2, h3⟩ : ptSz x /\ ptSz y /\ ptSz z := ha
 simp -implicitDefEqProofs [-kStep_move, -Bool.exists_bool, a6w, a5U, Con.fn, a2n, tTab]
 try dsimp only
 refine ⟨h1, fun h => ⟨h, h2⟩, fun h h' => ⟨⟨h, h'⟩, h3⟩, ?_⟩
 cases a0s x <;> cases a0s y <;> simp
def cAtI : Con := .fn 21 (RepoD × Str) (fun a => [a0V a.1, .str a.2]) (fun _ => True) (fun a => .int .i64 (atL a.1.heads a.2)) (fun _ => [])
theorem a7a : Has Tryz.prog 76 cAtI := by
 refine a0d mixed a2d HasL.nil [0, 1, 2, 4, 6, 8, 9, 10] ((fun a n (_ : Nat) => (fun a _ => ⟨Nat, fun i => ⟨[(1, true, .str a.2), (4, true, .int .i64 0), (8, true, .sl true 2 (a0c a.1.heads)), (9, true, .int .i64 a.1.heads.length), (10, true, .int .i64 i)], []⟩, fun i => i <= a.1.heads.length /\ atL (a.1.heads.drop i) a.2 = atL a.1.heads a.2, fun i => a.1.heads.length - i⟩) a n)) [] Tryz.func76 (by unfold Tryz.f76; rfl) (fun _ => ⟨(), trivial⟩) ?_
 intro a _
 obtain ⟨r, n⟩ := a
 simp -implicitDefEqProofs [cAtI, Con.fn, a2n, tTab]
 try dsimp only
 refine fun _ t ht hm => ⟨fun hlt => ⟨hlt, fun _ => ?_⟩, fun hge => by rw [<- hm, List.drop_eq_nil_of_le hge]; rfl⟩
 have qq : Option.map a1f r.heads[t]? = some (a1f r.heads[t]) := by simp -implicitDefEqProofs [hlt]
 rw [List.drop_eq_getElem_cons hlt] at hm
 rw [qq]
 generalize r.heads[t] = f at *
 have hm : (if f.name = n then f.at_ else atL (r.heads.drop (t + 1)) n) = atL r.heads n := hm
 simp -implicitDefEqProofs [a1f]
 refine ⟨fun h => by rw [if_pos h] at hm; exact hm.symm, fun h => ⟨⟨by omega, by omega⟩, fun _ _ => ⟨t + 1, by omega, ⟨by omega, ?_⟩, by omega⟩⟩⟩
 rw [if_neg h] at hm
 exact hm
def moI (o a b : List Str) : Inv := ⟨Nat × S3, fun x => ⟨[(0, true, .sl true 1 (a0a o)), (1, true, .sl true 1 (a0a a)), (2, true, .sl true 1 (a0a b)), (6, true, .nil), (7, true, .own 11 1 (a0f (mtE o a))), (8, true, .own 12 1 (a0f (mtE o b))), (9, true, .ptr 10 0), (10, true, .clo 169 [.ptr 10 0]), (11, true, .int .i64 x.2.io), (12, true, .int .i64 x.2.ia), (13, true, .int .i64 x.2.ib), (34, true, .int .i64 (o.length + 1 : Nat)), (35, true, .int .i64 x.1)],
 [(10, .box 163 [.own 9 5 (a0n x.2.out)]), (9, .own 122 5 true (a0n x.2.out)), (11, .own 3 1 true (a0f (mtE o a))), (12, .own 3 1 true (a0f (mtE o b)))]⟩, fun x => x.1 <= o.length + 1 /\ x.2 = run3 o a b x.1, fun x => o.length + 1 - x.1⟩
def b0P : Con := .fn 122 (List Str × List Str × List Str) (fun a => [.sl true 1 (a0a a.1), .sl true 1 (a0a a.2.1), .sl true 1 (a0a a.2.2)]) (fun a => a.1.length <= 100000 /\ a.2.1.length <= 100000 /\ a.2.2.length <= 100000) (fun a => .own 8 5 (a0n (of3 a.1 a.2.1 a.2.2))) (fun a => b1g 8 (of3 a.1 a.2.1 a.2.2))
theorem b7J : Has Tryz.prog 146 b0P := by
 refine a0d mixed a0h (HasL.cons c0e (HasL.cons a6i (HasL.cons b1T (HasL.cons b7Q HasL.nil)))) [0, 1, 2, 6, 7, 8, 9, 10, 11, 12, 13, 14, 15, 16, 17, 34, 35] ((fun a n (_ : Nat) => (fun a _ => moI a.1 a.2.1 a.2.2) a n)) [76] Tryz.func146 (by unfold Tryz.f146; rfl) (fun _ => ⟨(), trivial⟩) ?_
 intro a ha
 obtain ⟨o, a, b⟩ := a
 obtain ⟨h1, h2, h3⟩ : o.length <= 100000 /\ a.length <= 100000 /\ b.length <= 100000 := ha
 have sn : ∀ x : List Str, a0f (mt o x 0) ++ [[D.int .i64 x.length]] = a0f (mtE o x) := fun x => by simp -implicitDefEqProofs [mtE, a0f, eInt]
 simp (maxSteps := 8000000) [-kStep_move, -Bool.exists_bool, b0P, b2X, a5x, a9M, b0R, b6G, Con.fn, tTab, moI, sn]
 try dsimp only
 refine ⟨o, a, ⟨rfl, rfl⟩, ⟨by omega, by omega⟩, fun _ => ⟨by rw [a4T]; omega, o, b, ⟨rfl, rfl⟩, ⟨by omega, by omega⟩, fun _ => ⟨by rw [a4T]; omega, fun _ => ⟨⟨0, ⟨⟨(sn a).symm, (sn b).symm, rfl, rfl, rfl, by rw [a4T], rfl⟩, rfl, sn a, sn b⟩, Nat.zero_le _⟩, fun i hi => ⟨fun hlt => ?_, fun hge => ?_⟩⟩⟩⟩⟩
 ·have hi2 : i < o.length + 1 := by omega
  have R : run3 o a b (i + 1) = a2c o a b ((mtE o a).getD i 0) ((mtE o b).getD i 0) i (run3 o a b i) := rfl
  obtain ⟨k1, k2, k3, k4, k5, k6, k7⟩ := a5k o a b i (by omega)
  have la := a4y o a
  have lb := a4y o b
  have ha1 : i < (mtE o a).length := by omega
  have hb1 : i < (mtE o b).length := by omega
  have ga : (mtE o a).getD i 0 = (mtE o a)[i] := by simp -implicitDefEqProofs [List.getD_eq_getElem?_getD, ha1]
  have gb : (mtE o b).getD i 0 = (mtE o b)[i] := by simp -implicitDefEqProofs [List.getD_eq_getElem?_getD, hb1]
  have e1 : Option.map eInt (mtE o a)[i]? = some (eInt (mtE o a)[i]) := by simp -implicitDefEqProofs [ha1]
  have e2 : Option.map eInt (mtE o b)[i]? = some (eInt (mtE o b)[i]) := by simp -implicitDefEqProofs [hb1]
  have k4 := a5w (l := mtE o a) ha1 k4
  have k5 := a5w (l := mtE o b) hb1 k5
  rw [ga, gb] at R
  rw [e1, e2]
  generalize (mtE o a)[i] = x at *
  generalize (mtE o b)[i] = y at *
  have kx : 0 <= x -> ((run3 o a b i).ia : Int) <= x /\ x <= a.length := fun h => by rcases k4 with k4 | k4 <;> omega
  have ky : 0 <= y -> ((run3 o a b i).ib : Int) <= y /\ y <= b.length := fun h => by rcases k5 with k5 | k5 <;> omega
  clear k4 k5
  generalize run3 o a b i = s at *
  have tk : ∀ (l : List Str) (p q : Nat), List.take (q - p) (List.drop p (a0a l)) = a0a ((l.take q).drop p) := fun l p q => by
   rw [List.drop_take]; simp -implicitDefEqProofs [a0a]
  have tk1 : ∀ (h : i < o.length), List.take 1 (List.drop i (a0a o)) = a0a [o.getD i []] := fun h => by
   have := tk o i (i + 1)
   rw [show i + 1 - i = 1 by omega] at this
   rw [this]
   congr 1
   rw [a0w h, List.drop_append_of_le_length (by simp; omega)]
   simp -implicitDefEqProofs [h, List.getD_eq_getElem?_getD]
  have ln : ∀ (l : List Str) (p q : Nat), ((l.take q).drop p).length <= l.length := fun l p q => by simp; omega
  generalize hO : (o.take i).drop s.io = O at *
  generalize hA : (a.take x.toNat).drop s.ia = A at *
  generalize hB : (b.take y.toNat).drop s.ib = B at *
  have lO : O.length <= 100000 := by rw [<- hO]; have := ln o s.io i; omega
  have lA : A.length <= 100000 := by rw [<- hA]; have := ln a s.ia x.toNat; omega
  have lB : B.length <= 100000 := by rw [<- hB]; have := ln b s.ib y.toNat; omega
  have R0 : (x < 0 \/ y < 0) -> run3 o a b (i + 1) = s := fun h => by rw [R]; unfold a2c; rw [if_pos h]
  have R1 : 0 <= x -> 0 <= y -> run3 o a b (i + 1) = ⟨i + 1, x.toNat + 1, y.toNat + 1, if i < o.length then put3 (put3 s.out (a0Y O A B)) ⟨false, [o.getD i []], [], [], []⟩ else put3 s.out (a0Y O A B)⟩ := fun h h' => by
   rw [R]; unfold a2c; rw [if_neg (by omega), hO, hA, hB]
  clear R
  have T : ∀ (p : PartD), p.lines.length <= 100000 -> (put3 s.out p).length <= 1048576 /\ ∀ q ∈ put3 s.out p, q.lines.length <= 1073741824 := fun p hp => by
   have b1 := a8m s.out p
   exact ⟨by omega, fun q hq => by have := b0a k7 q hq; omega⟩
  have k7' : ∀ q ∈ s.out, q.lines.length <= 1073741824 := fun q hq => by have := k7 q hq; omega
  simp -implicitDefEqProofs [eInt, D.asInt, ha1, hb1, tk]
  refine ⟨fun h => ⟨⟨by omega, by omega⟩, fun _ _ => ⟨i + 1, s, ⟨⟨rfl, rfl, rfl, by omega⟩, rfl, rfl⟩, ⟨by omega, (R0 h).symm⟩, by omega⟩⟩, fun hx hy => ⟨⟨k1, by omega⟩, fun _ hio => ⟨kx hx, fun _ _ => ⟨ky hy, fun _ _ => ?_⟩⟩⟩⟩
  have R1 := R1 hx hy
  have F : ∀ out', out' = (run3 o a b (i + 1)).out -> ∃ (n : Nat) (t : S3), (((t.io : Int) = i + 1 /\ (t.ia : Int) = x + 1 /\ (t.ib : Int) = y + 1 /\ (n : Int) = i + 1) /\ t.out = out' /\ out' = t.out) /\ (n <= o.length + 1 /\ t = run3 o a b n) /\ o.length + 1 - n < o.length + 1 - i := fun out' h =>
   ⟨i + 1, run3 o a b (i + 1), ⟨⟨by rw [R1]; simp, by rw [R1]; simp; omega, by rw [R1]; simp; omega, by omega⟩, h.symm, h⟩, ⟨by omega, rfl⟩, by omega⟩
  have R2 : i < o.length -> put3 (put3 s.out (a0Y O A B)) (lnP [o.getD i []]) = (run3 o a b (i + 1)).out := fun h => by rw [R1]; simp only [if_pos h]; rfl
  have R3 : o.length <= i -> put3 s.out (a0Y O A B) = (run3 o a b (i + 1)).out := fun h => by rw [R1]; simp only [if_neg (show ¬ i < o.length by omega)]
  clear R1 R0
  rw [hO, hA, hB]
  refine ⟨A, O, ⟨rfl, rfl⟩, A, B, ⟨rfl, rfl⟩, fun hc => ?_, fun c1 c2 => ⟨B, O, ⟨rfl, rfl⟩, fun c3 => ?_, fun c3 => ?_⟩⟩
  ·have hp : a0Y O A B = lnP B := by unfold a0Y; rw [if_pos hc]; rfl
   rw [hp] at R2 R3
   have T := T (lnP B) lB
   exact ⟨⟨by omega, by omega, k7'⟩, fun _ => ⟨fun h => ⟨⟨by omega, by omega⟩, fun _ _ => ⟨⟨by omega, by omega⟩, fun _ _ => ⟨[o.getD i []], (tk1 h).symm, ⟨by simp, T.1, T.2⟩, ⟨by omega, by omega⟩, fun _ _ => ⟨⟨by omega, by omega⟩, fun _ _ => ⟨⟨by omega, by omega⟩, fun _ _ => ⟨⟨by omega, by omega⟩, fun _ _ => F _ (R2 h)⟩⟩⟩⟩⟩⟩,
    fun h => ⟨⟨by omega, by omega⟩, fun _ _ => ⟨⟨by omega, by omega⟩, fun _ _ => ⟨⟨by omega, by omega⟩, fun _ _ => ⟨⟨by omega, by omega⟩, fun _ _ => F _ (R3 h)⟩⟩⟩⟩⟩⟩
  ·have hp : a0Y O A B = lnP A := by unfold a0Y; rw [if_neg (by rintro (q | q); exact c1 q; exact c2 q), if_pos c3]; rfl
   rw [hp] at R2 R3
   have T := T (lnP A) lA
   exact ⟨⟨by omega, by omega, k7'⟩, fun _ => ⟨fun h => ⟨⟨by omega, by omega⟩, fun _ _ => ⟨⟨by omega, by omega⟩, fun _ _ => ⟨[o.getD i []], (tk1 h).symm, ⟨by simp, T.1, T.2⟩, ⟨by omega, by omega⟩, fun _ _ => ⟨⟨by omega, by omega⟩, fun _ _ => ⟨⟨by omega, by omega⟩, fun _ _ => ⟨⟨by omega, by omega⟩, fun _ _ => F _ (R2 h)⟩⟩⟩⟩⟩⟩,
    fun h => ⟨⟨by omega, by omega⟩, fun _ _ => ⟨⟨by omega, by omega⟩, fun _ _ => ⟨⟨by omega, by omega⟩, fun _ _ => ⟨⟨by omega, by omega⟩, fun _ _ => F _ (R3 h)⟩⟩⟩⟩⟩⟩
  ·have hp : a0Y O A B = ⟨true, [], O, A, B⟩ := by unfold a0Y; rw [if_neg (by rintro (q | q); exact c1 q; exact c2 q), if_neg c3]
   have sn2 : a0n s.out ++ [[D.bool true, D.sl 9 1 [], D.sl 9 1 (a0a O), D.sl 9 1 (a0a A), D.sl 9 1 (a0a B)]] = a0n (put3 s.out (a0Y O A B)) := by
    rw [hp, a7v rfl, b4p]; rfl
   have T := T (a0Y O A B) (by rw [hp]; simp)
   exact ⟨by omega, by omega, by omega, ⟨by omega, by omega⟩, fun _ => ⟨fun h => ⟨⟨by omega, by omega⟩, fun _ _ => ⟨⟨by omega, by omega⟩, fun _ _ => ⟨[o.getD i []], (tk1 h).symm, put3 s.out (a0Y O A B), sn2.symm, sn2, ⟨by simp, T.1, T.2⟩, ⟨by omega, by omega⟩, fun _ _ => ⟨⟨by omega, by omega⟩, fun _ _ => ⟨⟨by omega, by omega⟩, fun _ _ => ⟨⟨by omega, by omega⟩, fun _ _ => F _ (R2 h)⟩⟩⟩⟩⟩⟩,
    fun h => ⟨⟨by omega, by omega⟩, fun _ _ => ⟨⟨by omega, by omega⟩, fun _ _ => ⟨⟨by omega, by omega⟩, fun _ _ => ⟨⟨by omega, by omega⟩, fun _ _ => by
     obtain ⟨n, t, ⟨q1, q2, q3⟩, q4⟩ := F _ (R3 h)
     exact ⟨n, t, ⟨q1, by rw [sn2, q2], by rw [sn2, q2]⟩, q4⟩⟩⟩⟩⟩⟩⟩
 ·have : i = o.length + 1 := by omega
  subst this
  exact ⟨rfl, rfl⟩
--TAB a2n
def cMt1 : Con := .fn 4 PartD (fun q => [.agg [.bool q.clash, .sl true 1 (a0a q.lines), .sl true 1 (a0a q.old), .sl true 1 (a0a q.one), .sl true 1 (a0a q.two)]]) (fun _ => True) (fun _ => .tup [.sl true 1 [], .bool false]) (fun _ => [])
theorem c6V : Has Tryz.prog 102 cMt1 := by
 refine a0d mixed a2d HasL.nil [0, 2, 3] ((fun a n (_ : Nat) => (fun _ => a0r) a n)) [] Tryz.func102 (by unfold Tryz.f102; rfl) (fun _ => ⟨(), trivial⟩) ?_
 intro (q : PartD) _
 simp -implicitDefEqProofs [cMt1, Con.fn, a2n, tTab]
theorem c8d {o a b : List Str} (h1 : a1i o = true) (h2 : a1i a = true) (h3 : a1i b = true) : (of3 o a b).length <= 22 /\ ∀ q ∈ of3 o a b, q.lines.length <= 33 := by
 obtain ⟨k1, k2, k3, _, _, k6, k7⟩ := a5k o a b (o.length + 1) (Nat.le_refl _)
 have l1 := a3V h1
 have l2 := a3V h2
 have l3 := a3V h3
 refine ⟨?_, fun q hq => ?_⟩
 ·show (run3 o a b (o.length + 1)).out.length <= 22
  omega
 ·have := k7 q hq
  omega
theorem b3U {l : List PartD} {n : Nat} (h : ∀ q ∈ l, q.lines.length <= n) : ∀ i, i <= l.length -> (a1p l i).length <= i * n
 | 0, _ => by simp -implicitDefEqProofs [a1p]
 | i + 1, hi => by
  have e : a1p l (i + 1) = a1p l i ++ l[i].lines := by unfold a1p; rw [a0w (show i < l.length by omega), List.flatMap_append]; simp
  have h1 := h l[i] (List.getElem_mem _)
  have h2 := b3U h i (by omega)
  rw [e, List.length_append, Nat.succ_mul]; omega
def mrgI (o a b : List Str) : List Str × Bool := if a1i o && a1i a && a1i b then a1v (of3 o a b) else ([], false)
def b2Y : Con := .fn 51 (List Str × List Str × List Str) (fun a => [.sl true 1 (a0a a.1), .sl true 1 (a0a a.2.1), .sl true 1 (a0a a.2.2), .clo 102 []]) (fun a => True) (fun a => .tup [.own 8 1 (a0a (mrgI a.1 a.2.1 a.2.2).1), .bool (mrgI a.1 a.2.1 a.2.2).2]) (fun a => a2h 8 (mrgI a.1 a.2.1 a.2.2).1)
theorem c0f : Has Tryz.prog 101 b2Y := by
 refine a0d mixed a2d (HasL.cons b5e (HasL.cons b7J (HasL.cons c6V (HasL.cons a8v HasL.nil)))) [0, 1, 2, 3, 8, 9, 10, 12, 13, 14, 15, 24, 25, 26] ((fun a n (_ : Nat) => (fun a _ => ⟨Nat, fun i => ⟨[(3, true, .clo 102 []), (8, true, .nil), (9, true, .bool false), (10, true, .own 9 1 (a0a (a1p (of3 a.1 a.2.1 a.2.2) i))), (24, true, .own 10 5 (a0n (of3 a.1 a.2.1 a.2.2))), (25, true, .int .i64 (of3 a.1 a.2.1 a.2.2).length), (26, true, .int .i64 i)], [(9, .own 9 1 true (a0a (a1p (of3 a.1 a.2.1 a.2.2) i))), (10, .own 122 5 true (a0n (of3 a.1 a.2.1 a.2.2)))]⟩, fun i => i <= (of3 a.1 a.2.1 a.2.2).length /\ ((of3 a.1 a.2.1 a.2.2).take i).any (·.clash) = false /\ a1i a.1 = true /\ a1i a.2.1 = true /\ a1i a.2.2 = true, fun i => (of3 a.1 a.2.1 a.2.2).length - i⟩) a n)) [] Tryz.func101 (by unfold Tryz.f101; rfl) (fun _ => ⟨(), trivial⟩) ?_
 intro a _
 obtain ⟨o, a, b⟩ := a
 simp (maxSteps := 8000000) -implicitDefEqProofs [-kStep_move, -Bool.exists_bool, b2Y, a8M, b0P, cMt1, a7f, Con.fn, a2n, tTab]
 try dsimp only
 have f : ∀ (t : List Str), ∀ x ∈ a0a t, ∀ d ∈ x, match d with | .sl _ _ _ => False | _ => True := fun t => (eStrs_flat t).mpr trivial
 have m0 : (a1i o = false \/ a1i a = false) \/ a1i b = false -> mrgI o a b = ([], false) := fun h => by unfold mrgI; rw [if_neg]; rcases h with (h | h) | h <;> simp -implicitDefEqProofs [h]
 refine ⟨o, a, b, ⟨rfl, rfl, rfl⟩, fun h => by rw [m0 h]; exact ⟨⟨rfl, rfl⟩, rfl⟩, fun b1 b2 b3 => ?_⟩
 have m1 : mrgI o a b = a1v (of3 o a b) := by unfold mrgI; rw [b1, b2, b3]; rfl
 obtain ⟨d1, d2⟩ := c8d b1 b2 b3
 have l1 := a3V b1
 have l2 := a3V b2
 have l3 := a3V b3
 rw [m1]
 clear m0 m1
 refine ⟨o, a, b, ⟨rfl, rfl, rfl⟩, ⟨by omega, by omega, by omega⟩, fun _ => ?_⟩
 generalize of3 o a b = l at *
 have ll := b3U d2
 have hn0 : (∃ q ∈ l, q.clash = true) -> a1v l = ([], false) := fun ⟨q, h, h'⟩ => by unfold a1v; rw [if_pos (by simp; exact ⟨q, h, h'⟩)]
 have hn1 : (∀ q ∈ l, q.clash = false) -> a1i (a1p l l.length) = false -> a1v l = ([], false) := fun h h' => by
  unfold a1v a1p at *; rw [List.take_length] at h'; rw [if_neg (by simp; exact h), if_neg (by simp -implicitDefEqProofs [h'])]
 have hn2 : (∀ q ∈ l, q.clash = false) -> a1i (a1p l l.length) = true -> a1v l = (a1p l l.length, true) := fun h h' => by
  unfold a1v a1p at *; rw [List.take_length] at *; rw [if_neg (by simp; exact h), if_pos h']
 refine ⟨⟨0, ⟨⟨rfl, rfl, rfl, rfl⟩, rfl, rfl⟩, Nat.zero_le _, by simp, b1, b2, b3⟩, fun t ht hc c1 c2 c3 => ⟨fun hlt => ⟨hlt, fun _ => ?_⟩, fun hge => ?_⟩⟩
 ·have e : a1p l (t + 1) = a1p l t ++ l[t].lines := by unfold a1p; rw [a0w hlt, List.flatMap_append]; simp
  have q1 := d2 l[t] (List.getElem_mem hlt)
  have q2 := ll t ht
  have q3 : l[t] ∈ l := List.getElem_mem hlt
  have q4 : ∀ x ∈ l.take (t + 1), x ∈ l.take t \/ x = l[t] := fun x hx => by rw [a0w hlt] at hx; exact (List.mem_append.1 hx).imp id (fun h => List.mem_singleton.1 h)
  have qq : Option.map a1Q l[t]? = some (a1Q l[t]) := by simp -implicitDefEqProofs [hlt]
  rw [qq]
  generalize l[t] = q at *
  simp -implicitDefEqProofs [a1Q]
  refine ⟨fun h => (by rw [hn0 ⟨q, q3, h⟩]; exact ⟨⟨rfl, rfl⟩, rfl⟩), fun h => ⟨f _, ⟨by omega, by omega⟩, ⟨by omega, by omega⟩, fun _ _ => ⟨t + 1, ⟨⟨by rw [e, a0o], by omega⟩, by rw [e, a0o]⟩, ⟨by omega, fun x hx => (q4 x hx).elim (hc x) (fun hx => hx ▸ h), c1, c2, c3⟩, by omega⟩⟩⟩
 ·have : t = l.length := by omega
  subst this
  rw [List.take_length] at hc
  exact ⟨fun h => by rw [hn1 hc h]; exact ⟨⟨rfl, rfl⟩, rfl⟩, fun h => by rw [hn2 hc h]; exact ⟨⟨rfl, rfl⟩, rfl⟩⟩
def a5J : Con := .fn 14 (List Str × List Str × List Str) (fun a => [.sl true 1 (a0a a.1), .sl true 1 (a0a a.2.1), .sl true 1 (a0a a.2.2)]) (fun a => True) (fun a => .tup [.own 8 1 (a0a (mrgI a.1 a.2.1 a.2.2).1), .bool (mrgI a.1 a.2.1 a.2.2).2]) (fun a => a2h 8 (mrgI a.1 a.2.1 a.2.2).1)
theorem a8B : Has Tryz.prog 45 a5J := by
 refine a0d mixed a2d (HasL.cons c0f HasL.nil) [0, 1, 2, 6, 7] ((fun a n (_ : Nat) => (fun _ => a0r) a n)) [] Tryz.func45 (by unfold Tryz.f45; rfl) (fun _ => ⟨(), trivial⟩) ?_
 intro a _
 obtain ⟨o, a, b⟩ := a
 simp (maxSteps := 8000000) -implicitDefEqProofs [a5J, b2Y, Con.fn, a2n, tTab]
 try dsimp only
 exact ⟨o, a, b, ⟨rfl, rfl, rfl⟩, ⟨rfl, rfl⟩, rfl⟩
def oneH (o a b : List Str × Bool) : (List Str × Bool) × Int :=
 if b0c a o || b0c a b then (b, 0) else if b0c b o then (a, 0) else if !a.2 || !b.2 then (o, 1) else if !o.2 then (o, 2)
 else if (mrgI o.1 a.1 b.1).2 then ((( mrgI o.1 a.1 b.1).1, true), 0) else (o, 3)
def b5Z (a : (List Str × Bool) × (List Str × Bool) × (List Str × Bool)) : List (Nat × Nat × Nat × List (List D)) := [(0, 9, 1, a0a a.1.1), (1, 9, 1, a0a a.2.1.1), (2, 9, 1, a0a a.2.2.1)]
def b5Y (a : (List Str × Bool) × (List Str × Bool) × (List Str × Bool)) : List AV := [.agg [.own 0 1 (a0a a.1.1), .bool a.1.2], .agg [.own 1 1 (a0a a.2.1.1), .bool a.2.1.2], .agg [.own 2 1 (a0a a.2.2.1), .bool a.2.2.2]]
def b2O : Con := { A := (List Str × Bool) × (List Str × Bool) × (List Str × Bool), X := Unit, n := 55, args := b5Y, boxes := fun _ => [], pre := fun _ => True, post := fun _ _ => True, res := fun a _ => .tup [.agg [.own 8 1 (a0a (oneH a.1 a.2.1 a.2.2).1.1), .bool (oneH a.1 a.2.1 a.2.2).1.2], .int .i64 (oneH a.1 a.2.1 a.2.2).2], fin := fun a _ => [(8, .own 9 1 true (a0a (oneH a.1 a.2.1 a.2.2).1.1))], owns := b5Z, mv := true }
theorem b9C : Has Tryz.prog 167 b2O := by
 refine a0d mixed a2d (HasL.cons b7p (HasL.cons a8B HasL.nil)) [0, 1, 2, 3, 4, 5, 6, 7, 8, 9] ((fun a n (_ : Nat) => (fun _ => a0r) a n)) [] Tryz.func167 (by unfold Tryz.f167; rfl) (fun _ => ⟨(), trivial⟩) ?_
 intro a _
 obtain ⟨⟨o, p⟩, ⟨a, q⟩, b, r⟩ := a
 simp (maxSteps := 8000000) -implicitDefEqProofs [-kStep_move, -kStepC_move, -Bool.exists_bool, b2O, b5Y, b5Z, b0G, a5J, Con.fn, a2n, tTab]
 try dsimp only
 have fin : ∀ (x : (List Str × Bool) × Int) (t : List Str) (d : Bool) (n : Int), x = ((t, d), n) -> ((x.1.1 = t /\ x.1.2 = d) /\ x.2 = n) /\ t = x.1.1 := fun x t d n h => by subst h; exact ⟨⟨⟨rfl, rfl⟩, rfl⟩, rfl⟩
 refine ⟨a, q, o, p, ⟨⟨rfl, rfl⟩, rfl, rfl⟩, a, q, b, r, ⟨⟨rfl, rfl⟩, rfl, rfl⟩, fun h => fin _ _ _ _ ?_, fun h1 h2 => ⟨b, r, o, p, ⟨⟨rfl, rfl⟩, rfl, rfl⟩, fun h3 => fin _ _ _ _ ?_, fun h3 => ⟨fun h4 => fin _ _ _ _ ?_, fun h4 h5 => ⟨fun h6 => fin _ _ _ _ ?_, fun h6 => ⟨o, a, b, ⟨rfl, rfl, rfl⟩, fun h7 => fin _ _ _ _ ?_, fun h7 => fin _ _ _ _ ?_⟩⟩⟩⟩⟩
 ·unfold oneH; rw [if_pos (by simpa using h)]
 ·unfold oneH; rw [if_neg (by simp -implicitDefEqProofs [h1, h2]), if_pos h3]
 ·unfold oneH; rw [if_neg (by simp -implicitDefEqProofs [h1, h2]), if_neg (by simp -implicitDefEqProofs [h3]), if_pos (by simpa using h4)]
 ·unfold oneH; rw [if_neg (by simp -implicitDefEqProofs [h1, h2]), if_neg (by simp -implicitDefEqProofs [h3]), if_neg (by simp -implicitDefEqProofs [h4, h5]), if_pos (by simpa using h6)]
 ·unfold oneH; rw [if_neg (by simp -implicitDefEqProofs [h1, h2]), if_neg (by simp -implicitDefEqProofs [h3]), if_neg (by simp -implicitDefEqProofs [h4, h5]), if_neg (by simp -implicitDefEqProofs [h6]), if_neg (by simp -implicitDefEqProofs [h7])]
 ·unfold oneH; rw [if_neg (by simp -implicitDefEqProofs [h1, h2]), if_neg (by simp -implicitDefEqProofs [h3]), if_neg (by simp -implicitDefEqProofs [h4, h5]), if_neg (by simp -implicitDefEqProofs [h6]), if_pos h7]
def b2T : Con := .fn 21 ((List Str × Bool) × (List Str × Bool)) (fun a => [.sl true 1 (a0a a.1.1), .bool a.1.2, .sl true 1 (a0a a.2.1), .bool a.2.2]) (fun _ => True) (fun a => .bool (a1y a.1 a.2)) (fun _ => [])
theorem b9U : Has Tryz.prog 215 b2T := by
 refine a0d mixed a0h (HasL.cons b2d HasL.nil) [0, 1, 2, 3, 8] ((fun a n (_ : Nat) => (fun _ => a0r) a n)) [] Tryz.func215 (by unfold Tryz.f215; rfl) (fun _ => ⟨(), trivial⟩) ?_
 intro a _
 obtain ⟨⟨x, i⟩, y, j⟩ := a
 simp -implicitDefEqProofs [b2T, a9N, Con.fn, tTab]
 try dsimp only
 cases i <;> cases j <;> simp -implicitDefEqProofs [a1y, and_assoc]
theorem c8c (o a b : List Str) : (of3 o a b).length <= 2 * (o.length + 1) /\ ∀ q ∈ of3 o a b, q.lines.length <= o.length + a.length + b.length + 3 := by
 obtain ⟨h1, h2, h3, h4, h5, h6, h7⟩ := a5k o a b (o.length + 1) (Nat.le_refl _)
 exact ⟨h6, fun q hq => by have := h7 q hq; omega⟩
def b5u : Con := .fn 82 (List FileD × List FileD × List FileD × Str) (fun a => [.sl true 2 (a0b a.1), .sl true 2 (a0b a.2.1), .sl true 2 (a0b a.2.2.1), .str a.2.2.2]) (fun a => (∀ f ∈ a.1, f.text.length <= 64) /\ (∀ f ∈ a.2.1, f.text.length <= 64) /\ ∀ f ∈ a.2.2.1, f.text.length <= 64) (fun a => .tup [.sl false 1 (a0a (one6 a.1 a.2.1 a.2.2.1 a.2.2.2).1), .bool (one6 a.1 a.2.1 a.2.2.1 a.2.2.2).2.1, .int .i64 (one6 a.1 a.2.1 a.2.2.1 a.2.2.2).2.2]) (fun _ => [])
theorem c2m : Has Tryz.prog 191 b5u := by
 refine a0d mixed a0h (HasL.cons c2i (HasL.cons b9U (HasL.cons c4B (HasL.cons b9R HasL.nil)))) [0, 1, 2, 3, 8, 9, 10, 11, 12, 13, 14, 15, 16, 17, 18, 37] ((fun a n (_ : Nat) => (fun _ => a0r) a n)) [] Tryz.func191 (by unfold Tryz.f191; rfl) (fun _ => ⟨(), trivial⟩) ?_
 intro a ha
 obtain ⟨o, a, b, p⟩ := a
 obtain ⟨h1, h2, h3⟩ : (∀ f ∈ o, f.text.length <= 64) /\ (∀ f ∈ a, f.text.length <= 64) /\ ∀ f ∈ b, f.text.length <= 64 := ha
 have g1 := a5j h1 p
 have g2 := a5j h2 p
 have g3 := a5j h3 p
 simp (maxSteps := 8000000) -implicitDefEqProofs [-kStep_move, -Bool.exists_bool, b5u, b5s, b2T, b9d, b2S, Con.fn, tTab]
 try dsimp only
 have so : ∀ x y : List Str × Bool, a1y (x.1, x.2) (y.1, y.2) = a1y x y := fun _ _ => rfl
 have ob := c8c (getL o p).1 (getL a p).1 (getL b p).1
 generalize hO : getL o p = O at *
 generalize hA : getL a p = A at *
 generalize hB : getL b p = B at *
 have e1 : (a1y A O = true \/ a1y A B = true) -> one6 o a b p = (B.1, B.2, 0) := fun h => by unfold one6; rw [hO, hA, hB]; rw [if_pos (by simpa using h)]
 have e2 : a1y A O = false -> a1y A B = false -> a1y B O = true -> one6 o a b p = (A.1, A.2, 0) := fun h h' h2 => by unfold one6; rw [hO, hA, hB]; rw [if_neg (by simp -implicitDefEqProofs [h, h']), if_pos h2]
 have e3 : a1y A O = false -> a1y A B = false -> a1y B O = false -> (A.2 = false \/ B.2 = false) -> one6 o a b p = (O.1, O.2, 1) := fun h h' h2 h3 => by unfold one6; rw [hO, hA, hB]; rw [if_neg (by simp -implicitDefEqProofs [h, h']), if_neg (by simp -implicitDefEqProofs [h2]), if_pos (by simpa using h3)]
 have e4 : a1y A O = false -> a1y A B = false -> a1y B O = false -> A.2 = true -> B.2 = true -> O.2 = false -> one6 o a b p = ([], false, 2) := fun h h' h2 h3 h4 h5 => by unfold one6; rw [hO, hA, hB]; rw [if_neg (by simp -implicitDefEqProofs [h, h']), if_neg (by simp -implicitDefEqProofs [h2]), if_neg (by simp -implicitDefEqProofs [h3, h4]), if_pos (by simp -implicitDefEqProofs [h5])]
 have e5 : a1y A O = false -> a1y A B = false -> a1y B O = false -> A.2 = true -> B.2 = true -> O.2 = true -> (a1v (of3 O.1 A.1 B.1)).2 = true -> one6 o a b p = ((a1v (of3 O.1 A.1 B.1)).1, true, 0) := fun h h' h2 h3 h4 h5 h6 => by unfold one6; rw [hO, hA, hB]; rw [if_neg (by simp -implicitDefEqProofs [h, h']), if_neg (by simp -implicitDefEqProofs [h2]), if_neg (by simp -implicitDefEqProofs [h3, h4]), if_neg (by simp -implicitDefEqProofs [h5]), if_pos h6]
 have e6 : a1y A O = false -> a1y A B = false -> a1y B O = false -> A.2 = true -> B.2 = true -> O.2 = true -> (a1v (of3 O.1 A.1 B.1)).2 = false -> one6 o a b p = (O.1, true, 3) := fun h h' h2 h3 h4 h5 h6 => by unfold one6; rw [hO, hA, hB]; rw [if_neg (by simp -implicitDefEqProofs [h, h']), if_neg (by simp -implicitDefEqProofs [h2]), if_neg (by simp -implicitDefEqProofs [h3, h4]), if_neg (by simp -implicitDefEqProofs [h5]), if_neg (by simp -implicitDefEqProofs [h6])]
 refine ⟨o, p, ⟨rfl, rfl⟩, a, p, ⟨rfl, rfl⟩, b, p, ⟨rfl, rfl⟩, ?_⟩
 rw [hO, hA, hB]
 refine ⟨_, _, _, _, ⟨rfl, rfl, rfl, rfl⟩, fun h => ⟨fun _ => ?_, fun h' => absurd (h.symm.trans h') (by decide)⟩, fun h => ⟨_, _, _, _, ⟨rfl, rfl, rfl, rfl⟩, fun h2 => ?_, fun h2 => ⟨_, _, _, _, ⟨rfl, rfl, rfl, rfl⟩, fun h3 => ?_, fun h3 => ⟨fun h4 => ?_, fun h4 h5 => ⟨fun h6 => ?_, fun h6 => ⟨_, _, _, ⟨rfl, rfl, rfl⟩, ⟨by omega, by omega, by omega⟩, ⟨by omega, fun q hq => by have := ob.2 q hq; omega⟩, ?_⟩⟩⟩⟩⟩⟩
 ·rw [e1 (.inl h)]; exact ⟨rfl, rfl, rfl⟩
 ·rw [e1 (.inr h2)]; exact ⟨rfl, rfl, rfl⟩
 ·rw [e2 h h2 h3]; exact ⟨rfl, rfl, rfl⟩
 ·rw [e3 h h2 h3 h4]; exact ⟨rfl, rfl, rfl⟩
 ·rw [e4 h h2 h3 h4 h5 h6]; exact ⟨rfl, rfl, rfl⟩
 ·exact ⟨fun h7 => by rw [e6 h h2 h3 h4 h5 h6 h7]; exact ⟨rfl, rfl, rfl⟩, fun h7 => by rw [e5 h h2 h3 h4 h5 h6 h7]; exact ⟨rfl, rfl, rfl⟩⟩
def b5t : Con := .fn 48 (List Str × Str) (fun a => [.sl true 1 (a0a a.1), .str a.2]) (fun a => a.1.length <= 1073741824) (fun a => .sl false 1 (a0a (putS a.1 a.2))) (fun _ => [])
theorem c2l : Has Tryz.prog 151 b5t := by
 refine a0d mixed a0h HasL.nil [0, 1, 4, 5, 6] ((fun a n (_ : Nat) => (fun a _ => ⟨Nat, fun k => ⟨[(0, true, .sl true 1 (a0a a.1)), (1, true, .str a.2), (4, true, .nil), (5, true, .int .i64 k)], []⟩, fun k => k <= a.1.length /\ a.1.take k ++ putS (a.1.drop k) a.2 = putS a.1 a.2, fun k => a.1.length - k⟩) a n)) [] Tryz.func151 (by unfold Tryz.f151; rfl) (fun _ => ⟨(), trivial⟩) ?_
 intro a ha
 obtain ⟨l, s⟩ := a
 replace ha : l.length <= 1073741824 := ha
 simp -implicitDefEqProofs [b5t, Con.fn, tTab]
 try dsimp only
 have f : ∀ (t : List Str), ∀ x ∈ a0a t, ∀ d ∈ x, match d with | .sl _ _ _ => False | _ => True := fun t => (eStrs_flat t).mpr trivial
 have f1 : ∀ t, ∀ x ∈ List.take t (a0a l), ∀ d ∈ x, match d with | .sl _ _ _ => False | _ => True := fun t => by rw [a0v]; exact f _
 have f2 : ∀ t, ∀ x ∈ List.take (l.length - t) (List.drop t (a0a l)), ∀ d ∈ x, match d with | .sl _ _ _ => False | _ => True := fun t => by rw [a0C, a0v]; exact f _
 have fin : ∀ t, putS l s = l.take t ++ [s] ++ l.drop t -> a0a (putS l s) = List.take t (a0a l) ++ [D.str s] :: List.take (l.length - t) (List.drop t (a0a l)) := fun t h => by
  rw [h, a0C, a0v, a0v, List.take_of_length_le (show (l.drop t).length <= l.length - t by simp)]
  simp -implicitDefEqProofs [a0a, eStr]
 refine fun t ht hp _ => ⟨fun hlt => ⟨hlt, fun _ => ?_⟩, fun hge _ => ⟨fun hlt => absurd hlt (by omega), fun _ => ⟨ht, fun _ => ⟨f1 t, ⟨by omega, by omega⟩, ⟨by omega, by omega⟩, ht, fun _ => ⟨f2 t, ⟨by omega, by omega⟩, fin t (c5o hge hp)⟩⟩⟩⟩⟩
 have qq : Option.map eStr l[t]? = some (eStr l[t]) := by simp -implicitDefEqProofs [hlt]
 rw [qq]
 have g1 := c2T hlt hp
 have g2 := c7i hlt hp
 have g3 := c7j hlt hp
 generalize l[t] = y at *
 simp -implicitDefEqProofs [eStr, D.asStr]
 refine ⟨fun h => ⟨⟨by omega, by omega⟩, fun _ _ => ⟨t + 1, by omega, ⟨by omega, g1 h⟩, by omega⟩⟩, fun h _ => ⟨fun _ => ⟨hlt, fun _ => ⟨fun e => g2 h e, fun e => ⟨ht, fun _ => ⟨f1 t, ⟨by omega, by omega⟩, ⟨by omega, by omega⟩, ht, fun _ => ⟨f2 t, ⟨by omega, by omega⟩, fin t (g3 h e)⟩⟩⟩⟩⟩, fun hge => absurd hlt (by omega)⟩⟩
def b9V (o a b : List FileD) : Inv := ⟨Nat, fun i => ⟨[(0, true, .sl true 2 (a0b o)), (1, true, .sl true 2 (a0b a)), (2, true, .sl true 2 (a0b b)), (6, true, .nil), (7, true, .sl false 1 (a0a (a1u [] (o.take i)))), (8, true, .int .i64 i)], []⟩, fun i => i <= o.length, fun i => o.length - i⟩
def b9W (o a b : List FileD) : Inv := ⟨Nat, fun i => ⟨[(0, true, .sl true 2 (a0b o)), (1, true, .sl true 2 (a0b a)), (2, true, .sl true 2 (a0b b)), (6, true, .nil), (7, true, .sl false 1 (a0a (a1u (a1u [] o) (a.take i)))), (9, true, .int .i64 i)], []⟩, fun i => i <= a.length, fun i => a.length - i⟩
def b9X (o a b : List FileD) : Inv := ⟨Nat, fun i => ⟨[(0, true, .sl true 2 (a0b o)), (1, true, .sl true 2 (a0b a)), (2, true, .sl true 2 (a0b b)), (6, true, .nil), (7, true, .sl false 1 (a0a (a1u (a1u (a1u [] o) a) (b.take i)))), (10, true, .int .i64 i)], []⟩, fun i => i <= b.length, fun i => b.length - i⟩
def b2j (o a b : List FileD) (n : Nat) : Inv := if n = 3 then b9V o a b else if n = 7 then b9W o a b else b9X o a b
theorem c4D (o a b : List FileD) : b2j o a b 3 = b9V o a b := rfl
theorem c4E (o a b : List FileD) : b2j o a b 7 = b9W o a b := rfl
theorem c2n (o a b : List FileD) : b2j o a b 11 = b9X o a b := rfl
def b0M : Con := .fn 52 (List FileD × List FileD × List FileD) (fun a => [.sl true 2 (a0b a.1), .sl true 2 (a0b a.2.1), .sl true 2 (a0b a.2.2)]) (fun a => a.1.length <= 1048576 /\ a.2.1.length <= 1048576 /\ a.2.2.length <= 1048576) (fun a => .sl false 1 (a0a (a0H a.1 a.2.1 a.2.2))) (fun _ => [])
theorem b7F : Has Tryz.prog 111 b0M := by
 refine a0d mixed a0h (HasL.cons c2l HasL.nil) [0, 1, 2, 6, 7, 8, 9, 10] ((fun a n (_ : Nat) => (fun a n => b2j a.1 a.2.1 a.2.2 n) a n)) [] Tryz.func111 (by unfold Tryz.f111; rfl) (fun _ => ⟨(), trivial⟩) ?_
 intro a ha
 obtain ⟨o, a, b⟩ := a
 obtain ⟨h1, h2, h3⟩ : o.length <= 1048576 /\ a.length <= 1048576 /\ b.length <= 1048576 := ha
 simp -implicitDefEqProofs [b0M, b5t, Con.fn, tTab, c4D, c4E, c2n, b9V, b9W, b9X]
 try dsimp only
 have b1 := a3j o []
 have b2 := a3j a (a1u [] o)
 simp only [List.length_nil] at b1
 have z : ([] : List Str).length = 0 := rfl
 refine ⟨⟨0, ⟨rfl, rfl⟩, Nat.zero_le _⟩, fun t ht _ => ⟨fun hlt => ⟨hlt, fun _ => ?_⟩, fun hge => ⟨⟨0, ⟨by rw [List.take_of_length_le hge]; rfl, rfl⟩, Nat.zero_le _⟩, fun u hu _ => ⟨fun hlt => ⟨hlt, fun _ => ?_⟩, fun hge => ⟨⟨0, ⟨by rw [List.take_of_length_le hge]; rfl, rfl⟩, Nat.zero_le _⟩, fun v hv _ => ⟨fun hlt => ⟨hlt, fun _ => ?_⟩, fun hge => by rw [List.take_of_length_le hge]; rfl⟩⟩⟩⟩⟩⟩
 ·have hb := a3j (o.take t) ([])
  have hl : (o.take t).length <= o.length := by simp; omega
  have qq : Option.map a0z o[t]? = some (a0z o[t]) := by simp -implicitDefEqProofs [hlt]
  have hs := a8n (l := []) hlt
  rw [qq]
  simp -implicitDefEqProofs [a0z, D.asStr]
  exact ⟨_, _, ⟨rfl, rfl⟩, by omega, ⟨by omega, by omega⟩, fun _ _ => ⟨t + 1, ⟨hs, by omega⟩, by omega, by omega⟩⟩
 ·have hb := a3j (a.take u) (a1u [] o)
  have hl : (a.take u).length <= a.length := by simp; omega
  have qq : Option.map a0z a[u]? = some (a0z a[u]) := by simp -implicitDefEqProofs [hlt]
  have hs := a8n (l := a1u [] o) hlt
  rw [qq]
  simp -implicitDefEqProofs [a0z, D.asStr]
  exact ⟨_, _, ⟨rfl, rfl⟩, by omega, ⟨by omega, by omega⟩, fun _ _ => ⟨u + 1, ⟨hs, by omega⟩, by omega, by omega⟩⟩
 ·have hb := a3j (b.take v) (a1u (a1u [] o) a)
  have hl : (b.take v).length <= b.length := by simp; omega
  have qq : Option.map a0z b[v]? = some (a0z b[v]) := by simp -implicitDefEqProofs [hlt]
  have hs := a8n (l := a1u (a1u [] o) a) hlt
  rw [qq]
  simp -implicitDefEqProofs [a0z, D.asStr]
  exact ⟨_, _, ⟨rfl, rfl⟩, by omega, ⟨by omega, by omega⟩, fun _ _ => ⟨v + 1, ⟨hs, by omega⟩, by omega, by omega⟩⟩
abbrev c5b (h : Nat) (a : List HeadD) : List (Nat × Blk) := [(h, .own 180 2 true (a0c a))]
def l6oI (o a b : List FileD) : Inv := ⟨Nat, fun i => ⟨[(0, true, .sl true 2 (a0b o)), (1, true, .sl true 2 (a0b a)), (2, true, .sl true 2 (a0b b)), (6, true, .nil), (7, true, .nil), (8, true, .own 9 2 (a0b (runJ o a b ((a0H o a b).take i)).1)), (9, true, .own 10 2 (a0c (runJ o a b ((a0H o a b).take i)).2)), (10, true, .sl false 1 (a0a (a0H o a b))), (11, true, .int .i64 i)], [(9, .own 39 2 true (a0b (runJ o a b ((a0H o a b).take i)).1)), (10, .own 180 2 true (a0c (runJ o a b ((a0H o a b).take i)).2))]⟩, fun i => i <= (a0H o a b).length, fun i => (a0H o a b).length - i⟩
def szT (t : List FileD) : Prop := t.length <= 100000 /\ ∀ f ∈ t, f.text.length <= 64
def b9e : Con := .fn 64 (List FileD × List FileD × List FileD) (fun a => [.sl true 2 (a0b a.1), .sl true 2 (a0b a.2.1), .sl true 2 (a0b a.2.2)]) (fun a => szT a.1 /\ szT a.2.1 /\ szT a.2.2) (fun a => .tup [.own 8 2 (a0b (of6 a.1 a.2.1 a.2.2).1), .own 9 2 (a0c (of6 a.1 a.2.1 a.2.2).2)]) (fun a => a3r 8 (of6 a.1 a.2.1 a.2.2).1 ++ c5b 9 (of6 a.1 a.2.1 a.2.2).2)
theorem c4C : Has Tryz.prog 165 b9e := by
 refine a0d mixed a0h (HasL.cons b7F (HasL.cons c2m HasL.nil)) [0, 1, 2, 6, 7, 8, 9, 10, 11, 12, 13, 14] ((fun a n (_ : Nat) => (fun a _ => l6oI a.1 a.2.1 a.2.2) a n)) [60] Tryz.func165 (by unfold Tryz.f165; rfl) (fun _ => ⟨(), trivial⟩) ?_
 intro a ha
 obtain ⟨o, a, b⟩ := a
 obtain ⟨⟨h1, h1'⟩, ⟨h2, h2'⟩, h3, h3'⟩ : szT o /\ szT a /\ szT b := ha
 simp -implicitDefEqProofs [b9e, b0M, b5u, Con.fn, tTab, l6oI]
 try dsimp only
 have hp := b2s o a b
 refine ⟨o, a, b, ⟨rfl, rfl, rfl⟩, ⟨by omega, by omega, by omega⟩, ⟨0, ⟨⟨rfl, rfl, rfl, rfl⟩, rfl, rfl⟩, Nat.zero_le _⟩, fun t ht _ => ⟨fun hlt => ⟨hlt, fun _ => ?_⟩, fun hge => ?_⟩⟩
 ·have qq : Option.map eStr (a0H o a b)[t]? = some (eStr (a0H o a b)[t]) := by simp -implicitDefEqProofs [hlt]
  have hs := b4e (o := o) (a := a) (b := b) hlt
  have hb := b6H o a b ((a0H o a b).take t)
  have hl : ((a0H o a b).take t).length <= (a0H o a b).length := by simp; omega
  have ho := b6r (p := (a0H o a b)[t]) (show 10 <= 64 by omega) h1' h2' h3'
  rw [qq]
  generalize runJ o a b ((a0H o a b).take t) = R at *
  generalize (a0H o a b)[t] = y at *
  obtain ⟨X, Y⟩ := R
  simp only at hb
  simp -implicitDefEqProofs [eStr, D.asStr]
  refine ⟨o, a, b, y, ⟨rfl, rfl, rfl, rfl⟩, ⟨h1', h2', h3'⟩, ?_⟩
  generalize hone : one6 o a b y = O at *
  obtain ⟨x1, x2, x3⟩ := O
  have f : ∀ (t : List Str), ∀ x ∈ a0a t, ∀ d ∈ x, match d with | .sl _ _ _ => False | _ => True := fun t => (eStrs_flat t).mpr trivial
  have st : runJ o a b ((a0H o a b).take (t + 1)) = (if x2 = true then X ++ [⟨y, x1⟩] else X, if 0 < x3 then Y ++ [⟨y, x3⟩] else Y) := by rw [hs]; unfold stepJ; rw [hone]
  have snF : a0b X ++ [[D.str y, D.sl 9 1 (a0a x1)]] = a0b (X ++ [⟨y, x1⟩]) := a0t _ _ _
  have snH : a0c Y ++ [[D.str y, D.int .i64 x3]] = a0c (Y ++ [⟨y, x3⟩]) := b0m _ _ _
  dsimp only at ho ⊢
  rw [snF, snH]
  refine ⟨fun h3 => ⟨hlt, fun _ => ⟨⟨by omega, by omega⟩, fun h2 => ⟨hlt, fun _ => ⟨f x1, ⟨by omega, by omega⟩, ⟨by omega, by omega⟩, ⟨by omega, by omega⟩, fun _ _ => ⟨t + 1, ?_⟩⟩⟩, fun h2 => ⟨⟨by omega, by omega⟩, fun _ _ => ⟨t + 1, ?_⟩⟩⟩⟩, fun h3 => ⟨fun h2 => ⟨hlt, fun _ => ⟨f x1, ⟨by omega, by omega⟩, ⟨by omega, by omega⟩, ⟨by omega, by omega⟩, fun _ _ => ⟨t + 1, ?_⟩⟩⟩, fun h2 => ⟨⟨by omega, by omega⟩, fun _ _ => ⟨t + 1, ?_⟩⟩⟩⟩
  ·rw [st, if_pos h2, if_pos h3]; exact ⟨⟨⟨rfl, rfl, by omega⟩, rfl, rfl⟩, by omega, by omega⟩
  ·rw [st, if_neg (by simp -implicitDefEqProofs [h2]), if_pos h3]; exact ⟨⟨⟨rfl, rfl, by omega⟩, rfl, rfl⟩, by omega, by omega⟩
  ·rw [st, if_pos h2, if_neg (by omega)]; exact ⟨⟨⟨rfl, rfl, by omega⟩, rfl, rfl⟩, by omega, by omega⟩
  ·rw [st, if_neg (by simp -implicitDefEqProofs [h2]), if_neg (by omega)]; exact ⟨⟨⟨rfl, rfl, by omega⟩, rfl, rfl⟩, by omega, by omega⟩
 ·have e : (a0H o a b).take t = a0H o a b := List.take_of_length_le hge
  rw [e]; exact ⟨⟨rfl, rfl⟩, rfl, rfl⟩
def a9P : Con := .fn 31 (List FileD × List FileD × List FileD) (fun a => [.sl true 2 (a0b a.1), .sl true 2 (a0b a.2.1), .sl true 2 (a0b a.2.2)]) (fun a => szT a.1 /\ szT a.2.1 /\ szT a.2.2) (fun a => .tup [.sl false 2 (a0b (a1b a.1 a.2.1 a.2.2).1), .sl false 2 (a0c (a1b a.1 a.2.1 a.2.2).2)]) (fun _ => [])
theorem b2i : Has Tryz.prog 138 a9P := by
 refine a0d mixed a0h (HasL.cons c4C (HasL.cons a6p (HasL.cons a4c HasL.nil))) [0, 1, 2, 6, 7, 8, 9] ((fun a n (_ : Nat) => (fun _ => a0r) a n)) [] Tryz.func138 (by unfold Tryz.f138; rfl) (fun _ => ⟨(), trivial⟩) ?_
 intro a ha
 obtain ⟨o, a, b⟩ := a
 obtain ⟨h1, h2, h3⟩ : szT o /\ szT a /\ szT b := ha
 simp -implicitDefEqProofs [a9P, b9e, a7N, a4u, Con.fn, tTab]
 try dsimp only
 have e1 : (of6 o a b).2 = [] -> a0S (of6 o a b).1 = false -> a1b o a b = (o, [⟨[], 4⟩]) := fun h h' => by unfold a1b; rw [if_pos ⟨h, h'⟩]
 have e2 : (of6 o a b).2 = [] -> a0S (of6 o a b).1 = true -> a1b o a b = of6 o a b := fun h h' => by unfold a1b; rw [if_neg (by simp -implicitDefEqProofs [h'])]
 have e3 : ¬ (of6 o a b).2 = [] -> a1b o a b = of6 o a b := fun h => by unfold a1b; rw [if_neg (by simp -implicitDefEqProofs [h])]
 refine ⟨o, a, b, ⟨rfl, rfl, rfl⟩, ⟨h1, h2, h3⟩, fun _ => ⟨fun h => ⟨fun h' => ⟨⟨by have := h1.1; omega, fun f hf => by have := h1.2 f hf; omega⟩, ?_⟩, fun h' => ?_⟩, fun h => ?_⟩⟩
 ·rw [e1 h h']; exact ⟨rfl, rfl⟩
 ·rw [e2 h h']; exact ⟨rfl, rfl⟩
 ·rw [e3 h]; exact ⟨rfl, rfl⟩
--TAB a2n
theorem a7k {t : List FileD} {p : Str} (h : (getL t p).2 = false) : (getL t p).1 = [] := by
 induction t with
 | nil => rfl
 | cons f t ih =>
  unfold getL at h ⊢
  split
  ·rename_i e; rw [if_pos e] at h; cases h
  ·rename_i e; rw [if_neg e] at h; exact ih h
theorem same_eq {x y : List Str × Bool} (hx : x.2 = false -> x.1 = []) (hy : y.2 = false -> y.1 = []) : b0c x y = a1y x y := by
 unfold b0c a1y
 cases h : x.2 <;> cases h' : y.2 <;> simp
 rw [hx h, hy h']
theorem a3P {t : List FileD} (h : a0s t = true) (p : Str) : a1i (getL t p).1 = true := by
 simp only [a0s, Bool.and_eq_true, decide_eq_true_eq, List.all_eq_true, List.mem_range] at h
 have hf : ∀ f ∈ t, a1i f.text = true := by
  intro f hf
  obtain ⟨i, hi, rfl⟩ := List.getElem_of_mem hf
  have := (h.2 i hi).1
  simp only [a2F, Bool.and_eq_true] at this
  have e : t.getD i default = t[i] := by simp -implicitDefEqProofs [List.getD_eq_getElem?_getD, hi]
  rw [e] at this
  exact this.1.1
 clear h
 induction t with
 | nil => rfl
 | cons f t ih =>
  unfold getL
  split
  ·exact hf f (by simp)
  ·exact ih fun g hg => hf g (by simp -implicitDefEqProofs [hg])
theorem c8f {o a b : List FileD} (ho : a0s o = true) (ha : a0s a = true) (hb : a0s b = true) (p : Str) : oneH (getL o p) (getL a p) (getL b p) = (((one6 o a b p).1, (one6 o a b p).2.1), (one6 o a b p).2.2) := by
 have m : mrgI (getL o p).1 (getL a p).1 (getL b p).1 = a1v (of3 (getL o p).1 (getL a p).1 (getL b p).1) := by
  unfold mrgI; rw [a3P ho, a3P ha, a3P hb]; rfl
 have n1 := @a7k o p
 have n2 := @a7k a p
 have n3 := @a7k b p
 unfold oneH one6
 rw [same_eq n2 n1, same_eq n2 n3, same_eq n3 n1, m]
 split
 ·rfl
 ·split
  ·rfl
  ·split
   ·rfl
   ·split
    ·rename_i h
     have h : (getL o p).2 = false := by simpa using h
     rw [<- n1 h, <- h]
    ·rename_i h
     have h : (getL o p).2 = true := by simpa using h
     split
     ·rfl
     ·rw [<- h]
def a3G (o a b : List FileD) : List FileD × List HeadD := if a0s o && a0s a && a0s b then a1b o a b else ([], [])
theorem c3c (o a b : List FileD) (l : List Str) : ∀ f ∈ (runJ o a b l).1, f.path ∈ l := by
 have : ∀ (l : List Str) (s : List FileD × List HeadD), ∀ f ∈ (l.foldl (stepJ o a b) s).1, f ∈ s.1 \/ f.path ∈ l := by
  intro l
  induction l with
  | nil => intro s f hf; exact .inl hf
  | cons p l ih =>
   intro s f hf
   rcases ih _ f hf with h | h
   ·have h : f ∈ (if (one6 o a b p).2.1 then s.1 ++ [⟨p, (one6 o a b p).1⟩] else s.1) := h
    split at h
    ·rcases List.mem_append.1 h with h | h
     ·exact .inl h
     ·have : f = ⟨p, (one6 o a b p).1⟩ := by simpa using h
      subst this; exact .inr (by simp)
    ·exact .inl h
   ·exact .inr (by simp -implicitDefEqProofs [h])
 intro f hf
 exact (this l ([], []) f hf).resolve_left (by simp)
theorem c7r {o a b : List FileD} (h1 : ptSz o) (h2 : ptSz a) (h3 : ptSz b) (i : Nat) : ptSz (runJ o a b ((a0H o a b).take i)).1 := by
 intro f hf
 have h := List.mem_of_mem_take (c3c o a b _ f hf)
 have h := ((a5P o a b).2 f.path).1 h
 simp only [List.map_append, List.mem_append, List.mem_map] at h
 rcases h with (⟨g, hg, e⟩ | ⟨g, hg, e⟩) | ⟨g, hg, e⟩
 ·rw [<- e]; exact h1 g hg
 ·rw [<- e]; exact h2 g hg
 ·rw [<- e]; exact h3 g hg
theorem c6X (o a b : List FileD) (p : Str) : 0 <= (one6 o a b p).2.2 := by
 unfold one6
 repeat' split
 all_goals simp
def joI (o a b : List FileD) : Inv := ⟨Nat, fun i => ⟨[(0, true, .sl true 2 (a0b o)), (1, true, .sl true 2 (a0b a)), (2, true, .sl true 2 (a0b b)), (6, true, .nil), (7, true, .nil), (8, true, .own 9 2 (a0b (runJ o a b ((a0H o a b).take i)).1)), (9, true, .own 10 2 (a0c (runJ o a b ((a0H o a b).take i)).2)), (23, true, .own 11 1 (a0a (a0H o a b))), (24, true, .int .i64 (a0H o a b).length), (25, true, .int .i64 i)], [(9, .own 39 2 true (a0b (runJ o a b ((a0H o a b).take i)).1)), (10, .own 180 2 true (a0c (runJ o a b ((a0H o a b).take i)).2)), (11, .own 9 1 true (a0a (a0H o a b)))]⟩, fun i => i <= (a0H o a b).length /\ a0s o = true /\ a0s a = true /\ a0s b = true, fun i => (a0H o a b).length - i⟩
def b2P : Con := .fn 74 (List FileD × List FileD × List FileD) (fun a => [.sl true 2 (a0b a.1), .sl true 2 (a0b a.2.1), .sl true 2 (a0b a.2.2)]) (fun a => ptSz a.1 /\ ptSz a.2.1 /\ ptSz a.2.2) (fun a => .tup [.own 8 2 (a0b (a3G a.1 a.2.1 a.2.2).1), .own 9 2 (a0c (a3G a.1 a.2.1 a.2.2).2)]) (fun a => a3r 8 (a3G a.1 a.2.1 a.2.2).1 ++ [(9, .own 180 2 true (a0c (a3G a.1 a.2.1 a.2.2).2))])
theorem b9D : Has Tryz.prog 142 b2P := by
 refine a0d mixed a2d (HasL.cons a8J (HasL.cons b5a (HasL.cons c1K (HasL.cons b9C (HasL.cons a5S (HasL.cons a4M HasL.nil)))))) [0, 1, 2, 6, 7, 8, 9, 11, 12, 13, 23, 24, 25] ((fun a n (_ : Nat) => (fun a _ => joI a.1 a.2.1 a.2.2) a n)) [] Tryz.func142 (by unfold Tryz.f142; rfl) (fun _ => ⟨(), trivial⟩) ?_
 intro a ha
 obtain ⟨o, a, b⟩ := a
 obtain ⟨h1, h2, h3⟩ : ptSz o /\ ptSz a /\ ptSz b := ha
 simp (maxSteps := 8000000) -implicitDefEqProofs [-kStep_move, -Bool.exists_bool, b2P, a6w, a8K, b5o, b2O, b5Y, b5Z, a5U, a4s, Con.fn, a2n, tTab, joI]
 try dsimp only
 have j0 : (a0s o = false \/ a0s a = false) \/ a0s b = false -> a3G o a b = ([], []) := fun h => by unfold a3G; rw [if_neg]; rcases h with (h | h) | h <;> simp -implicitDefEqProofs [h]
 refine ⟨o, a, b, ⟨rfl, rfl, rfl⟩, ⟨h1, h2, h3⟩, fun h => by rw [j0 h]; exact ⟨rfl, rfl⟩, fun b1 b2 b3 => ?_⟩
 have o8 := a8w o b1
 have a8 := a8w a b2
 have b8 := a8w b b3
 have hp := b2s o a b
 refine ⟨[o, a, b], rfl, ⟨by simp; omega, by simp⟩, fun _ => ⟨⟨0, ⟨⟨rfl, rfl, (b4Z o a b).symm, by rw [b4Z], rfl⟩, rfl, rfl, b4Z o a b⟩, Nat.zero_le _, b1, b2, b3⟩, fun t ht c1 c2 c3 => ⟨fun hlt => ⟨hlt, fun _ => ?_⟩, fun hge => ?_⟩⟩⟩
 ·have qq : Option.map eStr (a0H o a b)[t]? = some (eStr (a0H o a b)[t]) := by simp -implicitDefEqProofs [hlt]
  have hs := b4e (o := o) (a := a) (b := b) hlt
  have hb := b6H o a b ((a0H o a b).take t)
  have hl : ((a0H o a b).take t).length <= (a0H o a b).length := by simp; omega
  have ho := b6r (p := (a0H o a b)[t]) (show 10 <= 64 by omega) o8.2 a8.2 b8.2
  have he := c8f b1 b2 b3 (a0H o a b)[t]
  have hnn := c6X o a b (a0H o a b)[t]
  rw [qq]
  generalize runJ o a b ((a0H o a b).take t) = R at *
  generalize (a0H o a b)[t] = y at *
  obtain ⟨X, Y⟩ := R
  simp only at hb
  simp -implicitDefEqProofs [-Bool.exists_bool, eStr, D.asStr, b8o]
  have z : ∀ {t : List FileD}, (∀ f ∈ t, f.text.length <= 64) -> ∀ f ∈ t, f.text.length <= 1048576 := fun h f hf => by have := h f hf; omega
  have he : oneH ((getL o y).1, (getL o y).2) ((getL a y).1, (getL a y).2) ((getL b y).1, (getL b y).2) = (((one6 o a b y).1, (one6 o a b y).2.1), (one6 o a b y).2.2) := he
  refine ⟨o, y, ⟨rfl, rfl⟩, z o8.2, a, y, ⟨rfl, rfl⟩, z a8.2, b, y, ⟨rfl, rfl⟩, z b8.2, _, _, _, _, _, _, ⟨⟨rfl, rfl⟩, ⟨rfl, rfl⟩, rfl, rfl⟩, ⟨rfl, rfl, rfl⟩, ?_⟩
  rw [he]
  generalize hone : one6 o a b y = O at *
  obtain ⟨x1, x2, x3⟩ := O
  have st : runJ o a b ((a0H o a b).take (t + 1)) = (if x2 = true then X ++ [⟨y, x1⟩] else X, if 0 < x3 then Y ++ [⟨y, x3⟩] else Y) := by rw [hs]; unfold stepJ; rw [hone]
  have snF : a0b X ++ [[D.str y, D.sl 9 1 (a0a x1)]] = a0b (X ++ [⟨y, x1⟩]) := a0t _ _ _
  have snH : a0c Y ++ [[D.str y, D.int .i64 x3]] = a0c (Y ++ [⟨y, x3⟩]) := b0m _ _ _
  simp only at ho hnn ⊢
  rw [snF, snH]
  refine ⟨fun h3 => ⟨⟨by omega, by omega⟩, fun h2 => ⟨⟨by omega, by omega⟩, ⟨by omega, by omega⟩, fun _ _ => ⟨t + 1, ?_⟩⟩, fun h2 => ⟨⟨by omega, by omega⟩, fun _ _ => ⟨t + 1, ?_⟩⟩⟩, fun h3 => ⟨fun h2 => ⟨⟨by omega, by omega⟩, ⟨by omega, by omega⟩, fun _ _ => ⟨t + 1, ?_⟩⟩, fun h2 => ⟨⟨by omega, by omega⟩, fun _ _ => ⟨t + 1, ?_⟩⟩⟩⟩
  ·rw [st, if_pos h2, if_pos (by omega)]; exact ⟨⟨⟨rfl, rfl, by omega⟩, rfl, rfl⟩, ⟨by omega, b1, b2, b3⟩, by omega⟩
  ·rw [st, if_neg (by simp -implicitDefEqProofs [h2]), if_pos (by omega)]; exact ⟨⟨⟨rfl, rfl, by omega⟩, rfl, rfl⟩, ⟨by omega, b1, b2, b3⟩, by omega⟩
  ·rw [st, if_pos h2, if_neg (by omega)]; exact ⟨⟨⟨rfl, rfl, by omega⟩, rfl, rfl⟩, ⟨by omega, b1, b2, b3⟩, by omega⟩
  ·rw [st, if_neg (by simp -implicitDefEqProofs [h2]), if_neg (by omega)]; exact ⟨⟨⟨rfl, rfl, by omega⟩, rfl, rfl⟩, ⟨by omega, b1, b2, b3⟩, by omega⟩
 ·have : t = (a0H o a b).length := by omega
  subst this
  have hpt := c7r h1 h2 h3 (a0H o a b).length
  have hj : a3G o a b = a1b o a b := by unfold a3G; rw [b1, b2, b3]; rfl
  rw [List.take_length] at hpt ⊢
  have e6 : runJ o a b (a0H o a b) = of6 o a b := rfl
  rw [e6] at hpt ⊢
  rw [hj]
  refine fun _ => ⟨fun h => ⟨h, hpt⟩, fun h h' => ?_, fun h => ?_⟩
  ·have e : a1b o a b = (o, [⟨[], 4⟩]) := by unfold a1b; rw [if_pos ⟨h, by rw [<- a3J]; exact h'⟩]
   rw [e]
   exact ⟨⟨by omega, fun f hf => by have := o8.2 f hf; omega⟩, ⟨rfl, rfl⟩, rfl, rfl⟩
  ·have e : a1b o a b = of6 o a b := by unfold a1b; rw [if_neg]; rintro ⟨q1, q2⟩; rw [<- a3J, h q1] at q2; cases q2
   rw [e]
   exact ⟨⟨rfl, rfl⟩, rfl, rfl⟩
def a1t (o a b : List FileD) : List FileD × Bool := if a0s o && a0s a && a0s b then (if (a1b o a b).2 = [] then ((a1b o a b).1, true) else ([], false)) else ([], false)
def a6x : Con := .fn 26 (List FileD × List FileD × List FileD) (fun a => [.sl true 2 (a0b a.1), .sl true 2 (a0b a.2.1), .sl true 2 (a0b a.2.2)]) (fun a => ptSz a.1 /\ ptSz a.2.1 /\ ptSz a.2.2) (fun a => .tup [.own 8 2 (a0b (a1t a.1 a.2.1 a.2.2).1), .bool (a1t a.1 a.2.1 a.2.2).2]) (fun a => a3r 8 (a1t a.1 a.2.1 a.2.2).1)
theorem a9d : Has Tryz.prog 96 a6x := by
 refine a0d mixed a2d (HasL.cons a8J (HasL.cons b9D HasL.nil)) [0, 1, 2, 6, 7, 8, 9] ((fun a n (_ : Nat) => (fun _ => a0r) a n)) [] Tryz.func96 (by unfold Tryz.f96; rfl) (fun _ => ⟨(), trivial⟩) ?_
 intro a ha
 obtain ⟨o, a, b⟩ := a
 obtain ⟨h1, h2, h3⟩ : ptSz o /\ ptSz a /\ ptSz b := ha
 simp (maxSteps := 8000000) -implicitDefEqProofs [-Bool.exists_bool, a6x, a6w, b2P, Con.fn, a2n, tTab]
 try dsimp only
 have j0 : (a0s o = false \/ a0s a = false) \/ a0s b = false -> a1t o a b = ([], false) := fun h => by unfold a1t; rw [if_neg]; rcases h with (h | h) | h <;> simp -implicitDefEqProofs [h]
 refine ⟨o, a, b, ⟨rfl, rfl, rfl⟩, ⟨h1, h2, h3⟩, fun h => by rw [j0 h]; exact ⟨⟨rfl, rfl⟩, rfl⟩, fun b1 b2 b3 => ⟨o, a, b, ⟨rfl, rfl, rfl⟩, ⟨h1, h2, h3⟩, fun _ => ?_⟩⟩
 have e : a3G o a b = a1b o a b := by unfold a3G; rw [b1, b2, b3]; rfl
 have e2 : a1t o a b = if (a1b o a b).2 = [] then ((a1b o a b).1, true) else ([], false) := by unfold a1t; rw [b1, b2, b3]; rfl
 rw [e, e2]
 exact ⟨fun h => by rw [if_neg (by intro q; rw [q] at h; simp at h)]; exact ⟨⟨rfl, rfl⟩, rfl⟩, fun h => by rw [if_pos h]; exact ⟨⟨rfl, rfl⟩, rfl⟩⟩
theorem a1C {r : RepoD} (h : a0l r = true) {a : Int} (ha : 0 <= a /\ a < r.commits.length) : a0s (a0e r a) = true := by
 have hi : a.toNat < r.commits.length := by omega
 have := (a1O h hi).2.2
 unfold a0e
 rwa [List.getD_eq_getElem?_getD, List.getElem?_eq_getElem hi]
theorem b0C {r : RepoD} {a b c : Int} (h : c ∈ a1B r a b) : 0 <= c /\ c < r.commits.length := by
 unfold a1B at h
 obtain ⟨i, hi, _, rfl⟩ := listT_mem.1 h
 rw [a7J, a7X] at hi
 omega
theorem b5h {r : RepoD} (h : a0l r = true) (a b : Int) : a0s (a1P r a b) = true := by
 unfold a1P
 rw [<- b0B]
 cases hq : (a1B r a b).getLast? with
 | none => rfl
 | some c => exact a1C h (b0C (List.mem_of_getLast? hq))
section
variable {r : RepoD} {n w : Str} {b : Int}
theorem c6j (h : a0l r = false) : a0u r n w b = (noR, 1) := by unfold a0u; rw [if_neg (by rw [<- a0D, h]; simp)]
theorem uS_1 (h : a0l r = true) (h2 : atL r.heads n < 0 \/ a0Q w = false \/ ¬ (0 <= b /\ b < r.commits.length)) : a0u r n w b = (r, 1) := by unfold a0u; rw [if_pos (by rw [<- a0D, h]), if_pos h2]
theorem b4U (h : a0l r = true) (h1 : 0 <= atL r.heads n) (h2 : a0Q w = true) (h3 : 0 <= b /\ b < r.commits.length) : a0u r n w b = a2f r n w b := by
 unfold a0u; rw [if_pos (by rw [<- a0D, h]), if_neg]
 rintro (q | q | q)
 ·omega
 ·rw [h2] at q; cases q
 ·exact q h3
theorem a4H (h : a0l r = true) (h1 : 0 <= atL r.heads n) : atL r.heads n < r.commits.length := by
 rw [a0D] at h
 rcases b1x (n := n) ((a0T r).1 h).2.1 with q | q <;> omega
theorem uS_2 (h : a0l r = true) (h1 : 0 <= atL r.heads n) (h2 : a0Q w = true) (h3 : 0 <= b /\ b < r.commits.length) (h4 : isT (anc r (atL r.heads n)) b.toNat = true) : a0u r n w b = (r, 2) := by
 rw [b4U h h1 h2 h3]
 rw [a7n h3.1 (by rw [a1G]; omega), decide_eq_true_eq] at h4
 unfold a2f
 rw [if_pos h4]
theorem uS_3 (h : a0l r = true) (h1 : 0 <= atL r.heads n) (h2 : a0Q w = true) (h3 : 0 <= b /\ b < r.commits.length) (h4 : isT (anc r (atL r.heads n)) b.toNat = false) (h5 : isT (anc r b) (atL r.heads n).toNat = true) :
  a0u r n w b = (⟨r.commits, ptL r.heads n b⟩, 3) := by
 have hlt := a4H h h1
 rw [b4U h h1 h2 h3]
 rw [a7n h3.1 (by rw [a1G]; omega), decide_eq_false_iff_not] at h4
 rw [a7n h1 (by rw [a1G]; omega), decide_eq_true_eq] at h5
 unfold a2f
 rw [if_neg h4, if_pos h5]
 rw [a0D] at h
 rw [b2v ((a0T r).1 h).2.1]
theorem b8j (h : a1U r.commits.length r.heads = true) {c : CommitD} : cmL r n c = addR r n c := by
 unfold cmL addR
 rw [b2v h]
theorem a9c {o a b : List FileD} (ho : a0s o = true) (ha : a0s a = true) (hb : a0s b = true) : a1t o a b = if (a1b o a b).2 = [] then ((a1b o a b).1, true) else ([], false) := by
 unfold a1t
 rw [ho, ha, hb]
 rfl
theorem uS_4 (h : a0l r = true) (h1 : 0 <= atL r.heads n) (h2 : a0Q w = true) (h3 : 0 <= b /\ b < r.commits.length) (h4 : isT (anc r (atL r.heads n)) b.toNat = false) (h5 : isT (anc r b) (atL r.heads n).toNat = false) :
  a0u r n w b = if (a1t (a1P r (atL r.heads n) b) (a0e r (atL r.heads n)) (a0e r b)).2 then
   (if a0l (cmL r n ⟨[atL r.heads n, b], w, (a1t (a1P r (atL r.heads n) b) (a0e r (atL r.heads n)) (a0e r b)).1⟩) then (cmL r n ⟨[atL r.heads n, b], w, (a1t (a1P r (atL r.heads n) b) (a0e r (atL r.heads n)) (a0e r b)).1⟩, 0) else (r, 5))
   else (r, 4) := by
 have hlt := a4H h h1
 rw [b4U h h1 h2 h3]
 rw [a7n h3.1 (by rw [a1G]; omega), decide_eq_false_iff_not] at h4
 rw [a7n h1 (by rw [a1G]; omega), decide_eq_false_iff_not] at h5
 unfold a2f
 rw [if_neg h4, if_neg h5, a9c (b5h h _ _) (a1C h ⟨h1, hlt⟩) (a1C h h3)]
 rw [a0D] at h
 have hH := ((a0T r).1 h).2.1
 by_cases hj : (a1b (a1P r (atL r.heads n) b) (a0e r (atL r.heads n)) (a0e r b)).2 = []
 ·rw [if_pos hj, if_pos hj]
  simp only [if_true]
  rw [b8j hH, a0D]
 ·rw [if_neg hj, if_neg hj]
  simp
end
inductive Uni (r : RepoD) (n w : Str) (b : Int) : RepoD × Int -> Prop
 | form : Uni r n w b (r, 1)
 | same : 0 <= atL r.heads n -> atL r.heads n < r.commits.length -> 0 <= b -> b < r.commits.length -> Rch r (atL r.heads n).toNat b.toNat -> Uni r n w b (r, 2)
 | on : 0 <= atL r.heads n -> atL r.heads n < r.commits.length -> 0 <= b -> b < r.commits.length -> ¬ Rch r (atL r.heads n).toNat b.toNat -> Rch r b.toNat (atL r.heads n).toNat -> a0j ⟨r.commits, hSet r.heads n b⟩ = true -> Uni r n w b (⟨r.commits, hSet r.heads n b⟩, 3)
 | clash : 0 <= atL r.heads n -> atL r.heads n < r.commits.length -> 0 <= b -> b < r.commits.length -> (a1b (a1P r (atL r.heads n) b) (a0e r (atL r.heads n)) (a0e r b)).2 ≠ [] -> Uni r n w b (r, 4)
 | full : Uni r n w b (r, 5)
 | made (t : List FileD) : 0 <= atL r.heads n -> atL r.heads n < r.commits.length -> 0 <= b -> b < r.commits.length -> ¬ Rch r (atL r.heads n).toNat b.toNat -> ¬ Rch r b.toNat (atL r.heads n).toNat -> a1b (a1P r (atL r.heads n) b) (a0e r (atL r.heads n)) (a0e r b) = (t, []) ->
   a0j (addR r n ⟨[atL r.heads n, b], w, t⟩) = true -> Uni r n w b (addR r n ⟨[atL r.heads n, b], w, t⟩, 0)
theorem c3t {r : RepoD} (h : a0j r = true) (n w : Str) (b : Int) : Uni r n w b (a0u r n w b) := by
 have hI : a0l r = true := by rw [a0D]; exact h
 by_cases hx : atL r.heads n < 0 \/ a0Q w = false \/ ¬ (0 <= b /\ b < r.commits.length)
 ·rw [uS_1 hI hx]; exact .form
 have h1 : 0 <= atL r.heads n := by
  rcases Int.lt_or_le (atL r.heads n) 0 with q | q
  ·exact absurd (.inl q) hx
  ·exact q
 have h2 : a0Q w = true := by
  cases q : a0Q w with
  | true => rfl
  | false => exact absurd (.inr (.inl q)) hx
 have h3 : 0 <= b /\ b < r.commits.length := by
  rcases Classical.em (0 <= b /\ b < (r.commits.length : Int)) with q | q
  ·exact q
  ·exact absurd (.inr (.inr q)) hx
 have hlt := a4H hI h1
 have hp := a5D h
 have hr := (b4k (n := n) (w := w) (b := b) h fun _ => (fun e => by rw [e] at h1; simp -implicitDefEqProofs [atL] at h1)).1
 rw [b4U hI h1 h2 h3] at hr ⊢
 have m1 := b8b hp ⟨h1, hlt⟩ h3.1
 have m2 := b8b hp h3 h1
 unfold a2f at hr ⊢
 by_cases g1 : b ∈ a0g (anc r (atL r.heads n))
 ·rw [if_pos g1]; exact .same h1 hlt h3.1 h3.2 (m1.1 g1)
 ·rw [if_neg g1] at hr ⊢
  by_cases g2 : atL r.heads n ∈ a0g (anc r b)
  ·rw [if_pos g2] at hr ⊢; exact .on h1 hlt h3.1 h3.2 (fun q => g1 (m1.2 q)) (m2.1 g2) hr
  ·rw [if_neg g2] at hr ⊢
   by_cases g3 : (a1b (a1P r (atL r.heads n) b) (a0e r (atL r.heads n)) (a0e r b)).2 = []
   ·rw [if_pos g3] at hr ⊢
    by_cases g4 : a0j (addR r n ⟨[atL r.heads n, b], w, (a1b (a1P r (atL r.heads n) b) (a0e r (atL r.heads n)) (a0e r b)).1⟩) = true
    ·rw [if_pos g4] at hr ⊢
     exact .made _ h1 hlt h3.1 h3.2 (fun q => g1 (m1.2 q)) (fun q => g2 (m2.2 q)) (by rw [<- g3]) hr
    ·rw [if_neg g4]; exact .full
   ·rw [if_neg g3]; exact .clash h1 hlt h3.1 h3.2 g3
theorem a4q {r : RepoD} (h : a0j r = true) (n : Str) (c : CommitD) (m : Str) : atL (addR r n c).heads m = if n = m then (r.commits.length : Int) else atL r.heads m := by
 show atL (hSet r.heads n r.commits.length) m = _
 exact a5f ((a0T r).1 h).2.1
theorem b4X (r : RepoD) (n : Str) (c : CommitD) : (addR r n c).commits.getD r.commits.length default = c := by
 simp -implicitDefEqProofs [addR, List.getD_eq_getElem?_getD]
theorem b0x {r : RepoD} (n : Str) (c : CommitD) {p : Int} (h : p ∈ c.parents) : Rch (addR r n c) r.commits.length p.toNat := by
 refine Rch.refl.step (p := p) ?_
 rw [b4X]; exact h
theorem b2C (r : RepoD) (n : Str) (c : CommitD) : a0e (addR r n c) r.commits.length = c.tree := by
 unfold a0e
 have : ((r.commits.length : Int)).toNat = r.commits.length := by omega
 rw [this, b4X]


abbrev Srt (t : List FileD) : Prop := t.Pairwise fun a b => a.path < b.path
theorem b6W {t : List FileD} (h : a0s t = true) : Srt t := by
 refine List.pairwise_iff_getElem.2 fun i j hi hj hij => ?_
 have := c3r h j i hij hj
 rw [a4e, decide_eq_true_eq] at this
 exact this
theorem gl_there {t : List FileD} {p : Str} : (getL t p).2 = true ↔ p ∈ t.map (·.path) := by
 induction t with
 | nil => simp -implicitDefEqProofs [getL]
 | cons f t ih =>
  unfold getL
  by_cases h : f.path = p
  ·simp -implicitDefEqProofs [h]
  ·simp only [h, if_false, ih, List.map_cons, List.mem_cons]
   constructor
   ·exact .inr
   ·rintro (q | q)
    ·exact absurd q.symm h
    ·exact q
theorem c6a {t : List FileD} (hs : Srt t) {f : FileD} (hf : f ∈ t) : getL t f.path = (f.text, true) := by
 induction t with
 | nil => cases hf
 | cons g t ih =>
  obtain ⟨h1, h2⟩ := List.pairwise_cons.1 hs
  unfold getL
  rcases List.mem_cons.1 hf with rfl | hf
  ·simp
  ·have : ¬ g.path = f.path := fun e => by
    have := h1 f hf
    rw [e] at this
    exact a3w _ this
   rw [if_neg this]
   exact ih h2 hf
theorem c0B (x : List Str × Bool) : a1y x x = true := by unfold a1y; simp
theorem c8e (o b : List FileD) (p : Str) : one6 o o b p = ((getL b p).1, (getL b p).2, 0) := by
 unfold one6
 rw [if_pos (by rw [c0B]; rfl)]
def a8l (b : List FileD) (l : List Str) : List FileD := (l.filter fun p => (getL b p).2).map fun p => ⟨p, (getL b p).1⟩
theorem c8j (o b : List FileD) (l : List Str) : runJ o o b l = (a8l b l, []) := by
 have key : ∀ (l : List Str) (s : List FileD), l.foldl (stepJ o o b) (s, []) = (s ++ a8l b l, []) := by
  intro l
  induction l with
  | nil => intro s; simp -implicitDefEqProofs [a8l]
  | cons p l ih =>
   intro s
   have e : stepJ o o b (s, []) p = (if (getL b p).2 then s ++ [⟨p, (getL b p).1⟩] else s, []) := by
    unfold stepJ
    rw [c8e]
    simp
   rw [List.foldl_cons, e]
   cases h : (getL b p).2 with
   | true => rw [if_pos rfl, ih]; simp -implicitDefEqProofs [a8l, h]
   | false => rw [if_neg (by simp), ih]; simp -implicitDefEqProofs [a8l, h]
 have := key l []
 simpa [runJ] using this
theorem c2J {b : List FileD} (hb : Srt b) {l : List Str} (hl : srt l) (h : ∀ p ∈ b.map (·.path), p ∈ l) : a8l b l = b := by
 have e1 : l.filter (fun p => (getL b p).2) = b.map (·.path) := by
  refine b6M (hl.filter _) ?_ fun x => ?_
  ·unfold srt
   rw [List.pairwise_map]
   exact hb
  ·rw [List.mem_filter, gl_there]
   exact ⟨fun q => q.2, fun q => ⟨h x q, q⟩⟩
 unfold a8l
 rw [e1, List.map_map]
 have : b.map ((fun p => (⟨p, (getL b p).1⟩ : FileD)) ∘ fun x => x.path) = b.map id := List.map_congr_left fun f hf => by
  simp only [Function.comp, id]
  rw [c6a hb hf]
 rw [this]; simp
theorem c6O {o b : List FileD} (hb : a0s b = true) : a1b o o b = (b, []) := by
 have e : of6 o o b = (b, []) := by
  unfold of6
  rw [c8j]
  obtain ⟨h1, h2⟩ := a5P o o b
  rw [c2J (b6W hb) h1 fun p hp => (h2 p).2 (by simp only [List.map_append, List.mem_append]; exact .inr hp)]
 unfold a1b
 rw [e]
 rw [if_neg]
 rintro ⟨_, q⟩
 rw [<- a3J, hb] at q
 cases q


theorem c7C {c : UInt8} : ∀ {s p : Str}, ((spl c s p).map fun q => q.length + 1).sum = p.length + s.length + 1 := by
 intro s
 induction s with
 | nil => intro p; simp [spl]
 | cons x s ih =>
  intro p
  simp only [spl]
  split
  ·simp [ih]; omega
  ·rw [ih]; simp; omega
def c8i (t : List FileD) : Prop := ∀ f ∈ t, (∀ b ∈ f.path, 32 < b.toNat) /\ f.text.length < 100 /\ ∀ l ∈ f.text, (10 : UInt8) ∉ l
structure OkT (ok : List FileD -> Bool) : Prop where
 n : ∀ {t}, ok t = true -> t.length <= 8
 plain : ∀ {t}, ok t = true -> c8i t
 ten : ∀ {t}, ok t = true -> ∀ f ∈ t, f.text.length <= 10
theorem c7B {c : UInt8} : ∀ {s p : Str}, ∀ b ∈ s, b = c \/ ∃ q ∈ spl c s p, b ∈ q := by
 intro s
 induction s with
 | nil => intro p b hb; cases hb
 | cons x s ih =>
  intro p b hb
  have keep : ∀ (s p : Str), ∀ y ∈ p, ∃ q ∈ spl c s p, y ∈ q := by
   intro s
   induction s with
   | nil => intro p y hy; exact ⟨p, by simp [spl], hy⟩
   | cons z s ih2 =>
    intro p y hy
    simp only [spl]
    split
    ·exact ⟨p, by simp, hy⟩
    ·exact ih2 (p ++ [z]) y (by simp [hy])
  simp only [spl]
  split
  ·rename_i hx
   rcases List.mem_cons.1 hb with rfl | hb
   ·exact .inl hx
   ·rcases ih (p := []) b hb with h | ⟨q, h1, h2⟩
    ·exact .inl h
    ·exact .inr ⟨q, by simp [h1], h2⟩
  ·rcases List.mem_cons.1 hb with rfl | hb
   ·exact .inr (keep s (p ++ [b]) b (by simp))
   ·exact ih b hb
theorem b7M {s : Str} (h : a5t s = true) : (∀ b ∈ s, 32 < b.toNat) /\ s.length <= 20 := by
 simp only [a5t, Bool.and_eq_true, decide_eq_true_eq, List.all_eq_true] at h
 obtain ⟨h1, h2⟩ := h
 constructor
 ·intro b hb
  rcases c7B (c := 47) (p := []) b hb with rfl | ⟨q, hq, hbq⟩
  ·decide
  ·have h3 := h2 q hq
   simp only [a0Q, Bool.and_eq_true, List.all_eq_true] at h3
   have h4 := h3.2 b hbq
   simp only [a8y, Bool.or_eq_true, Bool.and_eq_true, decide_eq_true_eq] at h4
   omega
 ·have h3 := c7C (c := 47) (s := s) (p := [])
  have h4 : ∀ (l : List Str), (∀ q ∈ l, a0Q q = true) -> ((l.map fun q => q.length + 1).sum) <= 7 * l.length := by
   intro l
   induction l with
   | nil => intro _; simp
   | cons q l ih =>
    intro h
    have a := ih fun x hx => h x (by simp [hx])
    have b := h q (by simp)
    simp only [a0Q, Bool.and_eq_true, decide_eq_true_eq] at b
    simp only [List.map_cons, List.sum_cons, List.length_cons]
    omega
  have h5 := h4 _ h2
  rw [h3] at h5
  simp at h5
  omega
theorem a4k {t : List FileD} (h : a0s t = true) : ∀ f ∈ t, ((∀ b ∈ f.path, 32 < b.toNat) /\ f.path.length <= 20) /\ f.text.length <= 10 /\ ∀ l ∈ f.text, (10 : UInt8) ∉ l := by
 intro f hf
 simp only [a0s, Bool.and_eq_true, decide_eq_true_eq, List.all_eq_true, List.mem_range, a2F] at h
 obtain ⟨i, hi, rfl⟩ := List.getElem_of_mem hf
 have h1 := (h.2 i hi).1.1
 have hg : t.getD i default = t[i] := by simp [List.getD_eq_getElem?_getD, hi]
 rw [hg] at h1
 refine ⟨b7M h1.2, ?_⟩
 have h2 := h1.1
 simp only [a1i, Bool.and_eq_true, decide_eq_true_eq, List.all_eq_true] at h2
 refine ⟨h2.1, fun l hl h10 => ?_⟩
 have h3 := h2.2 l hl
 simp only [a6D, Bool.and_eq_true, List.all_eq_true, decide_eq_true_eq] at h3
 have := h3.2 10 h10
 simp at this
--TAB a0R
theorem a3g {r : RepoD} (h : a0l r = true) : rpSz r /\ a2a r := by
 have h1 := a2x h
 have hc : ∀ c ∈ r.commits, c.parents.length <= 2 /\ a0s c.tree = true := fun c hc => by
  obtain ⟨i, hi, rfl⟩ := List.getElem_of_mem hc
  exact ⟨(a1O h hi).1, (a1O h hi).2.2⟩
 have hh : r.heads.length <= 5 := by
  rw [a0D] at h
  exact ((a2b _ _).1 ((a0T r).1 h).2.1).1
 have ht : ∀ t : List FileD, a0s t = true -> t.length <= 8 := fun t q => (a4n t (by rw [<- a3J]; exact q)).1
 refine ⟨⟨by omega, fun c q => ⟨by have := (hc c q).1; omega, by have := ht _ (hc c q).2; omega, fun g hg => by have := (a4k (hc c q).2 g hg).2.1; omega⟩, by omega⟩, by omega, fun c q f hf => by have := (a4k (hc c q).2 f hf).1.2; omega⟩
theorem a5m {t : List FileD} (h : a0s t = true) : ptSz t := fun f hf => by have := (a4k h f hf).1.2; omega
def a8N : Con := .fn 23 (RepoD × Int × Int) (fun a => [a0V a.1, .int .i64 a.2.1, .int .i64 a.2.2]) (fun a => a0l a.1 = true /\ (0 <= a.2.1 /\ a.2.1 < a.1.commits.length) /\ (0 <= a.2.2 /\ a.2.2 < a.1.commits.length)) (fun a => .sl true 2 (a0b (a1P a.1 a.2.1 a.2.2))) (fun _ => [])
theorem b5i : Has Tryz.prog 97 a8N := by
 refine a0d mixed a0K (HasL.cons b3G (HasL.cons a6K HasL.nil)) [0, 1, 2, 3, 6, 7] ((fun a n (_ : Nat) => (fun _ => a0r) a n)) [] Tryz.func97 (by unfold Tryz.f97; rfl) (fun _ => ⟨(), trivial⟩) ?_
 intro a ha
 obtain ⟨r, a, b⟩ := a
 obtain ⟨h1, h2, h3⟩ : a0l r = true /\ (0 <= a /\ a < r.commits.length) /\ (0 <= b /\ b < r.commits.length) := ha
 simp (maxSteps := 8000000) [a8N, b1C, a7g, Con.fn, a0R, tTab, a0q]
 try dsimp only
 try simp only [and_assoc, exists_eq_left, exists_and_left, RepoD.ex1, RepoD.eta]
 have hb : a1P r a b = match (a1B r a b).getLast? with | none => [] | some c => a0e r c := by unfold a1P; rw [<- b0B]; rfl
 have hin := fun c => @b0C r a b c
 refine ⟨h1, h2.1, h2.2, h3.1, h3.2, fun _ => ⟨fun h => ?_, fun h => ?_⟩⟩
 ·rw [hb, h]; rfl
 ·have hl : 0 < (a1B r a b).length := List.length_pos_iff.2 h
  have hlt : (a1B r a b).length - 1 < (a1B r a b).length := by omega
  have e1 : Option.map eInt (a1B r a b)[(a1B r a b).length - 1]? = some (eInt (a1B r a b)[(a1B r a b).length - 1]) := by simp -implicitDefEqProofs [List.getElem?_eq_getElem hlt]
  have hg : (a1B r a b).getLast? = some (a1B r a b)[(a1B r a b).length - 1] := by rw [List.getLast?_eq_getElem?, List.getElem?_eq_getElem hlt]
  have hc := hin _ (List.getElem_mem hlt)
  rw [hb, hg, e1]
  generalize (a1B r a b)[(a1B r a b).length - 1] = c at *
  generalize (a1B r a b).length = m at *
  have q1 : c.toNat < r.commits.length := by omega
  simp -implicitDefEqProofs [eInt, D.asInt, a0e, List.getD_eq_getElem?_getD]
  repeat' (first | intro _ | apply And.intro)
  all_goals omega
theorem a7o {o a b : List FileD} : a0s (a1t o a b).1 = true := by
 unfold a1t
 split
 ·split
  ·rename_i h; rw [a3J]; exact b9B h
  ·rfl
 ·rfl
theorem a6a {t : List FileD} (h : a0s t = true) : t.length <= 1048576 /\ ∀ f ∈ t, f.text.length <= 1048576 := by
 have h1 := a4n t (by rw [<- a3J]; exact h)
 exact ⟨by omega, fun f hf => by have := h1.2 f hf; omega⟩
theorem c1t {r : RepoD} (h : a0l r = true) {n : Str} {c : CommitD} (hc : a0s c.tree = true) : a2a (cmL r n c) := by
 have h1 := a2x h
 refine ⟨by simp -implicitDefEqProofs [cmL]; omega, fun x hx f hf => ?_⟩
 have hx : x ∈ r.commits ++ [c] := hx
 rcases List.mem_append.1 hx with hx | hx
 ·exact (a3g h).2.2 x hx f hf
 ·rw [List.mem_singleton.1 hx] at hf
  exact a5m hc f hf
def b3b : Con := .fn 89 (RepoD × Str × Str × Int) (fun a => [a0V a.1, .str a.2.1, .str a.2.2.1, .int .i64 a.2.2.2]) (fun a => a0l a.1 = true) (fun a => .tup [.agg [.own 8 3 (a0i (a0u a.1 a.2.1 a.2.2.1 a.2.2.2).1.commits), .own 9 2 (a0c (a0u a.1 a.2.1 a.2.2.1 a.2.2.2).1.heads)], .int .i64 (a0u a.1 a.2.1 a.2.2.1 a.2.2.2).2]) (fun a => a2z 8 (a0u a.1 a.2.1 a.2.2.1 a.2.2.2).1.commits ++ a2E 9 (a0u a.1 a.2.1 a.2.2.1 a.2.2.2).1.heads)
theorem c0L : Has Tryz.prog 75 b3b := by
 refine a0d mixed a0K (HasL.cons a7a (HasL.cons a4U (HasL.cons a4b (HasL.cons a6s (HasL.cons ancestors_has (HasL.cons a9q (HasL.cons b5i (HasL.cons a6K (HasL.cons a9d (HasL.cons b1O (HasL.cons b4j HasL.nil))))))))))) [0, 1, 2, 3, 4, 8, 9, 10, 11, 12, 13] ((fun a n (_ : Nat) => (fun _ => a0r) a n)) [16456, 16465, 16466] Tryz.func75 (by unfold Tryz.f75; rfl) (fun _ => ⟨(), trivial⟩) ?_
 intro a ha
 obtain ⟨r, n, w, b⟩ := a
 replace ha : a0l r = true := ha
 simp (maxSteps := 8000000) [-kStep_move, -kStepC_move, -Bool.exists_bool, b3b, cAtI, a5h, a4t, a7O, cAncestors, a8U, a5B, a8N, a7g, a6x, a9L, b1M, b1L, Con.fn, a0R, tTab, a0q]
 try dsimp only
 try simp only [and_assoc, exists_eq_left, exists_and_left, RepoD.ex1, RepoD.eta]
 obtain ⟨hz, hp⟩ := a3g ha
 have hn := a2x ha
 refine ⟨fun h h' => ⟨h, h', by omega⟩, ?_, fun _ => ⟨fun h => ?_, fun c1 c2 c3 c4 => ?_⟩⟩
 ·rcases Int.lt_or_le (atL r.heads n) 0 with h | h
  ·exact .inl (.inl h)
  ·cases hw : a0Q w with
   | false => exact .inl (.inr rfl)
   | true => exact .inr ⟨h, rfl⟩
 ·have e : a0u r n w b = (r, 1) := uS_1 ha (by rcases h with (h | h) | h | h; exact .inl h; exact .inr (.inl h); exact .inr (.inr (by omega)); exact .inr (.inr (by omega)))
  rw [e]; exact ⟨hz, rfl, rfl, rfl, rfl, rfl⟩
 ·have hlt := a4H ha c1
  have hb : b < r.commits.length := by omega
  have hla := a1G r
  have la : b.toNat < (anc r (atL r.heads n)).length := by rw [hla]; omega
  have lb : (atL r.heads n).toNat < (anc r b).length := by rw [hla]; omega
  have e1 : Option.map a1E (anc r (atL r.heads n))[b.toNat]? = some (a1E (anc r (atL r.heads n))[b.toNat]) := by simp -implicitDefEqProofs [la]
  have e2 : Option.map a1E (anc r b)[(atL r.heads n).toNat]? = some (a1E (anc r b)[(atL r.heads n).toNat]) := by simp -implicitDefEqProofs [lb]
  have i1 : isT (anc r (atL r.heads n)) b.toNat = (anc r (atL r.heads n))[b.toNat] := by simp -implicitDefEqProofs [isT, List.getD_eq_getElem?_getD, la]
  have i2 : isT (anc r b) (atL r.heads n).toNat = (anc r b)[(atL r.heads n).toNat] := by simp -implicitDefEqProofs [isT, List.getD_eq_getElem?_getD, lb]
  have U2 := @uS_2 r n w b ha c1 c2 ⟨c3, hb⟩
  have U3 := @uS_3 r n w b ha c1 c2 ⟨c3, hb⟩
  have U4 := @uS_4 r n w b ha c1 c2 ⟨c3, hb⟩
  rw [i1] at U2 U3 U4
  rw [i2] at U3 U4
  have hla1 := hla (atL r.heads n)
  have hlb1 := hla b
  rw [e1, e2]
  generalize (anc r (atL r.heads n))[b.toNat] = x at *
  generalize (anc r b)[(atL r.heads n).toNat] = y at *
  have p1 := a5m (b5h ha (atL r.heads n) b)
  have p2 := a5m (a1C ha ⟨c1, hlt⟩)
  have p3 := a5m (a1C ha ⟨c3, hb⟩)
  simp -implicitDefEqProofs [a1E, D.asBool, ha, hla1, hlb1, c1, c3, hlt, hb, hz]
  have ta : a0e r (atL r.heads n) = r.commits[(atL r.heads n).toNat].tree := by simp -implicitDefEqProofs [a0e, List.getD_eq_getElem?_getD, show (atL r.heads n).toNat < r.commits.length by omega]
  have tb : a0e r b = r.commits[b.toNat].tree := by simp -implicitDefEqProofs [a0e, List.getD_eq_getElem?_getD, show b.toNat < r.commits.length by omega]
  have jt := @a7o (a1P r (atL r.heads n) b) (a0e r (atL r.heads n)) (a0e r b)
  rw [ta] at p2
  rw [tb] at p3
  rw [ta, tb] at U4 jt
  generalize a1t (a1P r (atL r.heads n) b) r.commits[(atL r.heads n).toNat].tree r.commits[b.toNat].tree = J at *
  refine ⟨fun hx => by rw [U2 hx]; exact ⟨rfl, rfl, rfl, rfl, rfl⟩, fun hx => ⟨fun hy => by rw [U3 hx hy]; exact ⟨hz.2.2, rfl, rfl, rfl, rfl, rfl⟩, fun hy => ⟨p1, p2, p3, ?_⟩⟩⟩
  have U4 := U4 hx hy
  clear U2 U3
  refine ⟨fun hj => by rw [U4, if_neg (by simp -implicitDefEqProofs [hj])]; exact ⟨rfl, rfl, rfl, rfl, rfl⟩, fun hj => ⟨[atL r.heads n, b], rfl, rfl, hz.2.2, hz.1, (a6a jt).1, (a6a jt).2, c1t ha jt, ?_⟩⟩
  rw [if_pos hj] at U4
  rw [U4]
  exact ⟨fun h => by simp -implicitDefEqProofs [h], fun h => by simp -implicitDefEqProofs [h]⟩
def a5p : Con := .fn 21 (RepoD × Str × Str × Int) (fun a => [a0V a.1, .str a.2.1, .str a.2.2.1, .int .i64 a.2.2.2]) (fun a => a2a a.1) (fun a => .tup [.agg [.own 8 3 (a0i (a0u a.1 a.2.1 a.2.2.1 a.2.2.2).1.commits), .own 9 2 (a0c (a0u a.1 a.2.1 a.2.2.1 a.2.2.2).1.heads)], .int .i64 (a0u a.1 a.2.1 a.2.2.1 a.2.2.2).2]) (fun a => a2z 8 (a0u a.1 a.2.1 a.2.2.1 a.2.2.2).1.commits ++ a2E 9 (a0u a.1 a.2.1 a.2.2.1 a.2.2.2).1.heads)
theorem a7A : Has Tryz.prog 34 a5p := by
 refine a0d mixed a0K (HasL.cons a2R (HasL.cons c0L HasL.nil)) [0, 1, 2, 3, 4, 8, 9] ((fun a n (_ : Nat) => (fun _ => a0r) a n)) [] Tryz.func34 (by unfold Tryz.f34; rfl) (fun _ => ⟨(), trivial⟩) ?_
 intro a ha
 obtain ⟨r, n, w, b⟩ := a
 replace ha : a2a r := ha
 simp (maxSteps := 8000000) [a5p, a3F, b3b, Con.fn, a0R, tTab, a0q]
 try dsimp only
 try simp only [and_assoc, exists_eq_left, exists_and_left, RepoD.ex1, RepoD.eta]
 refine ⟨ha, fun h => ?_, fun h => ?_⟩
 ·rw [c6j h]; simp -implicitDefEqProofs [noR]
 ·simp -implicitDefEqProofs [h]
structure OpD where
 kind : Int
 branch : Str
 who : Str
 path : Str
 to_ : Str
 at_ : Int
 text : List Str
 deriving DecidableEq, Inhabited
def eOp (a : OpD) : List D := [.int .i64 a.kind, .str a.branch, .str a.who, .str a.path, .str a.to_, .int .i64 a.at_, .sl 9 1 (a0a a.text)]
@[simp] theorem eOp_inj (a b : OpD) : (eOp a = eOp b) = (a = b) := by
 cases a; cases b; simp -implicitDefEqProofs [eOp]
@[simp] theorem OpD.eta (a : OpD) : (⟨a.kind, a.branch, a.who, a.path, a.to_, a.at_, a.text⟩ : OpD) = a := rfl
theorem OpD.eq_iff (a b : OpD) : (a = b) = (a.kind = b.kind /\ a.branch = b.branch /\ a.who = b.who /\ a.path = b.path /\ a.to_ = b.to_ /\ a.at_ = b.at_ /\ a.text = b.text) := by
 cases a; cases b; simp
@[simp] theorem OpD.ex1 (x_kind : Int) (x_branch : Str) (x_who : Str) (x_path : Str) (x_to_ : Str) (x_at_ : Int) (x_text : List Str) (Q : OpD -> Prop) : (∃ a : OpD, a.kind = x_kind /\ a.branch = x_branch /\ a.who = x_who /\ a.path = x_path /\ a.to_ = x_to_ /\ a.at_ = x_at_ /\ a.text = x_text /\ Q a) = Q ⟨x_kind, x_branch, x_who, x_path, x_to_, x_at_, x_text⟩ := by
 apply propext
 constructor
 ·rintro ⟨⟨_, _, _, _, _, _, _⟩, rfl, rfl, rfl, rfl, rfl, rfl, rfl, h⟩; exact h
 ·intro h; exact ⟨⟨x_kind, x_branch, x_who, x_path, x_to_, x_at_, x_text⟩, rfl, rfl, rfl, rfl, rfl, rfl, rfl, h⟩
@[simp] theorem OpD.ex2 (x_kind : Int) (x_branch : Str) (x_who : Str) (x_path : Str) (x_to_ : Str) (x_at_ : Int) (x_text : List Str) (Q : OpD -> Prop) : (∃ a : OpD, (a.kind = x_kind /\ a.branch = x_branch /\ a.who = x_who /\ a.path = x_path /\ a.to_ = x_to_ /\ a.at_ = x_at_ /\ a.text = x_text) /\ Q a) = Q ⟨x_kind, x_branch, x_who, x_path, x_to_, x_at_, x_text⟩ := by
 apply propext
 constructor
 ·rintro ⟨⟨_, _, _, _, _, _, _⟩, ⟨rfl, rfl, rfl, rfl, rfl, rfl, rfl⟩, h⟩; exact h
 ·intro h; exact ⟨⟨x_kind, x_branch, x_who, x_path, x_to_, x_at_, x_text⟩, ⟨rfl, rfl, rfl, rfl, rfl, rfl, rfl⟩, h⟩
@[simp] theorem OpD.ex0 (x_kind : Int) (x_branch : Str) (x_who : Str) (x_path : Str) (x_to_ : Str) (x_at_ : Int) (x_text : List Str) : (∃ a : OpD, a.kind = x_kind /\ a.branch = x_branch /\ a.who = x_who /\ a.path = x_path /\ a.to_ = x_to_ /\ a.at_ = x_at_ /\ a.text = x_text) = True := by
 simp only [eq_iff_iff, iff_true]
 exact ⟨⟨x_kind, x_branch, x_who, x_path, x_to_, x_at_, x_text⟩, rfl, rfl, rfl, rfl, rfl, rfl, rfl⟩
def eOps (l : List OpD) : List (List D) := l.map eOp
@[simp] theorem eOps_length (l : List OpD) : (eOps l).length = l.length := by simp -implicitDefEqProofs [eOps]
@[simp] theorem eOps_nil : eOps [] = [] := rfl
@[simp] theorem eOps_get (l : List OpD) (i : Nat) : (eOps l)[i]? = l[i]?.map eOp := by simp -implicitDefEqProofs [eOps]
@[simp] theorem eOps_getElem (l : List OpD) (i : Nat) (h : i < (eOps l).length) : (eOps l)[i] = eOp (l[i]'(by simpa using h)) := by simp -implicitDefEqProofs [eOps]
@[simp] theorem eOps_inj (a b : List OpD) : (eOps a = eOps b) = (a = b) := by
 apply propext
 constructor
 ·intro h
  exact List.map_inj_right (fun x y h => by simpa using h) |>.1 h
 ·rintro rfl; rfl
@[simp] theorem eOps_eq_nil (a : List OpD) : (eOps a = []) = (a = []) := by simp -implicitDefEqProofs [eOps]
@[simp] theorem nil_eq_eOps (a : List OpD) : ([] = eOps a) = (a = []) := by simp -implicitDefEqProofs [eOps, eq_comm]
theorem b3J (a : List OpD) (k : Int) (b w p t : Str) (i : Int) (x : List Str) : eOps a ++ [[.int .i64 k, .str b, .str w, .str p, .str t, .int .i64 i, .sl 9 1 (a0a x)]] = eOps (a ++ [⟨k, b, w, p, t, i, x⟩]) := by simp -implicitDefEqProofs [eOps, eOp]
abbrev vOp (o : OpD) : AV := .agg [.int .i64 o.kind, .str o.branch, .str o.who, .str o.path, .str o.to_, .int .i64 o.at_, .sl true 1 (a0a o.text)]
def bOp (o : OpD) : Blk := .box 204 [.int .i64 o.kind, .str o.branch, .str o.who, .str o.path, .str o.to_, .int .i64 o.at_, .sl true 1 (a0a o.text)]
def a6r (o : OpD) (p t a x : Bool) : Bool := (p || decide (o.path = [])) && (t || decide (o.to_ = [])) && (a || decide (o.at_ = 0)) && (x || decide (o.text = []))
def barB (s : Str) : Bool := s.all fun b => decide (b ≠ 124)
def a5X (t : List Str) : Bool := t.all barB && a1i t
def opB (o : OpD) : Bool := (a0Q o.branch && a0Q o.who) &&
 (if o.kind = 1 then a6r o true false false true && a2Q o.path && a5X o.text
 else if o.kind = 2 then a6r o true false false false && a2Q o.path
 else if o.kind = 3 then a6r o true true false false && a2Q o.path && a2Q o.to_
 else if o.kind = 4 \/ o.kind = 5 then a6r o false true false false && a0Q o.to_
 else if o.kind = 6 \/ o.kind = 7 then a6r o false false true false && (decide (0 <= o.at_) && decide (o.at_ <= 15))
 else false)
def a2T (r : RepoD) (o : OpD) (x : List FileD × Bool) : RepoD × Int := if x.2 then (if (a1A r o.branch o.who x.1).2 then ((a1A r o.branch o.who x.1).1, 0) else (r, 5)) else (r, 1)
def a2U (r : RepoD) (n : Str) : List FileD := if 0 <= atL r.heads n then a0e r (atL r.heads n) else []
def do19 (r : RepoD) (o : OpD) : RepoD × Int :=
 if o.kind = 1 then a2T r o (a3W (a2U r o.branch) ⟨o.path, o.text⟩)
 else if o.kind = 2 then a2T r o (a3k (a2U r o.branch) o.path)
 else if o.kind = 3 then a2T r o (a1R (a2U r o.branch) o.path o.to_)
 else if o.kind = 4 then (if (a1n r o.to_ (atL r.heads o.branch)).2 then ((a1n r o.to_ (atL r.heads o.branch)).1, 0) else (r, 1))
 else if o.kind = 5 then a0u r o.branch o.who (atL r.heads o.to_)
 else if o.kind = 6 then a0U false r o.branch o.who o.at_
 else a0U true r o.branch o.who o.at_
def a5u (l : List OpD) : RepoD := l.foldl (fun r o => if opB o then (do19 r o).1 else r) noR
theorem c0t {l : List OpD} {i : Nat} (h : i < l.length) : a5u (l.take (i + 1)) = if opB l[i] then (do19 (a5u (l.take i)) l[i]).1 else a5u (l.take i) := by
 unfold a5u
 rw [a0w h, List.foldl_append]; rfl
def b2u (l : List OpD) : RepoD := a5u (l.take 30)
def plR (r : RepoD) : Prop := a0j r = true /\ (r.commits ≠ [] -> r.heads ≠ [])
theorem a7t : plR noR := ⟨rfl, fun h => absurd rfl h⟩
theorem b3x {r : RepoD} {n w : Str} {t : List FileD} (h : (a1A r n w t).2 = true) : plR (a1A r n w t).1 := by
 unfold a1A at h ⊢
 split
 ·rename_i h1
  rw [if_pos h1] at h
  split
  ·rename_i h2; exact ⟨h2, fun _ => a7l _ _ _⟩
  ·rename_i h2; rw [if_neg h2] at h; cases h
 ·rename_i h1; rw [if_neg h1] at h; cases h
theorem b3v {r : RepoD} {n : Str} {a : Int} (h : (a1n r n a).2 = true) : plR (a1n r n a).1 := by
 unfold a1n at h ⊢
 split
 ·rename_i h1
  rw [if_pos h1] at h
  split
  ·rename_i h2; rw [if_pos h2] at h; cases h
  ·rename_i h2
   have : a0j ⟨r.commits, hSet r.heads n a⟩ = true := by
    cases q : a0j ⟨r.commits, hSet r.heads n a⟩ with
    | true => rfl
    | false => exact absurd (.inr q) h2
   exact ⟨this, fun _ => a7l _ _ _⟩
 ·rename_i h1; rw [if_neg h1] at h; cases h
theorem a9E {r : RepoD} {o : OpD} {x : List FileD × Bool} (h : plR r) : plR (a2T r o x).1 := by
 unfold a2T
 split
 ·split
  ·rename_i q; exact b3x q
  ·exact h
 ·exact h
theorem c6F {r : RepoD} {o : OpD} (h : plR r) : plR (do19 r o).1 := by
 unfold do19
 repeat' split
 ·exact a9E h
 ·exact a9E h
 ·exact a9E h
 ·rename_i q; exact b3v q
 ·exact h
 ·exact b4k h.1 h.2
 ·exact b6A h.1 h.2
 ·exact b6A h.1 h.2
theorem b1l (l : List OpD) : plR (a5u l) := by
 have : ∀ (l : List OpD) (r : RepoD), plR r -> plR (l.foldl (fun r o => if opB o then (do19 r o).1 else r) r) := by
  intro l
  induction l with
  | nil => intro r h; exact h
  | cons o l ih =>
   intro r h
   refine ih _ ?_
   show plR (if opB o = true then _ else _)
   split
   ·exact c6F h
   ·exact h
 exact this l noR a7t

theorem c5n {r : RepoD} (h : a0l r = true) {n w : Str} (h1 : 0 <= atL r.heads n) {o b : List FileD} (ho : a0s o = true) (hb : a0s b = true) :
  a1e r n w o b = if (a1t o (a0e r (atL r.heads n)) b).2 then
   (if a0l (cmL r n ⟨[atL r.heads n], w, (a1t o (a0e r (atL r.heads n)) b).1⟩) then (cmL r n ⟨[atL r.heads n], w, (a1t o (a0e r (atL r.heads n)) b).1⟩, 0) else (r, 5))
   else (r, 4) := by
 have hlt := a4H h h1
 unfold a1e
 rw [a9c ho (a1C h ⟨h1, hlt⟩) hb]
 have hS := h
 rw [a0D] at hS
 have hH := ((a0T r).1 hS).2.1
 by_cases hj : (a1b o (a0e r (atL r.heads n)) b).2 = []
 ·rw [if_pos hj, if_pos hj]
  simp only [if_true]
  rw [b8j hH, a0D]
 ·rw [if_neg hj, if_neg hj]
  simp
theorem b8S {r : RepoD} (h : a0l r = true) {c : Int} (hc : 0 <= c /\ c < r.commits.length) : a0s (a1h r c) = true := by
 have hi : c.toNat < r.commits.length := by omega
 obtain ⟨_, h2, _⟩ := a1O h hi
 have hg : r.commits.getD c.toNat default = r.commits[c.toNat] := by simp [List.getD_eq_getElem?_getD, hi]
 unfold a1h
 rw [hg]
 cases hp : r.commits[c.toNat].parents with
 | nil => rfl
 | cons p ps =>
  have := h2 p (by rw [hp]; simp)
  exact a1C h ⟨this.1, by omega⟩
theorem c6h {r : RepoD} (h : a0l r = false) (back : Bool) (n w : Str) (c : Int) : a0U back r n w c = (noR, 1) := by unfold a0U; rw [if_neg (by rw [<- a0D, h]; simp)]
theorem pS_1 {r : RepoD} (h : a0l r = true) {back : Bool} {n w : Str} {c : Int} (hx : atL r.heads n < 0 \/ a0Q w = false \/ ¬ (0 <= c /\ c < r.commits.length)) : a0U back r n w c = (r, 1) := by
 unfold a0U; rw [if_pos (by rw [<- a0D]; exact h), if_pos hx]
theorem c0j {r : RepoD} (h : a0l r = true) {back : Bool} {n w : Str} {c : Int} (h1 : 0 <= atL r.heads n) (h2 : a0Q w = true) (h3 : 0 <= c /\ c < r.commits.length) :
  a0U back r n w c = if back then a1e r n w (a0e r c) (a1h r c) else a1e r n w (a1h r c) (a0e r c) := by
 unfold a0U
 rw [if_pos (by rw [<- a0D]; exact h), if_neg]
 rintro (q | q | q)
 ·omega
 ·rw [h2] at q; cases q
 ·exact q h3
def a3q (r : RepoD) (n : Str) : List Int -> RepoD -> RepoD × Int
 | [], x => (x, 0)
 | i :: l, x => if 1 < (r.commits.getD i.toNat default).parents.length then a3q r n l x
  else if (a1e x n (r.commits.getD i.toNat default).who (a1h x i) (a0e x i)).2 = 0 then a3q r n l (a1e x n (r.commits.getD i.toNat default).who (a1h x i) (a0e x i)).1
  else (r, (a1e x n (r.commits.getD i.toNat default).who (a1h x i) (a0e x i)).2)
theorem a8i {r x : RepoD} {n : Str} {l : List Int} {k : Nat} (h : k < l.length) : a3q r n (l.drop k) x = if 1 < (r.commits.getD l[k].toNat default).parents.length then a3q r n (l.drop (k + 1)) x
  else if (a1e x n (r.commits.getD l[k].toNat default).who (a1h x l[k]) (a0e x l[k])).2 = 0 then a3q r n (l.drop (k + 1)) (a1e x n (r.commits.getD l[k].toNat default).who (a1h x l[k]) (a0e x l[k])).1
  else (r, (a1e x n (r.commits.getD l[k].toNat default).who (a1h x l[k]) (a0e x l[k])).2) := by
 rw [List.drop_eq_getElem_cons h]; rfl
theorem c2A {r x : RepoD} {n : Str} {l : List Int} {k : Nat} (h : l.length <= k) : a3q r n (l.drop k) x = (x, 0) := by
 rw [List.drop_eq_nil_of_le h]; rfl
def a1k (r : RepoD) (n : Str) (a : Int) : RepoD × Int :=
 if a0j r then (if atL r.heads n < 0 \/ ¬ (0 <= a /\ a < r.commits.length) then (r, 1) else a3q r n (a0g (sinL r (atL r.heads n) [a])) ⟨r.commits, hSet r.heads n a⟩) else (noR, 1)
theorem c7h {r : RepoD} (h : a0j r = true) {n w : Str} {o b : List FileD} (hc : (a1e r n w o b).2 = 0) :
  a0j (a1e r n w o b).1 = true /\ r.commits <+: (a1e r n w o b).1.commits /\ atL (a1e r n w o b).1.heads n = r.commits.length := by
 unfold a1e at hc ⊢
 by_cases hj : (a1b o (a0e r (atL r.heads n)) b).2 = []
 ·rw [if_pos hj] at hc ⊢
  by_cases hr : a0j (addR r n ⟨[atL r.heads n], w, (a1b o (a0e r (atL r.heads n)) b).1⟩) = true
  ·rw [if_pos hr]
   exact ⟨hr, List.prefix_append _ _, by rw [a4q h, if_pos rfl]⟩
  ·rw [if_neg hr] at hc; simp at hc
 ·rw [if_neg hj] at hc; simp at hc
def b0I : Con := .fn 42 (OpD × Bool × Bool × Bool × Bool) (fun a => [vOp a.1, .bool a.2.1, .bool a.2.2.1, .bool a.2.2.2.1, .bool a.2.2.2.2]) (fun a => a.1.text.length <= 1048576) (fun a => .bool (a6r a.1 a.2.1 a.2.2.1 a.2.2.2.1 a.2.2.2.2)) (fun _ => [])
theorem b7B : Has Tryz.prog 204 b0I := by
 refine a0d mixed a0h HasL.nil [0, 1, 2, 3, 4, 5, 10] ((fun a n (_ : Nat) => (fun _ => a0r) a n)) [] Tryz.func204 (by unfold Tryz.f204; rfl) (fun _ => ⟨(), trivial⟩) ?_
 intro a ha
 obtain ⟨o, p, t, a, x⟩ := a
 replace ha : o.text.length <= 1048576 := ha
 simp (maxSteps := 8000000) -implicitDefEqProofs [-kStep_move, -Bool.exists_bool, b0I, Con.fn, tTab]
 unfold a6r
 by_cases h1 : o.path = [] <;> by_cases h2 : o.to_ = [] <;> by_cases h3 : o.at_ = 0 <;> by_cases h4 : o.text = [] <;> simp -implicitDefEqProofs [h1, h2, h3, h4] <;> cases p <;> cases t <;> cases a <;> cases x <;> simp -implicitDefEqProofs <;> omega
def l19O (t : List Str) : Inv := ⟨Nat, fun i => ⟨[(0, true, .sl true 1 (a0a t)), (2, true, .bool false), (3, true, .int .i64 i)], []⟩, fun i => i <= t.length /\ (t.take i).all barB = true, fun i => t.length - i⟩
def l19I (t : List Str) (g : Nat) : Inv := ⟨Nat, fun k => ⟨[(0, true, .sl true 1 (a0a t)), (2, true, .bool false), (3, true, .int .i64 g), (4, true, .int .i64 k)], []⟩, fun k => g < t.length /\ (t.take g).all barB = true /\ k <= (t.getD g []).length /\ ((t.getD g []).take k).all (fun b => decide (b ≠ 124)) = true, fun k => (t.getD g []).length - k⟩
def b6e (t : List Str) (n g : Nat) : Inv := if n = 2 then l19O t else l19I t g
theorem c4x (t g) : b6e t 2 g = l19O t := rfl
theorem c4y (t g) : b6e t 5 g = l19I t g := rfl
def a8Q : Con := .fn 29 (List Str) (fun t => [.sl true 1 (a0a t)]) (fun _ => True) (fun t => .bool (a5X t)) (fun _ => [])
theorem b6f : Has Tryz.prog 205 a8Q := by
 refine a0d mixed a0h (HasL.cons b1b HasL.nil) [0, 2, 3, 4] (fun t => b6e t) [] Tryz.func205 (by unfold Tryz.f205; rfl) (fun _ => ⟨(), trivial⟩) ?_
 intro (t : List Str) _
 simp -implicitDefEqProofs [a8Q, b1D, Con.fn, tTab, c4x, c4y, l19O, l19I]
 try dsimp only
 have e0 : ∀ i (h : i < t.length), ¬ barB t[i] = true -> a5X t = false := fun i h hb => by
  unfold a5X
  rw [Bool.and_eq_false_iff]; left
  rw [List.all_eq_false]
  exact ⟨_, List.getElem_mem h, hb⟩
 refine fun i hi hp _ => ⟨fun hlt => ⟨i, ⟨0, ⟨rfl, rfl⟩, hlt, hp, Nat.zero_le _, by simp⟩, fun k _ _ hk hq => ?_⟩, fun hge => ?_⟩
 ·have e1 := e0 i hlt
  have e2 : t[i]?.getD [] = t[i] := by simp -implicitDefEqProofs [hlt]
  have qq : Option.map eStr t[i]? = some (eStr t[i]) := by simp -implicitDefEqProofs [hlt]
  have e3 : (t.take (i + 1)).all barB = ((t.take i).all barB && barB t[i]) := a1c hlt
  rw [e2] at hk hq ⊢
  rw [qq]
  generalize t[i] = s at *
  simp -implicitDefEqProofs [eStr, D.asStr]
  have hex : ∀ h : k < List.length s, s[k]?.getD 0 = s[k] := fun h => by simp -implicitDefEqProofs [h]
  refine ⟨hlt, fun _ _ => ⟨fun hl => ⟨hlt, fun _ => ⟨hl, fun _ => ?_⟩⟩, fun hg => ⟨⟨by omega, by omega⟩, fun _ _ => ⟨i + 1, by omega, ⟨by omega, ?_⟩, by omega⟩⟩⟩⟩
  ·rw [hex hl]
   have hb := List.getElem_mem hl
   refine ⟨fun hc => e1 (fun hb2 => ?_), fun hc => ⟨⟨by omega, by omega⟩, fun _ _ => ⟨k + 1, by omega, ⟨hlt, ‹∀ x ∈ List.take i t, barB x = true›, by omega, fun x hx => ?_⟩, by omega⟩⟩⟩
   ·unfold barB at hb2
    have := List.all_eq_true.1 hb2 _ hb
    simp only [ne_eq, decide_not, Bool.not_eq_true', decide_eq_false_iff_not] at this
    exact this (UInt8.toNat_inj.1 (by simp; omega))
   ·rw [a0w hl] at hx
    rcases List.mem_append.1 hx with hx | hx
    ·exact hq x hx
    ·simp only [List.mem_singleton] at hx
     subst hx
     intro e; rw [e] at hc; exact hc rfl
  ·have hs : barB s = true := by
    unfold barB
    rw [List.all_eq_true]
    intro x hx
    have := hq x (by rw [List.take_of_length_le hg]; exact hx)
    simp -implicitDefEqProofs [this]
   rw [hs, Bool.and_true] at e3
   have hp' : (List.take i t).all barB = true := List.all_eq_true.2 ‹∀ x ∈ List.take i t, barB x = true›
   rw [hp'] at e3
   exact List.all_eq_true.1 e3
 ·have e : t.take i = t := List.take_of_length_le hge
  rw [e] at hp
  unfold a5X
  rw [List.all_eq_true.2 hp, Bool.true_and]
def b5q : Con := .fn 72 OpD (fun o => [vOp o]) (fun o => o.text.length <= 1048576) (fun o => .bool (opB o)) (fun _ => [])
theorem c2e : Has Tryz.prog 188 b5q := by
 refine a0d mixed a0h (HasL.cons a4d (HasL.cons b7B (HasL.cons a8d (HasL.cons b6f (HasL.cons a3m HasL.nil))))) [0, 1, 2, 14, 52, 62] ((fun a n (_ : Nat) => (fun _ => a0r) a n)) [] Tryz.func188 (by unfold Tryz.f188; rfl) (fun _ => ⟨(), trivial⟩) ?_
 intro (o : OpD) (ha : o.text.length <= 1048576)
 simp (maxSteps := 8000000) -implicitDefEqProofs [-kStep_move, -Bool.exists_bool, b5q, a4v, b0I, a7c, a8Q, a4J, Con.fn, tTab, bOp]
 try dsimp only
 simp -implicitDefEqProofs only [and_assoc, exists_eq_left, exists_and_left, OpD.ex1, OpD.eta]
 have hk : o.kind = 1 \/ o.kind = 2 \/ o.kind = 3 \/ o.kind = 4 \/ o.kind = 5 \/ o.kind = 6 \/ o.kind = 7 \/ (¬ o.kind = 1 /\ ¬ o.kind = 2 /\ ¬ o.kind = 3 /\ ¬ o.kind = 4 /\ ¬ o.kind = 5 /\ ¬ o.kind = 6 /\ ¬ o.kind = 7) := by omega
 unfold opB
 generalize a0Q o.branch = b1
 generalize a0Q o.who = b2
 generalize a2Q o.path = b3
 generalize a2Q o.to_ = b4
 generalize a0Q o.to_ = b5
 generalize a5X o.text = b6
 rcases hk with h | h | h | h | h | h | h | h <;> simp -implicitDefEqProofs [h, ha]
 all_goals grind
--TAB a0R
def b2U : Con := .fn 66 (RepoD × Int) (fun a => [a0V a.1, .int .i64 a.2]) (fun a => a0l a.1 = true /\ 0 <= a.2 /\ a.2 < a.1.commits.length) (fun a => .sl false 1 (a0f (a0g (anc a.1 a.2)))) (fun _ => [])
theorem b9Y : Has Tryz.prog 137 b2U := by
 refine a0d mixed a0K HasL.nil [0, 1, 2, 4, 5, 6, 7, 8, 9] (fun a => b1t a.1 a.2) [] Tryz.func137 (by unfold Tryz.f137; rfl) (fun _ => ⟨(), trivial⟩) ?_
 intro a ha
 obtain ⟨r, n⟩ := a
 obtain ⟨h1, h2, h3⟩ : a0l r = true /\ 0 <= n /\ n < r.commits.length := ha
 have h4 := a2x h1
 simp -implicitDefEqProofs [b2U, Con.fn, a0R, tTab, b7Z, b8a, b4Y, alO, alI, alT, a0q]
 try dsimp only
 simp only [and_assoc, exists_eq_left, exists_and_left, RepoD.ex1, RepoD.eta]
 have hal := a1G r n
 refine fun _ => ⟨by omega, fun _ => ⟨h2, h3, fun _ _ => ⟨by omega, ⟨(List.replicate r.commits.length false).set n.toNat true, by rw [a2M]; exact (a1s _ _ _).symm, by rw [a2M]; exact a1s _ _ _, by simp, by omega, h3, rfl⟩, fun l b g1 g2 g3 g4 => ⟨fun hb => ⟨b.toNat, ?_⟩, fun hb => ?_⟩⟩⟩⟩
 ·have hb1 : b.toNat < l.length := by omega
  have hb2 : b.toNat < r.commits.length := by omega
  obtain ⟨p1, p2, _⟩ := a1O h1 hb2
  have hgd : r.commits.getD b.toNat default = r.commits[b.toNat] := by simp -implicitDefEqProofs [List.getD_eq_getElem?_getD, hb2]
  have hgo : r.commits[b.toNat]?.getD default = r.commits[b.toNat] := by simp -implicitDefEqProofs [hb2]
  rw [show (b + 1).toNat = b.toNat + 1 by omega] at g4
  have g5 : ancF r b.toNat (a4i r l b.toNat) = anc r n := g4
  unfold a4i at g5
  rw [hgd] at g5
  have e3 : Option.map a0k r.commits[b.toNat]? = some (a0k r.commits[b.toNat]) := by simp -implicitDefEqProofs [hb2]
  rw [hgo, e3]
  generalize r.commits[b.toNat] = c at *
  refine ⟨by omega, trivial, g1, hb2, Nat.zero_le _, fun h => ?_, fun h => ?_, fun m k m1 m2 m3 m4 m5 => ⟨hb2, fun _ => ?_⟩⟩
  ·rw [if_pos h] at g5; exact g5
  ·rw [if_neg (by rw [h]; simp)] at g5; exact g5
  ·have hbm : b.toNat < m.length := by omega
   have hT : isT m b.toNat = m[b.toNat] := by simp -implicitDefEqProofs [isT, List.getD_eq_getElem?_getD, hbm]
   have e4 : Option.map a1E m[b.toNat]? = some (a1E m[b.toNat]) := by simp -implicitDefEqProofs [hbm]
   have hmx : max b 0 = b := Int.max_eq_left hb
   simp -implicitDefEqProofs [a0k, D.asRows, e4, a1E, hbm, hb2, hmx]
   refine fun _ => ⟨fun hl2 => ⟨fun hm => ⟨hl2, fun _ => ?_⟩, fun hm => ⟨by omega, by omega, fun _ _ => ⟨m1, by omega, by omega, m5 (hT.trans hm), by omega⟩⟩⟩, fun hge => ⟨by omega, by omega, fun _ _ => ⟨m1, by omega, by omega, ?_, by omega⟩⟩⟩
   ·have hp := p2 c.parents[k] (List.getElem_mem hl2)
    have qt : Option.map eInt c.parents[k]? = some (eInt c.parents[k]) := by simp -implicitDefEqProofs [List.getElem?_eq_getElem hl2]
    simp -implicitDefEqProofs [qt, eInt, D.asInt]
    have hst : isT (m.set c.parents[k].toNat true) b.toNat = true := by rw [a8b _ (by omega)]; exact hT.trans hm
    refine ⟨hp.1, by omega, fun _ _ => ⟨by omega, by omega, by omega, fun _ _ => ⟨m.set c.parents[k].toNat true, (a1s _ _ _).symm, k + 1, by omega, a1s _ _ _, by simp -implicitDefEqProofs [m1], by omega, fun _ => ?_, fun h => ?_, by omega⟩⟩⟩
    ·have := m4 (hT.trans hm)
     rw [List.drop_eq_getElem_cons hl2] at this
     exact this
    ·rw [hst] at h; cases h
   ·cases hm : m[b.toNat] with
    | true =>
     have := m4 (hT.trans hm)
     rw [List.drop_eq_nil_of_le hge] at this
     exact this
    | false => exact m5 (hT.trans hm)
 ·rw [show (b + 1).toNat = 0 by omega] at g4
  have g5 : l = anc r n := g4
  refine ⟨g5.symm, ⟨0, rfl, rfl, g5, rfl, Nat.zero_le _⟩, fun i hi _ => ⟨fun hlt => ?_, fun hge => ?_⟩⟩
  ·have hl := a3i (anc r n) i
   have hi : isT (anc r n) i = (anc r n)[i] := by simp -implicitDefEqProofs [isT, List.getD_eq_getElem?_getD, hlt]
   rw [hal] at hlt
   simp -implicitDefEqProofs [hal, hlt, a1E, D.asBool, and_assoc]
   refine ⟨fun h => ?_, fun h => ?_⟩
   ·have e := a9i (hi.trans h)
    exact ⟨by omega, by omega, by omega, by omega, fun _ _ => ⟨i + 1, by rw [e]; simp -implicitDefEqProofs [a0f, eInt], by omega, by rw [e]; simp -implicitDefEqProofs [a0f, eInt], by omega, by omega⟩⟩
   ·have e := a8h (hi.trans h)
    exact ⟨by omega, by omega, fun _ _ => ⟨i + 1, e, by omega, e.symm, by omega, by omega⟩⟩
  ·rw [hal] at hge
   have : i = r.commits.length := by omega
   subst this
   unfold a0g
   rw [hal]
def l8bA (r : RepoD) (a b : Int) : Inv := ⟨Nat, fun i => ⟨[(3, true, .ptr 10 0), (6, true, .nil), (7, true, .sl false 1 (a0f (a0g (anc r a)))), (8, true, .sl false 1 (a0f (a0g (anc r b)))), (9, true, .own 9 1 (a0f (a1K r a b i))), (10, true, .int .i64 i)], [(10, a1z r), (9, .own 3 1 true (a0f (a1K r a b i)))]⟩, fun i => i <= (a0g (anc r a)).length, fun i => (a0g (anc r a)).length - i⟩
def l8bB (r : RepoD) (L : List Int) : Inv := ⟨Nat, fun i => ⟨[(3, true, .ptr 10 0), (6, true, .nil), (9, true, .own 9 1 (a0f L)), (11, true, .own 11 1 (a0f (a2L r L i))), (12, true, .int .i64 i)], [(10, a1z r), (9, .own 3 1 true (a0f L)), (11, .own 3 1 true (a0f (a2L r L i)))]⟩, fun i => i <= L.length, fun i => L.length - i⟩
def l8bC (r : RepoD) (L : List Int) (g : Nat) : Inv := ⟨Nat, fun k => ⟨[(3, true, .ptr 10 0), (6, true, .nil), (9, true, .own 9 1 (a0f L)), (11, true, .own 11 1 (a0f (a2L r L g))), (12, true, .int .i64 g), (13, true, .bool (a7I r L g k)), (14, true, .int .i64 k)], [(10, a1z r), (9, .own 3 1 true (a0f L)), (11, .own 3 1 true (a0f (a2L r L g)))]⟩, fun k => k <= L.length /\ g < L.length, fun k => L.length - k⟩
def b2k (r : RepoD) (a b : Int) (n g : Nat) : Inv := if n = 5 then l8bA r a b else if n = 11 then l8bB r (a1K r a b (a0g (anc r a)).length) else l8bC r (a1K r a b (a0g (anc r a)).length) g
theorem c4F (r a b g) : b2k r a b 5 g = l8bA r a b := rfl
theorem c2o (r a b g) : b2k r a b 11 g = l8bB r (a1K r a b (a0g (anc r a)).length) := rfl
theorem c2p (r a b g) : b2k r a b 15 g = l8bC r (a1K r a b (a0g (anc r a)).length) g := rfl
def b0N : Con := .fn 83 (RepoD × Int × Int) (fun a => [a0V a.1, .int .i64 a.2.1, .int .i64 a.2.2]) (fun a => a0l a.1 = true /\ (0 <= a.2.1 /\ a.2.1 < a.1.commits.length) /\ 0 <= a.2.2 /\ a.2.2 < a.1.commits.length) (fun a => .own 8 1 (a0f (a3x a.1 a.2.1 a.2.2))) (fun a => a3d 8 (a3x a.1 a.2.1 a.2.2))
theorem b7G : Has Tryz.prog 166 b0N := by
 refine a0d mixed a0K (HasL.cons b9Y (HasL.cons a9g HasL.nil)) [0, 1, 2, 3, 6, 7, 8, 9, 10, 11, 12, 13, 14] (fun a => b2k a.1 a.2.1 a.2.2) [] Tryz.func166 (by unfold Tryz.f166; rfl) (fun _ => ⟨(), trivial⟩) ?_
 intro a ha
 obtain ⟨r, a, b⟩ := a
 obtain ⟨h1, ⟨h2, h3⟩, h4, h5⟩ : a0l r = true /\ (0 <= a /\ a < r.commits.length) /\ 0 <= b /\ b < r.commits.length := ha
 simp (maxSteps := 8000000) -implicitDefEqProofs [-kStep_move, -kStepC_move, -Bool.exists_bool, b0N, b2U, a8S, Con.fn, a0R, tTab, c4F, c2o, c2p, l8bA, l8bB, l8bC, a0q]
 try dsimp only
 have hal := a1G r
 have h6 := a2x h1
 have hmem : ∀ c, ∀ x ∈ a0g (anc r c), 0 <= x /\ x < r.commits.length := fun c x hx => by
  obtain ⟨i, q1, _, rfl⟩ := listT_mem.1 hx
  rw [hal] at q1
  omega
 have h16 : ∀ c, (a0g (anc r c)).length <= 16 := fun c => by
  have := a3i (anc r c) (anc r c).length
  rw [hal] at this
  unfold a0g; rw [hal]; omega
 refine ⟨r, a, ⟨⟨rfl, rfl⟩, rfl⟩, ⟨h1, h2, h3⟩, r, b, ⟨⟨rfl, rfl⟩, rfl⟩, ⟨h1, h4, h5⟩, ?_⟩
 have hLm := hmem a
 have hL16 := h16 a
 have stepB : ∀ t (h : t < (a0g (anc r a)).length), a1K r a b (t + 1) = if (a0g (anc r a))[t] ∈ a0g (anc r b) then a1K r a b t ++ [(a0g (anc r a))[t]] else a1K r a b t := fun t h => by
  unfold a1K
  rw [a0w h, List.filter_append]
  split
  ·rename_i hq; rw [List.filter_cons_of_pos (by simpa using hq)]; simp
  ·rename_i hq; rw [List.filter_cons_of_neg (by simpa using hq)]; simp
 have bothL : ∀ t, (a1K r a b t).length <= (a0g (anc r a)).length := fun t => by
  unfold a1K
  exact Nat.le_trans (List.length_filter_le _ _) (by simp; omega)
 have hBm : ∀ x ∈ a1K r a b (a0g (anc r a)).length, 0 <= x /\ x < r.commits.length := fun x hx => by
  unfold a1K at hx
  exact hLm x (List.mem_of_mem_take (List.mem_filter.1 hx).1)
 have hout : a3x r a b = a2L r (a1K r a b (a0g (anc r a)).length) (a1K r a b (a0g (anc r a)).length).length := rfl
 have hb0 : a1K r a b 0 = [] := by unfold a1K; simp
 generalize a0g (anc r a) = L at *
 generalize hM : a0g (anc r b) = M at *
 have hB16 := bothL L.length
 generalize hB : a1K r a b L.length = B at *
 have baseS : ∀ u (h : u < B.length), a2L r B (u + 1) = if a7I r B u B.length then a2L r B u ++ [B[u]] else a2L r B u := fun u h => by
  unfold a2L
  rw [List.range_succ, List.filter_append, List.map_append]
  split
  ·rename_i hq; simp -implicitDefEqProofs [hq, List.getD_eq_getElem?_getD, h]
  ·rename_i hq; simp -implicitDefEqProofs [hq]
 have baseL : ∀ u, (a2L r B u).length <= u := fun u => by
  unfold a2L
  rw [List.length_map]
  exact Nat.le_trans (List.length_filter_le _ _) (by simp)
 refine ⟨⟨0, ⟨⟨rfl, rfl, hb0, rfl⟩, hb0⟩, Nat.zero_le _⟩, fun t ht _ => ⟨fun hlt => ⟨hlt, fun _ => ?_⟩, fun hge => ?_⟩⟩
 ·have qq : Option.map eInt L[t]? = some (eInt L[t]) := by simp -implicitDefEqProofs [hlt]
  have sB := stepB t hlt
  have bL := bothL t
  have sn : a0f (a1K r a b t) ++ [[D.int .i64 L[t]]] = a0f (a1K r a b t ++ [L[t]]) := b1R _ _
  rw [qq]
  generalize L[t] = y at *
  simp -implicitDefEqProofs [eInt, D.asInt]
  rw [sn]
  refine ⟨M, y, ⟨rfl, rfl⟩, fun h => ⟨hlt, fun _ => ⟨⟨by omega, by omega⟩, ⟨by omega, by omega⟩, fun _ _ => ⟨t + 1, by rw [sB, if_pos h]; exact ⟨⟨⟨rfl, by omega⟩, rfl⟩, by omega, by omega⟩⟩⟩⟩, fun h => ⟨⟨by omega, by omega⟩, fun _ _ => ⟨t + 1, by rw [sB, if_neg h]; exact ⟨⟨⟨rfl, by omega⟩, rfl⟩, by omega, by omega⟩⟩⟩⟩
 ·have ht' : t = L.length := by omega
  subst ht'
  rw [hB]
  refine ⟨⟨0, ⟨⟨rfl, rfl, rfl⟩, rfl, rfl⟩, Nat.zero_le _⟩, fun u hu _ => ⟨fun hlu => ⟨u, ⟨0, ⟨⟨rfl, rfl, rfl, rfl⟩, rfl⟩, Nat.zero_le _, hlu⟩, fun k hk _ _ => ?_⟩, fun hgu => ?_⟩⟩
  ·have q2 : Option.map eInt B[u]? = some (eInt B[u]) := by simp -implicitDefEqProofs [hlu]
   have sS := baseS u hlu
   have bL := baseL u
   have gu : B.getD u 0 = B[u] := by simp -implicitDefEqProofs [List.getD_eq_getElem?_getD, hlu]
   have sn : a0f (a2L r B u) ++ [[D.int .i64 B[u]]] = a0f (a2L r B u ++ [B[u]]) := b1R _ _
   refine ⟨fun hkl => ?_, fun hge => ?_⟩
   ·have q1 : Option.map eInt B[k]? = some (eInt B[k]) := by simp -implicitDefEqProofs [hkl]
    have gk : B.getD k 0 = B[k] := by simp -implicitDefEqProofs [List.getD_eq_getElem?_getD, hkl]
    have sb : a7I r B u (k + 1) = (a7I r B u k && (decide ((k : Int) = (u : Int)) || !decide (B[u] ∈ a0g (anc r B[k])))) := by
     have e : decide ((k : Int) = (u : Int)) = decide (k = u) := by rw [Bool.eq_iff_iff, decide_eq_true_eq, decide_eq_true_eq]; omega
     rw [e]
     unfold a7I
     rw [List.range_succ, List.all_append, gu]
     simp -implicitDefEqProofs [List.getD_eq_getElem?_getD, hkl]
    have hm := hBm B[k] (List.getElem_mem hkl)
    rw [q1, q2]
    generalize B[u] = y at *
    generalize B[k] = x at *
    simp -implicitDefEqProofs [eInt, D.asInt, hkl, hlu]
    refine ⟨fun a b => ⟨a, b⟩, fun _ => ⟨fun a b => ⟨a, b⟩, fun _ => ⟨r, x, ⟨⟨rfl, rfl⟩, rfl⟩, fun a b => ⟨⟨a, b⟩, h1, hm.1, hm.2⟩, fun a b => ⟨a, b⟩, fun _ => ⟨fun a b => ⟨a, b⟩, fun _ => ⟨_, y, ⟨rfl, rfl⟩, fun a => ⟨a, ?_⟩, fun _ => ⟨⟨by omega, by omega⟩, fun _ _ => ⟨k + 1, ⟨sb, by omega⟩, by omega, by omega⟩⟩⟩⟩⟩⟩⟩
    by_cases e : (k : Int) = u
    ·exact .inl e
    ·exact .inr ⟨a, e⟩
   ·have : k = B.length := by omega
    subst this
    rw [q2]
    generalize B[u] = y at *
    simp -implicitDefEqProofs [eInt, D.asInt, hlu]
    rw [sn]
    exact ⟨fun h => ⟨⟨by omega, by omega⟩, ⟨by omega, by omega⟩, fun _ _ => ⟨u + 1, by rw [sS, if_pos h]; exact ⟨⟨⟨rfl, by omega⟩, rfl⟩, by omega, by omega⟩⟩⟩, fun h => ⟨⟨by omega, by omega⟩, fun _ _ => ⟨u + 1, by rw [sS, if_neg (by simp -implicitDefEqProofs [h])]; exact ⟨⟨⟨rfl, by omega⟩, rfl⟩, by omega, by omega⟩⟩⟩⟩
  ·have : u = B.length := by omega
   subst this
   rw [<- hout]
   exact ⟨rfl, rfl⟩
--TAB a0R
theorem c0w {r : RepoD} (h : a0j r = true) (i : Nat) : a0S (r.commits.getD i default).tree = true := by
 rcases Nat.lt_or_ge i r.commits.length with hi | hi
 ·have := ((a0T r).1 h).1 i hi
  unfold okCS okS1 at this
  simp only [Bool.and_eq_true] at this
  exact this.2.2
 ·have : r.commits.getD i default = default := by simp -implicitDefEqProofs [List.getD_eq_getElem?_getD, hi]
  rw [this]; rfl
theorem a2q {r : RepoD} (h : a0j r = true) (c : Int) : a0S (a0e r c) = true := c0w h _
theorem a8p {r : RepoD} (h : a0j r = true) : rpSz r := by
 obtain ⟨h1, h2, h3⟩ := (a0T r).1 h
 refine ⟨by omega, fun c hc => ?_, by have := ((a2b _ _).1 h2).1; omega⟩
 obtain ⟨i, hi, rfl⟩ := List.getElem_of_mem hc
 have h4 := h1 i hi
 have e : r.commits.getD i default = r.commits[i] := by simp -implicitDefEqProofs [List.getD_eq_getElem?_getD, hi]
 unfold okCS okS1 at h4
 rw [e] at h4
 simp only [Bool.and_eq_true, decide_eq_true_eq] at h4
 obtain ⟨t1, t2⟩ := a4n _ h4.2.2
 exact ⟨by omega, by omega, fun g hg => by have := t2 g hg; omega⟩
theorem cget {r : RepoD} {c : Int} (h0 : 0 <= c) (h1 : c < r.commits.length) : Option.map a0k r.commits[c.toNat]? = some [D.sl 3 1 (a0f (r.commits.getD c.toNat default).parents), D.str (r.commits.getD c.toNat default).who, D.sl 39 2 (a0b (a0e r c))] := by
 have h : c.toNat < r.commits.length := by omega
 have e : r.commits.getD c.toNat default = r.commits[c.toNat] := by simp -implicitDefEqProofs [List.getD_eq_getElem?_getD, h]
 unfold a0e
 rw [e]; simp -implicitDefEqProofs [h, a0k]
theorem c1n {r : RepoD} {a b : Int} {i : Nat} : ∀ x ∈ a1K r a b i, 0 <= x /\ x < r.commits.length := fun x hx => by
 unfold a1K at hx
 obtain ⟨j, q1, _, rfl⟩ := listT_mem.1 (List.mem_of_mem_take (List.mem_filter.1 hx).1)
 rw [a1G] at q1
 omega
theorem b8Z {r : RepoD} {a b : Int} : ∀ x ∈ a3x r a b, 0 <= x /\ x < r.commits.length := fun x hx => by
 unfold a3x a2L at hx
 obtain ⟨j, hj, rfl⟩ := List.mem_map.1 hx
 have hj := List.mem_range.1 (List.mem_filter.1 hj).1
 rw [List.getD_eq_getElem?_getD, List.getElem?_eq_getElem hj, Option.getD_some]
 exact c1n _ (List.getElem_mem hj)
theorem b8Y {r : RepoD} (h : a0l r = true) {a b : Int} : (a3x r a b).length <= 16 := by
 have h6 := a2x h
 have h1 := a3i (anc r a) (anc r a).length
 unfold a3x a2L
 rw [List.length_map]
 refine Nat.le_trans (List.length_filter_le _ _) ?_
 rw [List.length_range]
 unfold a1K
 refine Nat.le_trans (List.length_filter_le _ _) ?_
 rw [a1G] at h1
 simp only [List.length_take, a0g, a1G]; omega
theorem b8W {r : RepoD} (h : a0j r = true) (a b : Int) : a0S (a1P r a b) = true := by
 unfold a1P
 split
 ·rfl
 ·exact a2q h _
theorem a6d {r : RepoD} (h : a0j r = true) (c : Int) : a0S (a1h r c) = true := by
 unfold a1h
 split
 ·rfl
 ·exact a2q h _
theorem a2B {t : List FileD} (h : a0S t = true) : szT t := by
 obtain ⟨h1, h2⟩ := a4n t h
 exact ⟨by omega, h2⟩
def b2V : Con := .fn 26 (RepoD × Int × Int) (fun a => [a0V a.1, .int .i64 a.2.1, .int .i64 a.2.2]) (fun a => a0j a.1 = true /\ (0 <= a.2.1 /\ a.2.1 < a.1.commits.length) /\ 0 <= a.2.2 /\ a.2.2 < a.1.commits.length) (fun a => .sl true 2 (a0b (a1P a.1 a.2.1 a.2.2))) (fun _ => [])
theorem b9Z : Has Tryz.prog 139 b2V := by
 refine a0d mixed a0K (HasL.cons b7G HasL.nil) [0, 1, 2, 3, 6, 7] ((fun a n (_ : Nat) => (fun _ => a0r) a n)) [] Tryz.func139 (by unfold Tryz.f139; rfl) (fun _ => ⟨(), trivial⟩) ?_
 intro a ha
 obtain ⟨r, a, b⟩ := a
 obtain ⟨h1, ⟨h2, h3⟩, h4, h5⟩ : a0j r = true /\ (0 <= a /\ a < r.commits.length) /\ 0 <= b /\ b < r.commits.length := ha
 simp -implicitDefEqProofs [b2V, b0N, Con.fn, a0R, tTab, a0q]
 try dsimp only
 simp -implicitDefEqProofs only [and_assoc, exists_eq_left, exists_and_left, RepoD.ex1, RepoD.eta]
 have hI : a0l r = true := by rw [a0D]; exact h1
 have hl := b8Y hI (a := a) (b := b)
 have hmm := b8Z (r := r) (a := a) (b := b)
 have hb : a1P r a b = match (a3x r a b).getLast? with | none => [] | some c => a0e r c := rfl
 refine ⟨hI, h2, h3, h4, h5, fun _ => ⟨fun h => by rw [hb, h]; rfl, fun h => ?_⟩⟩
 rcases List.eq_nil_or_concat (a3x r a b) with e | ⟨m, q, e⟩
 ·exact absurd e h
 ·rw [e] at hl hmm hb ⊢
  have hq := hmm q (by simp)
  have cg := cget hq.1 hq.2
  have hb : a1P r a b = a0e r q := by rw [hb]; simp
  rw [hb]
  simp -implicitDefEqProofs [eInt, D.asInt, cg, D.asRows]
  simp at hl
  omega
def b0O : Con := .fn 70 (RepoD × Str × Str × Int) (fun a => [a0V a.1, .str a.2.1, .str a.2.2.1, .int .i64 a.2.2.2]) (fun a => a0j a.1 = true /\ 0 <= atL a.1.heads a.2.1 /\ 0 <= a.2.2.2 /\ a.2.2.2 < a.1.commits.length) (fun a => .tup [.agg [.sl false 3 (a0i (a2f a.1 a.2.1 a.2.2.1 a.2.2.2).1.commits), .sl false 2 (a0c (a2f a.1 a.2.1 a.2.2.1 a.2.2.2).1.heads)], .int .i64 (a2f a.1 a.2.1 a.2.2.1 a.2.2.2).2]) (fun _ => [])
theorem b7H : Has Tryz.prog 93 b0O := by
 refine a0d mixed a0K (HasL.cons a3n (HasL.cons b3T (HasL.cons a9g (HasL.cons a5N (HasL.cons b9Z (HasL.cons b2i (HasL.cons a9f (HasL.cons a3p HasL.nil)))))))) [0, 1, 2, 3, 4, 8, 9, 10, 11, 12, 13] ((fun a n (_ : Nat) => (fun _ => a0r) a n)) [] Tryz.func93 (by unfold Tryz.f93; rfl) (fun _ => ⟨(), trivial⟩) ?_
 intro a ha
 obtain ⟨r, n, w, b⟩ := a
 obtain ⟨h1, h2, h3, h4⟩ : a0j r = true /\ 0 <= atL r.heads n /\ 0 <= b /\ b < r.commits.length := ha
 simp -implicitDefEqProofs [b0O, a4K, b1H, a8S, a5T, b2V, a9P, a8R, a4L, Con.fn, a0R, tTab, a0q]
 try dsimp only
 simp -implicitDefEqProofs only [and_assoc, exists_eq_left, exists_and_left, RepoD.ex1, RepoD.eta]
 have hI : a0l r = true := by rw [a0D]; exact h1
 obtain ⟨k1, k2, k3⟩ := a8p h1
 have hat := b1x (n := n) ((a0T r).1 h1).2.1
 have ga := cget (r := r) (c := atL r.heads n) h2 (by omega)
 have gb := cget (r := r) h3 h4
 rw [ga, gb]
 simp -implicitDefEqProofs [D.asRows]
 have hlen : ∀ c, (addR r n c).commits.length <= 1073741824 := fun c => by simp -implicitDefEqProofs [addR]; omega
 refine ⟨hI, h2, by omega, fun h => ?_, fun h => ⟨hI, h3, h4, fun h' => ⟨by omega, ?_⟩, fun h' => ⟨h1, h2, by omega, h3, h4, h2, by omega, fun _ _ => ⟨h3, h4, fun _ _ => ⟨a2B (b8W h1 _ _), a2B (a2q h1 _), a2B (a2q h1 _), fun _ => ⟨fun hj => ?_, fun hj => ⟨⟨[atL r.heads n, b], w, (a1b (a1P r (atL r.heads n) b) (a0e r (atL r.heads n)) (a0e r b)).1⟩, rfl, rfl, rfl, k1, k3, hlen _, fun hs => ?_, fun hs => ?_⟩⟩⟩⟩⟩⟩⟩
 ·unfold a2f; rw [if_pos h]; exact ⟨rfl, rfl, rfl⟩
 ·unfold a2f; rw [if_neg h, if_pos h']; exact ⟨rfl, rfl, rfl⟩
 ·unfold a2f; rw [if_neg h, if_neg h', if_neg (by intro e; rw [e] at hj; simp at hj)]; exact ⟨rfl, rfl, rfl⟩
 ·unfold a2f; rw [if_neg h, if_neg h', if_pos hj, if_neg (by simp -implicitDefEqProofs [hs])]; exact ⟨rfl, rfl, rfl⟩
 ·unfold a2f; rw [if_neg h, if_neg h', if_pos hj, if_pos hs]; exact ⟨rfl, rfl, rfl⟩
def a5K : Con := .fn 42 (RepoD × Str × Str × Int) (fun a => [a0V a.1, .str a.2.1, .str a.2.2.1, .int .i64 a.2.2.2]) (fun a => rpSz a.1) (fun a => .tup [.agg [.sl false 3 (a0i (a0u a.1 a.2.1 a.2.2.1 a.2.2.2).1.commits), .sl false 2 (a0c (a0u a.1 a.2.1 a.2.2.1 a.2.2.2).1.heads)], .int .i64 (a0u a.1 a.2.1 a.2.2.1 a.2.2.2).2]) (fun _ => [])
theorem a8D : Has Tryz.prog 35 a5K := by
 refine a0d mixed a0K (HasL.cons a3p (HasL.cons a3n (HasL.cons a4d (HasL.cons a3m (HasL.cons a3o (HasL.cons b7H HasL.nil)))))) [0, 1, 2, 3, 4, 8, 9] ((fun a n (_ : Nat) => (fun _ => a0r) a n)) [] Tryz.func35 (by unfold Tryz.f35; rfl) (fun _ => ⟨(), trivial⟩) ?_
 intro a ha
 obtain ⟨r, n, w, b⟩ := a
 replace ha : rpSz r := ha
 simp -implicitDefEqProofs [a5K, a4L, a4K, a4v, a4J, a4a, b0O, Con.fn, a0R, tTab, a0q]
 try dsimp only
 simp -implicitDefEqProofs only [and_assoc, exists_eq_left, exists_and_left, RepoD.ex1, RepoD.eta]
 have e0 : a0j r = false -> a0u r n w b = (noR, 1) := fun h => by unfold a0u; rw [if_neg (by simp -implicitDefEqProofs [h])]
 have e1 : a0j r = true -> (atL r.heads n < 0 \/ a0Q w = false \/ ¬ (0 <= b /\ b < r.commits.length)) -> a0u r n w b = (r, 1) := fun h h' => by unfold a0u; rw [if_pos h, if_pos h']
 have e2 : a0j r = true -> ¬ (atL r.heads n < 0 \/ a0Q w = false \/ ¬ (0 <= b /\ b < r.commits.length)) -> a0u r n w b = a2f r n w b := fun h h' => by unfold a0u; rw [if_pos h, if_neg h']
 have hr1 : r.commits.length <= 1048576 := ha.1
 refine ⟨by omega, fun h => by rw [e0 h]; exact ⟨rfl, rfl, rfl⟩, fun h => ⟨fun hn => ⟨ha, by rw [e1 h (.inl hn)]; exact ⟨rfl, rfl, rfl⟩⟩, fun hn => ⟨fun hw => ⟨ha, by rw [e1 h (.inr (.inl hw))]; exact ⟨rfl, rfl, rfl⟩⟩, fun hw _ => ⟨by omega, by omega, fun _ _ => ⟨fun hb => ⟨ha, by rw [e1 h (.inr (.inr (by omega)))]; exact ⟨rfl, rfl, rfl⟩⟩, fun hb hb' => ⟨ha, h, hn, hb, by omega, ?_⟩⟩⟩⟩⟩⟩
 rw [e2 h (by rintro (q | q | q); omega; rw [hw] at q; cases q; omega)]; exact ⟨rfl, rfl, rfl⟩
def a5y : Con := .fn 26 (RepoD × Int) (fun a => [a0V a.1, .int .i64 a.2]) (fun a => a0j a.1 = true /\ 0 <= a.2 /\ a.2 < a.1.commits.length) (fun a => .sl true 2 (a0b (a1h a.1 a.2))) (fun _ => [])
theorem a6o : Has Tryz.prog 63 a5y := by
 refine a0d mixed a0K HasL.nil [0, 1, 2, 4] ((fun a n (_ : Nat) => (fun _ => a0r) a n)) [] Tryz.func63 (by unfold Tryz.f63; rfl) (fun _ => ⟨(), trivial⟩) ?_
 intro a ha
 obtain ⟨r, c⟩ := a
 obtain ⟨h1, h2, h3⟩ : a0j r = true /\ 0 <= c /\ c < r.commits.length := ha
 simp -implicitDefEqProofs [a5y, Con.fn, a0R, tTab, a0q]
 try dsimp only
 simp -implicitDefEqProofs only [and_assoc, exists_eq_left, exists_and_left, RepoD.ex1, RepoD.eta]
 have cg := cget (r := r) h2 h3
 have hp : a1h r c = match (r.commits.getD c.toNat default).parents with | [] => [] | p :: _ => a0e r p := rfl
 have hmem : ∀ p ∈ (r.commits.getD c.toNat default).parents, 0 <= p /\ p < r.commits.length := fun p hp => by
  have hc : c.toNat < r.commits.length := by omega
  have := (a1O (r := r) (by rw [a0D]; exact h1) hc).2.1 p (by simpa [List.getD_eq_getElem?_getD, hc] using hp)
  omega
 have hl : (r.commits.getD c.toNat default).parents.length <= 1000 := by
  have hc : c.toNat < r.commits.length := by omega
  have := (a1O (r := r) (by rw [a0D]; exact h1) hc).1
  simpa [List.getD_eq_getElem?_getD, hc] using by omega
 rw [cg]
 generalize (r.commits.getD c.toNat default).parents = P at *
 cases P with
 | nil => simp -implicitDefEqProofs [D.asRows, hp]; omega
 | cons p P =>
  have hq := hmem p (by simp)
  have cp := cget hq.1 hq.2
  have hp : a1h r c = a0e r p := hp
  simp -implicitDefEqProofs [D.asRows, hp, a0f, eInt, D.asInt, cp]
  exact ⟨h2, h3, fun _ _ _ => ⟨h2, h3, fun _ _ => hq⟩⟩
def a7b : Con := .fn 48 (RepoD × Str × Str × List FileD × List FileD) (fun a => [a0V a.1, .str a.2.1, .str a.2.2.1, .sl true 2 (a0b a.2.2.2.1), .sl true 2 (a0b a.2.2.2.2)]) (fun a => a0j a.1 = true /\ 0 <= atL a.1.heads a.2.1 /\ a0S a.2.2.2.1 = true /\ a0S a.2.2.2.2 = true) (fun a => .tup [.agg [.sl false 3 (a0i (a1e a.1 a.2.1 a.2.2.1 a.2.2.2.1 a.2.2.2.2).1.commits), .sl false 2 (a0c (a1e a.1 a.2.1 a.2.2.1 a.2.2.2.1 a.2.2.2.2).1.heads)], .int .i64 (a1e a.1 a.2.1 a.2.2.1 a.2.2.2.1 a.2.2.2.2).2]) (fun _ => [])
theorem a8c : Has Tryz.prog 104 a7b := by
 refine a0d mixed a0K (HasL.cons a3n (HasL.cons b2i (HasL.cons a9f (HasL.cons a3p HasL.nil)))) [0, 1, 2, 3, 4, 5, 10, 11, 12, 13, 14, 15] ((fun a n (_ : Nat) => (fun _ => a0r) a n)) [] Tryz.func104 (by unfold Tryz.f104; rfl) (fun _ => ⟨(), trivial⟩) ?_
 intro a ha
 obtain ⟨r, n, w, o, b⟩ := a
 obtain ⟨h1, h2, h3, h4⟩ : a0j r = true /\ 0 <= atL r.heads n /\ a0S o = true /\ a0S b = true := ha
 simp -implicitDefEqProofs [a7b, a4K, a9P, a8R, a4L, Con.fn, a0R, tTab, a0q]
 try dsimp only
 simp -implicitDefEqProofs only [and_assoc, exists_eq_left, exists_and_left, RepoD.ex1, RepoD.eta]
 obtain ⟨k1, k2, k3⟩ := a8p h1
 have hat := b1x (n := n) ((a0T r).1 h1).2.1
 have ga := cget (r := r) (c := atL r.heads n) h2 (by omega)
 rw [ga]
 simp -implicitDefEqProofs [D.asRows]
 have hlen : ∀ c, (addR r n c).commits.length <= 1073741824 := fun c => by simp -implicitDefEqProofs [addR]; omega
 refine ⟨h2, by omega, fun _ _ => ⟨a2B h3, a2B (a2q h1 _), a2B h4, fun _ => ⟨fun hj => ?_, fun hj => ⟨⟨[atL r.heads n], w, (a1b o (a0e r (atL r.heads n)) b).1⟩, rfl, rfl, rfl, k1, k3, hlen _, fun hs => ?_, fun hs => ?_⟩⟩⟩⟩
 ·unfold a1e; rw [if_neg (by intro e; rw [e] at hj; simp at hj)]; exact ⟨rfl, rfl, rfl⟩
 ·unfold a1e; rw [if_pos hj, if_neg (by simp -implicitDefEqProofs [hs])]; exact ⟨rfl, rfl, rfl⟩
 ·unfold a1e; rw [if_pos hj, if_pos hs]; exact ⟨rfl, rfl, rfl⟩
def a9S : Con := .fn 52 (RepoD × Str × Str × Int) (fun a => [a0V a.1, .str a.2.1, .str a.2.2.1, .int .i64 a.2.2.2]) (fun a => rpSz a.1) (fun a => .tup [.agg [.sl false 3 (a0i (a0U false a.1 a.2.1 a.2.2.1 a.2.2.2).1.commits), .sl false 2 (a0c (a0U false a.1 a.2.1 a.2.2.1 a.2.2.2).1.heads)], .int .i64 (a0U false a.1 a.2.1 a.2.2.1 a.2.2.2).2]) (fun _ => [])
theorem b2t : Has Tryz.prog 48 a9S := by
 refine a0d mixed a0K (HasL.cons a3p (HasL.cons a3n (HasL.cons a4d (HasL.cons a3m (HasL.cons a3o (HasL.cons a6o (HasL.cons a8c HasL.nil))))))) [0, 1, 2, 3, 4, 8, 9, 10] ((fun a n (_ : Nat) => (fun _ => a0r) a n)) [] Tryz.func48 (by unfold Tryz.f48; rfl) (fun _ => ⟨(), trivial⟩) ?_
 intro a ha
 obtain ⟨r, n, w, b⟩ := a
 replace ha : rpSz r := ha
 simp -implicitDefEqProofs [a9S, a4L, a4K, a4v, a4J, a4a, a5y, a7b, Con.fn, a0R, tTab, a0q]
 try dsimp only
 simp -implicitDefEqProofs only [and_assoc, exists_eq_left, exists_and_left, RepoD.ex1, RepoD.eta]
 have e0 : a0j r = false -> a0U false r n w b = (noR, 1) := fun h => by unfold a0U; rw [if_neg (by simp -implicitDefEqProofs [h])]
 have e1 : a0j r = true -> (atL r.heads n < 0 \/ a0Q w = false \/ ¬ (0 <= b /\ b < r.commits.length)) -> a0U false r n w b = (r, 1) := fun h h' => by unfold a0U; rw [if_pos h, if_pos h']
 have e2 : a0j r = true -> ¬ (atL r.heads n < 0 \/ a0Q w = false \/ ¬ (0 <= b /\ b < r.commits.length)) -> a0U false r n w b = a1e r n w (a1h r b) (a0e r b) := fun h h' => by unfold a0U; rw [if_pos h, if_neg h']; rfl
 have hr1 : r.commits.length <= 1048576 := ha.1
 refine ⟨by omega, fun h => by rw [e0 h]; exact ⟨rfl, rfl, rfl⟩, fun h => ⟨fun hn => ⟨ha, by rw [e1 h (.inl hn)]; exact ⟨rfl, rfl, rfl⟩⟩, fun hn => ⟨fun hw => ⟨ha, by rw [e1 h (.inr (.inl hw))]; exact ⟨rfl, rfl, rfl⟩⟩, fun hw _ => ⟨by omega, by omega, fun _ _ => ⟨fun hb => ⟨ha, by rw [e1 h (.inr (.inr (by omega)))]; exact ⟨rfl, rfl, rfl⟩⟩, fun hb hb' => ?_⟩⟩⟩⟩⟩
 rw [e2 h (by rintro (q | q | q); omega; rw [hw] at q; cases q; omega)]
 have cb := cget hb (show b < r.commits.length by omega)
 have s1 := a2q h b
 have s2 := a6d h b
 rw [cb]
 simp -implicitDefEqProofs [D.asRows, h, hn, hb, s1, s2, show b < r.commits.length by omega, show rpSz r from ha]
def a8T : Con := .fn 52 (RepoD × Str × Str × Int) (fun a => [a0V a.1, .str a.2.1, .str a.2.2.1, .int .i64 a.2.2.2]) (fun a => rpSz a.1) (fun a => .tup [.agg [.sl false 3 (a0i (a0U true a.1 a.2.1 a.2.2.1 a.2.2.2).1.commits), .sl false 2 (a0c (a0U true a.1 a.2.1 a.2.2.1 a.2.2.2).1.heads)], .int .i64 (a0U true a.1 a.2.1 a.2.2.1 a.2.2.2).2]) (fun _ => [])
theorem b6z : Has Tryz.prog 211 a8T := by
 refine a0d mixed a0K (HasL.cons a3p (HasL.cons a3n (HasL.cons a4d (HasL.cons a3m (HasL.cons a3o (HasL.cons a6o (HasL.cons a8c HasL.nil))))))) [0, 1, 2, 3, 4, 8, 9, 10] ((fun a n (_ : Nat) => (fun _ => a0r) a n)) [] Tryz.func211 (by unfold Tryz.f211; rfl) (fun _ => ⟨(), trivial⟩) ?_
 intro a ha
 obtain ⟨r, n, w, b⟩ := a
 replace ha : rpSz r := ha
 simp -implicitDefEqProofs [a8T, a4L, a4K, a4v, a4J, a4a, a5y, a7b, Con.fn, a0R, tTab, a0q]
 try dsimp only
 simp -implicitDefEqProofs only [and_assoc, exists_eq_left, exists_and_left, RepoD.ex1, RepoD.eta]
 have e0 : a0j r = false -> a0U true r n w b = (noR, 1) := fun h => by unfold a0U; rw [if_neg (by simp -implicitDefEqProofs [h])]
 have e1 : a0j r = true -> (atL r.heads n < 0 \/ a0Q w = false \/ ¬ (0 <= b /\ b < r.commits.length)) -> a0U true r n w b = (r, 1) := fun h h' => by unfold a0U; rw [if_pos h, if_pos h']
 have e2 : a0j r = true -> ¬ (atL r.heads n < 0 \/ a0Q w = false \/ ¬ (0 <= b /\ b < r.commits.length)) -> a0U true r n w b = a1e r n w (a0e r b) (a1h r b) := fun h h' => by unfold a0U; rw [if_pos h, if_neg h']; rfl
 have hr1 : r.commits.length <= 1048576 := ha.1
 refine ⟨by omega, fun h => by rw [e0 h]; exact ⟨rfl, rfl, rfl⟩, fun h => ⟨fun hn => ⟨ha, by rw [e1 h (.inl hn)]; exact ⟨rfl, rfl, rfl⟩⟩, fun hn => ⟨fun hw => ⟨ha, by rw [e1 h (.inr (.inl hw))]; exact ⟨rfl, rfl, rfl⟩⟩, fun hw _ => ⟨by omega, by omega, fun _ _ => ⟨fun hb => ⟨ha, by rw [e1 h (.inr (.inr (by omega)))]; exact ⟨rfl, rfl, rfl⟩⟩, fun hb hb' => ?_⟩⟩⟩⟩⟩
 rw [e2 h (by rintro (q | q | q); omega; rw [hw] at q; cases q; omega)]
 have cb := cget hb (show b < r.commits.length by omega)
 have s1 := a2q h b
 have s2 := a6d h b
 rw [cb]
 simp -implicitDefEqProofs [D.asRows, h, hn, hb, s1, s2, show b < r.commits.length by omega, show rpSz r from ha]
--TAB a2n
def a5a (r : RepoD) (n : Int) : List FileD := if n < 0 then [] else a0e r n
def b1K : Con := .fn 13 (RepoD × Int) (fun a => [a0V a.1, .int .i64 a.2]) (fun a => -1 <= a.2 /\ a.2 < a.1.commits.length) (fun a => .sl true 2 (a0b (a5a a.1 a.2))) (fun _ => [])
theorem c3q : Has Tryz.prog 55 b1K := by
 refine a0d mixed a2d HasL.nil [0, 1, 2, 4] ((fun a n (_ : Nat) => (fun _ => a0r) a n)) [] Tryz.func55 (by unfold Tryz.f55; rfl) (fun _ => ⟨(), trivial⟩) ?_
 intro a ha
 obtain ⟨r, n⟩ := a
 obtain ⟨h1, h2⟩ : -1 <= n /\ n < r.commits.length := ha
 by_cases h0 : n < 0
 ·have e : a5a r n = [] := by unfold a5a; rw [if_pos h0]
  simp -implicitDefEqProofs [b1K, Con.fn, a2n, tTab, e, h1, h2]
  try dsimp only
  exact fun h => absurd h (by omega)
 ·have hi : n.toNat < r.commits.length := by omega
  have e : Option.map a0k r.commits[n.toNat]? = some (a0k r.commits[n.toNat]) := by simp -implicitDefEqProofs [hi]
  have e2 : a5a r n = r.commits[n.toNat].tree := by unfold a5a a0e; rw [if_neg h0]; simp -implicitDefEqProofs [List.getD_eq_getElem?_getD, hi]
  simp -implicitDefEqProofs [b1K, Con.fn, a2n, tTab, e, e2, a0k, hi, h1, h2]
  try dsimp only
  exact fun h => absurd h h0
theorem c3G (r : RepoD) (a : Int) (h : ∀ p ∈ (r.commits.getD a.toNat default).parents, 0 <= p) : a1h r a = a5a r (a4R r a) := by
 unfold a1h a4R
 cases hp : (r.commits.getD a.toNat default).parents with
 | nil => rfl
 | cons p l =>
  have := h p (by rw [hp]; simp)
  show a0e r p = a5a r p
  unfold a5a
  rw [if_neg (by omega)]
theorem c6q {r : RepoD} (h : a0l r = true) {a : Int} (h0 : 0 <= a) (h1 : a < r.commits.length) : a1h r a = a5a r (a4R r a) := c3G r a fun p hp => by
 have hc : a.toNat < r.commits.length := by omega
 exact ((a1O h hc).2.1 p (by simpa [List.getD_eq_getElem?_getD, hc] using hp)).1
--TAB a0R
abbrev oR (x : RepoD × Int) : AV := .tup [.agg [.own 8 3 (a0i x.1.commits), .own 9 2 (a0c x.1.heads)], .int .i64 x.2]
abbrev oRf (x : RepoD × Int) : List (Nat × Blk) := a2z 8 x.1.commits ++ a2E 9 x.1.heads
def b5m : Con := .fn 49 (RepoD × Str × Str × List FileD × List FileD) (fun a => [a0V a.1, .str a.2.1, .str a.2.2.1, .sl true 2 (a0b a.2.2.2.1), .sl true 2 (a0b a.2.2.2.2)]) (fun a => a0l a.1 = true /\ 0 <= atL a.1.heads a.2.1 /\ a0s a.2.2.2.1 = true /\ a0s a.2.2.2.2 = true) (fun a => oR (a1e a.1 a.2.1 a.2.2.1 a.2.2.2.1 a.2.2.2.2)) (fun a => oRf (a1e a.1 a.2.1 a.2.2.1 a.2.2.2.1 a.2.2.2.2))
theorem c1e : Has Tryz.prog 147 b5m := by
 refine a0d mixed a0K (HasL.cons a7a (HasL.cons a6K (HasL.cons a9d (HasL.cons a6s (HasL.cons b1O (HasL.cons b4j HasL.nil)))))) [0, 1, 2, 3, 4, 5, 10, 11, 12, 13, 14, 15] ((fun a n (_ : Nat) => (fun _ => a0r) a n)) [16417, 16425, 16426] Tryz.func147 (by unfold Tryz.f147; rfl) (fun _ => ⟨(), trivial⟩) ?_
 intro a ha
 obtain ⟨r, n, w, o, b⟩ := a
 obtain ⟨h1, h2, h3, h4⟩ : a0l r = true /\ 0 <= atL r.heads n /\ a0s o = true /\ a0s b = true := ha
 simp (maxSteps := 8000000) [-kStep_move, -kStepC_move, -Bool.exists_bool, b5m, cAtI, a7g, a6x, a7O, a9L, b1M, b1L, a5B, Con.fn, a0R, tTab, a0q]
 try dsimp only
 try simp only [and_assoc, exists_eq_left, exists_and_left, RepoD.ex1, RepoD.eta]
 obtain ⟨hz, hp⟩ := a3g h1
 have hn := a2x h1
 have hlt := a4H h1 h2
 have ht := a1C h1 ⟨h2, hlt⟩
 have hP := c5n h1 h2 h3 h4 (n := n) (w := w)
 have ta : a0e r (atL r.heads n) = (r.commits[(atL r.heads n).toNat]?.getD default).tree := by unfold a0e; rw [List.getD_eq_getElem?_getD]
 have jt := @a7o o (a0e r (atL r.heads n)) b
 rw [ta] at hP ht jt
 rw [hP]
 generalize a1t o (r.commits[(atL r.heads n).toNat]?.getD default).tree b = J at *
 refine ⟨h2, hlt, a5m h3, a5m ht, a5m h4, fun hj => ?_, fun hj => ⟨hz, [atL r.heads n], rfl, trivial, trivial, rfl, hz.2.2, hz.1, (a6a jt).1, (a6a jt).2, trivial, trivial, hz, c1t h1 jt, ?_⟩⟩
 ·rw [if_neg (by simp -implicitDefEqProofs [hj])]; exact ⟨hz, rfl, rfl, rfl, rfl, rfl⟩
 ·rw [if_pos hj]
  exact ⟨fun h => by simp -implicitDefEqProofs [h], fun h => by simp -implicitDefEqProofs [h]⟩
def b1I : Con := .fn 50 (RepoD × Str × Str × Int × Bool) (fun a => [a0V a.1, .str a.2.1, .str a.2.2.1, .int .i64 a.2.2.2.1, .bool a.2.2.2.2]) (fun a => a0l a.1 = true) (fun a => oR (a0U a.2.2.2.2 a.1 a.2.1 a.2.2.1 a.2.2.2.1)) (fun a => oRf (a0U a.2.2.2.2 a.1 a.2.1 a.2.2.1 a.2.2.2.1))
theorem b4c : Has Tryz.prog 103 b1I := by
 refine a0d mixed a0K (HasL.cons a7a (HasL.cons a4U (HasL.cons a4b (HasL.cons a6s (HasL.cons c1C (HasL.cons c3q (HasL.cons c1e HasL.nil))))))) [0, 1, 2, 3, 4, 5, 10, 11, 12, 13] ((fun a n (_ : Nat) => (fun _ => a0r) a n)) [] Tryz.func103 (by unfold Tryz.f103; rfl) (fun _ => ⟨(), trivial⟩) ?_
 intro a ha
 obtain ⟨r, n, w, c, k⟩ := a
 replace ha : a0l r = true := ha
 simp (maxSteps := 8000000) [-kStep_move, -kStepC_move, -Bool.exists_bool, b1I, cAtI, a5h, a4t, a7O, b5n, b1K, b5m, Con.fn, a0R, tTab, a0q]
 try dsimp only
 try simp only [and_assoc, exists_eq_left, exists_and_left, RepoD.ex1, RepoD.eta]
 obtain ⟨hz, hp⟩ := a3g ha
 have hn := a2x ha
 refine ⟨fun h h' => ⟨h, h', by omega⟩, ?_, fun _ => ⟨fun h => ?_, fun c1 c2 c3 c4 => ?_⟩⟩
 ·rcases Int.lt_or_le (atL r.heads n) 0 with h | h
  ·exact .inl (.inl h)
  ·cases hw : a0Q w with
   | false => exact .inl (.inr rfl)
   | true => exact .inr ⟨h, rfl⟩
 ·rw [pS_1 ha (by rcases h with (h | h) | h | h; exact .inl h; exact .inr (.inl h); exact .inr (.inr (by omega)); exact .inr (.inr (by omega)))]
  exact ⟨hz, rfl, rfl, rfl, rfl, rfl⟩
 ·have hc : c < r.commits.length := by omega
  obtain ⟨f1, f2⟩ := c4k ha c3 hc
  have e1 : a5a r c = a0e r c := by unfold a5a; rw [if_neg (by omega)]
  have e2 := c6q ha c3 hc
  have g := c0j ha (back := k) c1 c2 ⟨c3, hc⟩
  have t1 := a1C ha ⟨c3, hc⟩
  have t2 := b8S ha ⟨c3, hc⟩
  rw [e1, <- e2, g]
  refine ⟨c3, hc, f1, by omega, by omega, hc, fun hk => ?_, fun hk => ?_⟩
  ·rw [hk]; exact ⟨ha, c1, t1, t2, rfl, rfl, rfl, rfl, rfl⟩
  ·rw [hk]; exact ⟨ha, c1, t2, t1, rfl, rfl, rfl, rfl, rfl⟩
def b0Q : Con := .fn 21 (RepoD × Str × Str × Int) (fun a => [a0V a.1, .str a.2.1, .str a.2.2.1, .int .i64 a.2.2.2]) (fun a => a2a a.1) (fun a => oR (a0U false a.1 a.2.1 a.2.2.1 a.2.2.2)) (fun a => oRf (a0U false a.1 a.2.1 a.2.2.1 a.2.2.2))
theorem b7O : Has Tryz.prog 47 b0Q := by
 refine a0d mixed a0K (HasL.cons a2R (HasL.cons b4c HasL.nil)) [0, 1, 2, 3, 4, 8, 9] ((fun a n (_ : Nat) => (fun _ => a0r) a n)) [] Tryz.func47 (by unfold Tryz.f47; rfl) (fun _ => ⟨(), trivial⟩) ?_
 intro a ha
 obtain ⟨r, n, w, b⟩ := a
 replace ha : a2a r := ha
 simp (maxSteps := 8000000) [b0Q, a3F, b1I, Con.fn, a0R, tTab, a0q]
 try dsimp only
 try simp only [and_assoc, exists_eq_left, exists_and_left, RepoD.ex1, RepoD.eta]
 refine ⟨ha, fun h => ?_, fun h => ?_⟩
 ·rw [c6h h]; simp -implicitDefEqProofs [noR]
 ·simp -implicitDefEqProofs [h]
end Vx
end Go.Proofs.YtokdjnbcdokpjaaGreatDoor
