/-
  Joined by program (merge.py): Fa, Fb, Fc, Hg, Nb, Shs, Qb, Gt, Qc, Sb, Xb, Na, Se, Nc, Md, Mk, Mf, Mg, Mc, Me, Ml, Mh, Xf, Xc, Xe, Xa, Di, Kc, Da, Dc, Dg. It shows what the single texts show; conditions: none but those of each lemma.
-/
import Derived.Test.YthgfdbfmnbgkaaaGreatDoorWa
import Derived.Lib.Walk
import Derived.Lib.SliceRun
import Derived.Lib.JoinLaws
import Derived.Lib.AppendZeros
import Derived.Lib.AppendZerosOnto
import Derived.Lib.Overlaps
import Derived.Laws.Externs
import Derived.Laws.IdiomCopy
import Derived.Laws.NewBlocks
import Derived.Shelf.RegionOpenPlain
import Derived.Shelf.Sort.Plain
import Derived.Shelf.Slices.In.SortNone
import Derived.Shelf.Slices.CompactS
import Derived.Test.YthgfdbfmnbgkaaaGreatDoorProg
set_option linter.unusedVariables false
set_option linter.unusedSimpArgs false
set_option linter.unusedSectionVars false
set_option linter.unusedVariables false
set_option linter.unusedSimpArgs false
namespace Go.Proofs.YthgfdbfmnbgkaaaGreatDoor
set_option maxHeartbeats 4000000
namespace Vx
open Go.RowKit Go.Lib
theorem kb {P:Program} (k:Nat) (w:World) (dT sT ty elem:TypeId) (b o dLen dCap:Nat) (a:Addr) (sLen sCap:Nat) (cs:List Value)
  (hu:P.underlying dT=some (.slice elem)) (hs:(P.info? elem).map (·.size)=some k) (hn:cs.length=Nat.min sLen dLen * k)
  (hsrc:∀ (j:Nat) v,cs[j]? = some v->w.cell? (a.add j)=some v) (hc:∀ j,j < cs.length->(w.cell? ⟨b,o+j,none⟩).isSome=true) (hf:∀ j,j < cs.length->w.frozen? ⟨b,o+j,none⟩=false) (h1:∀ v ∈ cs,v.oneCell'=true) :
  (Builtin.copy_ #[dT,sT] ty #[.slice (some ⟨b,o,none⟩) dLen dCap,.slice (some a) sLen sCap]).run P w = .ok (goInt (Nat.min sLen dLen)) (w.setCells b o cs):=by
 have hl:=run_loadCells_list (P:=P) w a cs hsrc;have hst:=run_storeCells_cells (P:=P) b o cs 0 w (by simpa using hc) (by simpa using hf) h1
 cases hq:P.info? elem with
 | none=>simp [hq] at hs
 | some i =>
  have hi:i.size=k:=by simpa [hq] using hs
  simp [Builtin.copy_,run_underlying hu,Builtin.lenOf,Builtin.firstCells,sizeOf,typeInfo,hq,hi,<- hn,hl,hst]
theorem wp_copy_runI {P:Program} (w:World) {o:Oper} {a:Act} {K:Act->World->Prop} {Q:Exit->Act->World->Prop} (d s:Operand) (t t':TypeId)
  (ho:o.op = .call { callee:=.builtin .copy,args:=#[d,s],argTypes:=#[t,t'] }) (v u:Value) (hd:a.eval d=v) (hs:a.eval s=u) {v':Value} {w':World}
  (hr:(Builtin.copy_ #[t,t'] o.type #[v,u]).run P w = .ok v' w') (h:K (a.put o.dst v') w'):o.wp P a w K Q:=by
 unfold Oper.wp execOp;simp only [ho,resolve,invoke,builtin,Sem.run_bind,Sem.run_pure,Result.andThen_ok,List.map_toArray,List.map_cons,List.map_nil,hd,hs,hr];exact h
theorem wpList_copy_runI {P:Program} (w:World) {ops:Array Oper} {rest:List Oper} {o:Oper} {a:Act} {Q:Exit->Act->World->Prop} (hgd:o.guard=none) (d s:Operand) (t t':TypeId)
  (ho:o.op = .call { callee:=.builtin .copy,args:=#[d,s],argTypes:=#[t,t'] }) (v u:Value) (hd:a.eval d=v) (hs:a.eval s=u) {v':Value} {w':World}
  (hr:(Builtin.copy_ #[t,t'] o.type #[v,u]).run P w = .ok v' w') (h:wpList P ops Q rest (a.put o.dst v') w'):wpList P ops Q (o :: rest) a w :=
 wpList_plain hgd fun _ hK=>wp_copy_runI w d s t t' ho v u hd hs hr (hK _ _ h)
theorem step_copy_runI {P:Program} {ops:Array Oper} {o:Oper} {a:Act} {w:World} {K:Act->World->Prop} {Q:Exit->Act->World->Prop} {E:Prop}
  (hg:o.guard=none) (d x:Operand) (dT sT:TypeId) (hop:o.op=Op.call { callee:=Callee.builtin Builtin.copy,args:=#[d,x],argTypes:=#[dT,sT] })
  (v u:Value) (hd:a.eval d=v) (hx:a.eval x=u) {v':Value} {w':World} (hr:(Builtin.copy_ #[dT,sT] o.type #[v,u]).run P w = .ok v' w') (hK:K (a.put o.dst v') w') :
  if Region.wanted o (yielded ops a.tmps)=true then Oper.wp P o a w K Q else E:=by
 have hw:Region.wanted o (yielded ops a.tmps)=true:=by simp [Region.wanted,hg]
 rw [if_pos hw];unfold Oper.wp;simp [execOp,hop,resolve,invoke,builtin,hd,hx,hr,Result.andThen];exact hK
theorem qx (b:Nat) (vs:List Value) (o:Nat) (w:World) (h:∀ j,j < vs.length->(w.cell? ⟨b,o+j,none⟩).isSome=true) (k:Nat) (hk:(w.cell? ⟨b,k,none⟩).isSome=true):((w.setCells b o vs).cell? ⟨b,k,none⟩).isSome=true:=by
 by_cases hin:o<=k/\k < o+vs.length
 ·have:=World.cell?_setCells_in b vs o w h (k - o) (by omega)
  rw [show o+(k - o)=k by omega] at this
  rw [this]; rfl
 ·rw [World.cell?_setCells_out b vs o w ⟨b,k,none⟩ (fun _ _=>by show k < o \/ o+vs.length<=k; omega)]
  exact hk
set_option maxRecDepth 100000 in
theorem Io (b n c i vb m vc:Nat) (cs vs:List Value) (w:World) (hi:i < n) (hm:0 < m) (hroom:n+m<=c) (hc63:c<=9223372036854775807) (hvb:vb ≠ b)
  (hcl:cs.length=n * 2) (hvl:vs.length=m * 2)
  (hcs:∀ (j:Nat) v,cs[j]? = some v->w.cell? ⟨b,j,none⟩=some v) (hsp:∀ j,j < (n+m) * 2->(w.cell? ⟨b,j,none⟩).isSome=true) (hfz:∀ j,j < (n+m) * 2->w.frozen? ⟨b,j,none⟩=false)
  (hvs:∀ (j:Nat) v,vs[j]? = some v->w.cell? ⟨vb,j,none⟩=some v) (h1c:∀ v ∈ cs,v.oneCell'=true) (h1v:∀ v ∈ vs,v.oneCell'=true)
  (tA tB:TypeId) (kA kB:Nat) (hsa:w.shape? vb=some (tA,kA)) (hsb:w.shape? b=some (tB,kB)) (hkB:kB ≠ 0) (hfa:w.frozen? ⟨vb,0,none⟩=false) (hfe:w.frozen? ⟨vb,kA,none⟩=false) :
  Calls Tryz.prog 240 #[.slice (some ⟨b,0,none⟩) n c,.int .i64 i,.slice (some ⟨vb,0,none⟩) m vc] w fun e w' =>
   e = .returned (.slice (some ⟨b,0,none⟩) (n+m) c)/\w'=(w.drew.setCells b ((i+m) * 2) (cs.drop (i * 2))).setCells b (i * 2) vs:=by
 have hz1:¬ ((m:Int)=0):=by omega
 have hz2:¬ ((i:Int)=(n:Int)):=by omega
 have hsz:(Tryz.prog.info? 119).map (·.size)=some 2:=by kernel_rfl
 have hov:∀ lb cb,(callFunc 271 #[.slice (some ⟨vb,0,none⟩) m vc,.slice (some ⟨b,(i+m) * 2,none⟩) lb cb]).run Tryz.prog w = .ok (.value (.bool false)) w:=fun lb cb=>by
  rw [run_callFunc_extern Tryz.func271 (by kernel_rfl) (by kernel_rfl) (by kernel_rfl) (e:=Extern.SlicesOverlaps.overlaps #[82,82] #[4]) (by kernel_rfl),
   Lib.run_overlaps_apart w 82 4 119 Tryz.underlying82 2 Tryz.sizeOf119 ⟨vb,0,none⟩ ⟨b,(i+m) * 2,none⟩ m vc lb cb hvb tA tB kA kB hsa hsb hkB hfa hfe]
  rfl
 have hdl:(cs.drop (i * 2)).length=(n - i) * 2:=by rw [List.length_drop,hcl]; omega
 have mixed:Tryz.prog.follows .mixedOrders=true:=mixed;have hw1:IntKind.i64.wrap ((i:Int)+(m:Int))=(i:Int)+(m:Int):=by rw [IntKind.wrap_i64]; omega
 have hb1:(0:Int)<=(i:Int)+(m:Int):=by omega
 have hin:i<=n:=by omega
 have htn:((i:Int)+(m:Int)).toNat=i+m:=by omega
 have hb2:¬ (c=i+m):=by omega
 have hb3:(i:Int)<=(n:Int)+(m:Int):=by omega
 have hb4:¬ (c=i):=by omega
 have hcp1:∀ ty dc sc,(Builtin.copy_ #[82,82] ty #[.slice (some ⟨b,(i+m) * 2,none⟩) (n+m - (i+m)) dc,.slice (some ⟨b,i * 2,none⟩) (n+m - i) sc]).run Tryz.prog w.drew = .ok (goInt (Nat.min (n+m - i) (n+m - (i+m)))) (w.drew.setCells b ((i+m) * 2) (cs.drop (i * 2))):=fun ty dc sc =>
  kb 2 w.drew _ _ ty 119 b ((i+m) * 2) (n+m - (i+m)) dc ⟨b,i * 2,none⟩ (n+m - i) sc (cs.drop (i * 2)) Tryz.underlying82 hsz (by rw [hdl]; simp only [Nat.min_def]; split <;> omega)
   (fun j v hj=>by rw [Addr.add_lit]; exact hcs (i * 2+j) v (by rwa [List.getElem?_drop] at hj))
   (fun j hj=>hsp _ (by omega)) (fun j hj=>hfz _ (by omega)) (fun v hv=>h1c v (List.mem_of_mem_drop hv))
 obtain ⟨W1,hW1⟩:∃ W1,W1=w.drew.setCells b ((i+m) * 2) (cs.drop (i * 2)):=⟨_,rfl⟩;have hsp1:∀ k,k < (n+m) * 2->(W1.cell? ⟨b,k,none⟩).isSome=true:=fun k hk=>by
  rw [hW1];exact qx b (cs.drop (i * 2)) ((i+m) * 2) w.drew (fun j hj=>hsp _ (by omega)) _ (hsp k hk)
 have hcp2:∀ (W:World),(∀ x,W.cell? x=W1.cell? x)->(∀ x,W.frozen? x=W1.frozen? x) -> ∀ ty dc,(Builtin.copy_ #[82,82] ty #[.slice (some ⟨b,i * 2,none⟩) (n+m - i) dc,.slice (some ⟨vb,0,none⟩) m vc]).run Tryz.prog W = .ok (goInt (Nat.min m (n+m - i))) (W.setCells b (i * 2) vs):=fun W hWc hWf ty dc =>
  kb 2 W _ _ ty 119 b (i * 2) (n+m - i) dc ⟨vb,0,none⟩ m vc vs Tryz.underlying82 hsz (by rw [hvl]; simp only [Nat.min_def]; split <;> omega)
   (fun j v hj=>by
    rw [Addr.add_lit,Nat.zero_add,hWc,hW1,World.cell?_setCells_out b _ _ _ _ (fun h _=>absurd h hvb)];exact hvs j v hj)
   (fun j hj=>by rw [hWc]; exact hsp1 _ (by omega)) (fun j hj=>by rw [hWf,hW1,World.frozen?_setCells]; exact hfz _ (by omega)) h1v
 rw [<- hW1] at hcp1
 go_enter Tryz.func240,Tryz.ntmps240
 go_wp2_with (simp only [hov])
 go_region_law_o (refine step_copy_runI rfl _ _ 82 82 rfl _ _ (by simp [Act.eval,Act.put]) (by simp [Act.eval,Act.put]) (hcp1 _ _ _) ?_)
 go_wp2_with (at_builtin; refine wpList_copy_runI _ rfl _ _ 82 82 rfl _ _ rfl rfl (hcp2 _ (fun _=>rfl) (fun _=>rfl) _ _) ?_)
 go_ret
 first | exact ⟨rfl,rfl⟩ | exact ⟨rfl,by rw [hW1]⟩
set_option maxRecDepth 100000 in
theorem Am (v1 v2:Value) (base:Option Addr) (n c vb m vc:Nat) (w w':World) (v':Value) (hm:0 < m) (h1:v1 = .slice base n c) (hn:n<=c) (hb:base=none->c=0) (h2:v2 = .slice (some ⟨vb,0,none⟩) m vc)
  (hrun:(Builtin.append_ #[82,82] 82 #[v1,v2]).run Tryz.prog w = .ok v' w') :
  Calls Tryz.prog 240 #[v1,.int .i64 n,v2] w fun e w1=>e = .returned v'/\w1=w':=by
 subst h1 h2;have hz1:¬ ((m:Int)=0):=by omega
 have mixed:Tryz.prog.follows .mixedOrders=true:=mixed
 go_enter Tryz.func240,Tryz.ntmps240
 cases base with
 | none =>
  have h0:=hb rfl;have h00:n=0:=by omega
  subst h0 h00
  go_wp2_with (at_builtin; refine Lib.wpList_append_run _ rfl _ _ _ _ rfl _ _ rfl rfl _ _ hrun ?_)
  go_ret
  exact ⟨rfl,rfl⟩
 | some a =>
  obtain ⟨ab,ao,asp⟩:=a
  go_wp2_with (at_builtin; refine Lib.wpList_append_run _ rfl _ _ _ _ rfl _ _ rfl rfl _ _ hrun ?_)
  all_goals (go_ret; exact ⟨rfl,rfl⟩)
set_option maxRecDepth 100000 in
theorem Il (b n c i vb m vc:Nat) (cs vs:List Value) (w:World) (hi:i < n) (hm:0 < m) (hnc:n<=c) (hroom:c < n+m) (hbig:(n+m) * 40<=140737488355328)
  (hcl:cs.length=n * 2) (hvl:vs.length=m * 2)
  (hcs:∀ (j:Nat) v,cs[j]? = some v->w.cell? ⟨b,j,none⟩=some v)
  (hvs:∀ (j:Nat) v,vs[j]? = some v->w.cell? ⟨vb,j,none⟩=some v) (h1c:∀ v ∈ cs,v.oneCell'=true) (h1v:∀ v ∈ vs,v.oneCell'=true) :
  Calls Tryz.prog 240 #[.slice (some ⟨b,0,none⟩) n c,.int .i64 i,.slice (some ⟨vb,0,none⟩) m vc] w fun e w' =>
   e = .returned (.slice (some ⟨w.heap.size,0,none⟩) (n+m) (grownCap w (n+m) c 119)) /\
   w'=(((w.alloc (.cells ((cs.take (i * 2)).toArray++Builtin.zeroCells #[.string ⟨#[]⟩,.slice none 0 0] (n+m - i)++Builtin.zeroCells #[.string ⟨#[]⟩,.slice none 0 0] (grownCap w (n+m) c 119 - (n+m))) 119)).drew.setCells w.heap.size (i * 2) vs).drew).setCells w.heap.size ((i+m) * 2) (cs.drop (i * 2)):=by
 have mixed:Tryz.prog.follows .mixedOrders=true:=mixed;obtain ⟨i0,hi0,hz0,hzs,hzb⟩:∃ i0,Tryz.prog.info? 119=some i0/\i0.zero=some (.agg #[.string ⟨#[]⟩,.slice none 0 0])/\i0.size=2/\i0.bytes=40 :=
  info_parts (show (Tryz.prog.info? 119).map (fun i=>(i.zero,i.size,i.bytes))=some (some (.agg #[.string ⟨#[]⟩,.slice none 0 0]),2,40) by kernel_rfl)
 have hz1:¬ ((m:Int)=0):=by omega
 have hz2:¬ ((i:Int)=(n:Int)):=by omega
 have hz3:(c:Int) < (n:Int)+(m:Int):=by omega
 have hsz:(Tryz.prog.info? 119).map (·.size)=some 2:=by rw [hi0]; simp [hzs]
 have hbw:b < w.heap.size:=block_lt_of_cell (hcs 0 _ (List.getElem?_eq_getElem (by omega)))
 have hvw:vb < w.heap.size:=block_lt_of_cell (hvs 0 _ (List.getElem?_eq_getElem (by omega)))
 have hkk:(n:Int)+(m:Int) - (i:Int)=((n+m - i:Nat):Int):=by omega
 have hik:i+(n+m - i)=n+m:=by omega
 have hold:(Builtin.firstCells i0.size i (.slice (some ⟨b,0,none⟩) i c)).run Tryz.prog w.drew = .ok (cs.take (i * 2)).toArray w.drew:=by
  rw [hzs];exact run_firstCells_some w.drew 2 i ⟨b,0,none⟩ i c (cs.take (i * 2)) (by rw [List.length_take]; omega) (fun j v hj=>by
   rw [Addr.add_lit];rw [List.getElem?_take] at hj;split at hj
   ·rw [Nat.zero_add]; exact hcs j v hj
   ·cases hj)
 have hrz:∀ ty,(Builtin.append_ #[82,3] ty #[.slice (some ⟨b,0,none⟩) i c,.int .i64 ((n:Int)+(m:Int) - (i:Int))]).run Tryz.prog w =
   .ok (.slice (some ⟨w.heap.size,0,none⟩) (n+m) (grownCap w (n+m) c 119)) (w.drew.alloc (.cells ((cs.take (i * 2)).toArray++Builtin.zeroCells #[.string ⟨#[]⟩,.slice none 0 0] (n+m - i)++Builtin.zeroCells #[.string ⟨#[]⟩,.slice none 0 0] (grownCap w (n+m) c 119 - (n+m))) 119)):=fun ty=>by
  have h:=Lib.run_append_grow_zeros w 82 3 ty 119 i0 _ .i64 .i64 Tryz.underlying82 Tryz.underlying3 hi0 hz0 (some ⟨b,0,none⟩) i c (cs.take (i * 2)) hold (n+m - i) (by omega) (by omega) (by omega) (by omega) (by rw [hzb]; omega) (by rw [hzb,hik]; exact growslice_fits hroom hbig)
  rw [hik] at h;rw [hkk];exact h
 obtain ⟨G,hG⟩:∃ G,G=grownCap w (n+m) c 119:=⟨_,rfl⟩;obtain ⟨ROW,hROW⟩:∃ ROW:Array Value,ROW=(cs.take (i * 2)).toArray++Builtin.zeroCells #[.string ⟨#[]⟩,.slice none 0 0] (n+m - i)++Builtin.zeroCells #[.string ⟨#[]⟩,.slice none 0 0] (G - (n+m)):=⟨_,rfl⟩;rw [<- hG] at hrz ⊢;rw [<- hROW] at hrz ⊢;have hRl:(n+m) * 2<=ROW.size:=by
  rw [hROW];simp [Builtin.zeroCells];omega
 obtain ⟨W1,hW1⟩:∃ W1,W1=w.drew.alloc (.cells ROW 119):=⟨_,rfl⟩;rw [<- hW1] at hrz;have hN:∀ j,j < (n+m) * 2->(W1.cell? ⟨w.heap.size,j,none⟩).isSome=true:=fun j hj=>by rw [hW1,World.cell?_alloc_at (w:=w.drew) ROW _ w.heap.size j rfl,Array.getElem?_eq_getElem (by omega)]; rfl
 have hNf:∀ j,W1.frozen? ⟨w.heap.size,j,none⟩=false:=fun j=>by rw [hW1]; exact World.frozen?_alloc_at (w:=w.drew) ROW _ w.heap.size j rfl
 have hOb:∀ j v,w.cell? ⟨b,j,none⟩=some v->W1.cell? ⟨b,j,none⟩=some v:=fun j v h=>by rw [hW1,World.cell?_alloc_past (w:=w.drew) _ b j hbw]; exact h
 have hOv:∀ j v,w.cell? ⟨vb,j,none⟩=some v->W1.cell? ⟨vb,j,none⟩=some v:=fun j v h=>by rw [hW1,World.cell?_alloc_past (w:=w.drew) _ vb j hvw]; exact h
 have hcpA:∀ (W:World),(∀ x,W.cell? x=W1.cell? x)->(∀ x,W.frozen? x=W1.frozen? x) -> ∀ ty dc,(Builtin.copy_ #[82,82] ty #[.slice (some ⟨w.heap.size,i * 2,none⟩) (n+m - i) dc,.slice (some ⟨vb,0,none⟩) m vc]).run Tryz.prog W = .ok (goInt (Nat.min m (n+m - i))) (W.setCells w.heap.size (i * 2) vs):=fun W hWc hWf ty dc =>
  kb 2 W _ _ ty 119 w.heap.size (i * 2) (n+m - i) dc ⟨vb,0,none⟩ m vc vs Tryz.underlying82 hsz (by rw [hvl]; simp only [Nat.min_def]; split <;> omega)
   (fun j v hj=>by rw [Addr.add_lit,Nat.zero_add,hWc]; exact hOv _ v (hvs j v hj))
   (fun j hj=>by rw [hWc]; exact hN _ (by omega)) (fun j hj=>by rw [hWf]; exact hNf _) h1v
 have hGn:n+m<=G:=by rw [hG]; exact grownCap_ge w _ _ _
 have hG63:G<=9223372036854775807:=by
  have:=grownCap_le_maxLen w (n+m) c 119 (by unfold maxLen; omega)
  rw [<- hG] at this;unfold maxLen at this;omega
 have hGi:¬ (G=i):=by omega
 have hGim:¬ (G=i+m):=by omega
 have hci:¬ (c=i):=by omega
 have hbN:b ≠ w.heap.size:=by omega
 have hdl:(cs.drop (i * 2)).length=(n - i) * 2:=by rw [List.length_drop,hcl]; omega
 have hcpB:∀ (W:World),(∀ x,W.cell? x=(W1.setCells w.heap.size (i * 2) vs).cell? x)->(∀ x,W.frozen? x=(W1.setCells w.heap.size (i * 2) vs).frozen? x) -> ∀ ty dc sc,(Builtin.copy_ #[82,82] ty #[.slice (some ⟨w.heap.size,(i+m) * 2,none⟩) (n+m - (i+m)) dc,.slice (some ⟨b,i * 2,none⟩) (n - i) sc]).run Tryz.prog W = .ok (goInt (Nat.min (n - i) (n+m - (i+m)))) (W.setCells w.heap.size ((i+m) * 2) (cs.drop (i * 2))):=fun W hWc hWf ty dc sc =>
  kb 2 W _ _ ty 119 w.heap.size ((i+m) * 2) (n+m - (i+m)) dc ⟨b,i * 2,none⟩ (n - i) sc (cs.drop (i * 2)) Tryz.underlying82 hsz (by rw [hdl]; simp only [Nat.min_def]; split <;> omega)
   (fun j v hj=>by
    rw [Addr.add_lit,hWc,World.cell?_setCells_out _ _ _ _ _ (fun h _=>absurd h hbN)];exact hOb _ v (hcs (i * 2+j) v (by rwa [List.getElem?_drop] at hj)))
   (fun j hj=>by rw [hWc]; exact qx w.heap.size vs (i * 2) W1 (fun t ht=>hN _ (by omega)) _ (hN _ (by omega)))
   (fun j hj=>by rw [hWf,World.frozen?_setCells]; exact hNf _) (fun v hv=>h1c v (List.mem_of_mem_drop hv))
 subst hW1;have hE1:∀ x,((w.alloc (.cells ROW 119)).drew).cell? x=(w.drew.alloc (.cells ROW 119)).cell? x:=fun x=>rfl;have hE2:∀ x,((w.alloc (.cells ROW 119)).drew).frozen? x=(w.drew.alloc (.cells ROW 119)).frozen? x:=fun x=>rfl;have hF1:∀ x,(((w.alloc (.cells ROW 119)).drew.setCells w.heap.size (i * 2) vs).drew).cell? x=((w.drew.alloc (.cells ROW 119)).setCells w.heap.size (i * 2) vs).cell? x:=fun x=>rfl;have hF2:∀ x,(((w.alloc (.cells ROW 119)).drew.setCells w.heap.size (i * 2) vs).drew).frozen? x=((w.drew.alloc (.cells ROW 119)).setCells w.heap.size (i * 2) vs).frozen? x:=fun x=>rfl;have hw1:IntKind.i64.wrap ((i:Int)+(m:Int))=(i:Int)+(m:Int):=by rw [IntKind.wrap_i64]; omega
 have hb1:(0:Int)<=(i:Int)+(m:Int):=by omega
 have hin:i<=n:=by omega
 have htn:((i:Int)+(m:Int)).toNat=i+m:=by omega
 have hb3:(i:Int)<=(n:Int):=by omega
 clear hkk hik hold hROW hG hRl
 go_enter Tryz.func240,Tryz.ntmps240
 go_wp2_with (first
  | (at_builtin; refine Lib.wpList_append_run _ rfl _ _ _ _ rfl _ _ rfl rfl _ _ (hrz _) ?_)
  | (at_builtin; refine wpList_copy_runI _ rfl _ _ 82 82 rfl _ _ rfl rfl (hcpA _ hE1 hE2 _ _) ?_)
  | (at_builtin; refine wpList_copy_runI _ rfl _ _ 82 82 rfl _ _ rfl rfl (hcpB _ (fun _=>rfl) (fun _=>rfl) _ _ _) ?_))
 go_region_law_o (refine step_copy_runI rfl _ _ 82 82 rfl (.slice (some ⟨w.heap.size,(i+m) * 2,none⟩) (n+m - (i+m)) (G - (i+m))) (.slice (some ⟨b,i * 2,none⟩) (n - i) (c - i)) (by simp [Act.eval,Act.put]) (by simp [Act.eval,Act.put]) (hcpB _ hF1 hF2 3 (G - (i+m)) (c - i)) ?_)
 go_wp2
 go_ret
 exact ⟨rfl,rfl⟩
end Vx
end Go.Proofs.YthgfdbfmnbgkaaaGreatDoor
namespace Go.Proofs.YthgfdbfmnbgkaaaGreatDoor
set_option maxHeartbeats 4000000
namespace Vx
open Go.RowKit
theorem BN {c:Cx} {s:St} {a:Act} {w:World} {β:Nat->Value} {fp:Nat->List (Nat × Nat)} (S:SatI c s a w β fp) (hp:c.pins=[]) {e k:Nat} {R:List (List D)} (h8:s.m 8=some (.own e k true R)) :
  ∃ a',SatI c ⟨fun _=>none,ai [(8,.own e k true R)]⟩ a' w β fp/\RelL w (ai [(8,.own e k true R)]) β c [.own 8 k R] [β 8]:=by
 have hb:BlkOk w (ai [(8,Blk.own e k true R)]) β c 8 (fp 8) (.own e k true R):=by
  obtain ⟨p1,p2,p3⟩:=S.mem 8 _ h8;refine ⟨p1,p2,?_⟩;rcases p3 with p3 | ⟨b',cap,cs,f0,r1,r2,r3,r4,r5,r6,r7,r8⟩
  ·exact .inl p3
  ·exact .inr ⟨b',cap,cs,f0,r1,r2,r3,r4,r5,r6,r7,by simp⟩
 refine ⟨⟨Array.replicate c.n undef,[]⟩,⟨?_,?_,?_,?_,?_,S.fg,S.old,S.os,S.tape,S.output,S.size,rfl,by simp,by simp [hp]⟩,?_⟩
 ·intro t g av h; cases h
 ·intro h blk hm; obtain ⟨rfl,rfl⟩:=dW hm; exact hb
 ·intro h blk hm; obtain ⟨rfl,rfl⟩:=dW hm; exact S.nodup 8 _ h8
 ·intro h h' blk blk' hm hm' hne; obtain ⟨rfl,rfl⟩:=dW hm; obtain ⟨rfl,rfl⟩:=dW hm'; exact absurd rfl hne
 ·intro h blk hm x hx; obtain ⟨rfl,rfl⟩:=dW hm; exact S.free 8 _ h8 x hx
 ·exact iu (h:=8) (fps:=fp) rfl hb (S.nodup 8 _ h8) (fun h' blk' hm hne=>by obtain ⟨rfl,rfl⟩:=dW hm; exact absurd rfl hne) (S.free 8 _ h8)
def en (l:List FileD) (i:Nat) (f:FileD):List FileD:=l.take i++(f :: l.drop i)
theorem GX (l:List FileD) (i:Nat) (f:FileD):(ac l).take i++(ac [f]++(ac l).drop i)=ac (en l i f):=by simp [ac,en,List.map_take,List.map_drop]
theorem kg {w:World} {b:Nat} {cs:Array Value} {ty:Nat} {n:Nat} (h:w.heap[b]? = some (.cells cs ty (0,0))):∀ (j:Nat) v,(cs.toList.take n)[j]? = some v->w.cell? ⟨b,j,none⟩=some v:=by
 intro j v hj;rw [World.cell_of h];rw [List.getElem?_take] at hj;split at hj
 ·simpa using hj
 ·cases hj
theorem Ao {L olds news R:List Value} {i n:Nat} (hLl:(n+1) * 2<=L.length) (ho:olds.length=n * 2) (hn:news.length=2) (hi:i<=n) (hL:L.take (i * 2)=olds.take (i * 2)) :
  (((L.take ((i+1) * 2)++(olds.drop (i * 2)++R)).take (i * 2))++(news++((L.take ((i+1) * 2)++(olds.drop (i * 2)++R)).drop (i * 2+news.length)))).take ((n+1) * 2)=olds.take (i * 2)++(news++olds.drop (i * 2)):=by
 have hl:(L.take ((i+1) * 2)).length=(i+1) * 2:=by rw [List.length_take]; omega
 have a1:(L.take ((i+1) * 2)++(olds.drop (i * 2)++R)).take (i * 2)=olds.take (i * 2):=by rw [List.take_append_of_le_length (by omega),List.take_take,Nat.min_eq_left (by omega),hL]
 have a2:(L.take ((i+1) * 2)++(olds.drop (i * 2)++R)).drop (i * 2+news.length)=olds.drop (i * 2)++R:=List.drop_left' (by omega)
 rw [a1,a2];rw [show olds.take (i * 2)++(news++(olds.drop (i * 2)++R))=(olds.take (i * 2)++(news++olds.drop (i * 2)))++R by simp]
 exact List.take_left' (by simp only [List.length_append,List.length_take,List.length_drop]; omega)
theorem Ap {L olds news R:List Value} {i n m:Nat} (hLl:(n+1) * 2<=L.length) (ho:olds.length=n * 2) (hn:news.length=2) (hi:i<=n) (hL:L.take (i * 2)=olds.take (i * 2)) :
  (((L.take (i * 2)++(news++L.drop m)).take ((i+1) * 2))++(olds.drop (i * 2)++R)).take ((n+1) * 2)=olds.take (i * 2)++(news++olds.drop (i * 2)):=by
 have hl:(L.take (i * 2)).length=i * 2:=by rw [List.length_take]; omega
 have a1:(L.take (i * 2)++(news++L.drop m)).take ((i+1) * 2)=olds.take (i * 2)++news:=by
  rw [<- List.append_assoc,hL];rw [hL] at hl;exact List.take_left' (by rw [List.length_append]; omega)
 rw [a1];rw [show (olds.take (i * 2)++news)++(olds.drop (i * 2)++R)=(olds.take (i * 2)++(news++olds.drop (i * 2)))++R by simp]
 exact List.take_left' (by simp only [List.length_append,List.length_take,List.length_drop]; omega)
def cInsF:Con:={ A:=List FileD × Nat × FileD,X:=Unit,n:=95,args:=fun a=>[.own 0 2 (ac a.1),.int .i64 a.2.1,.own 1 2 (ac [a.2.2])],boxes:=fun _=>[],pre:=fun a=>a.2.1<=a.1.length/\a.1.length<=1048576,post:=fun _ _=>True,res:=fun a _=>.own 8 2 (ac (en a.1 a.2.1 a.2.2)),fin:=fun a _=>[(8,.own 119 2 true (ac (en a.1 a.2.1 a.2.2)))],owns:=fun a=>[(0,119,2,ac a.1),(1,119,2,ac [a.2.2])],mv:=true }
theorem Im:Has Tryz.prog 240 cInsF:=by
 refine ⟨fun args w=>Go.MuLone.run_callFunc_enter Tryz.func240 (by kernel_rfl) rfl args w,fun _=>⟨(),trivial⟩,fun _ _=>rfl,?_,trivial,.inl rfl⟩
 rintro ⟨l,i,f⟩ ⟨h1,h2⟩ c _ vs β fp hn hpin hlen hlen2 S;replace h1:i<=l.length:=h1;replace h2:l.length<=1048576:=h2;have hp:c.pins=[]:=hpin;have hr:=li hlen S;obtain ⟨v0,vs1,rfl,r0,hr⟩:=hr.uncons;obtain ⟨v1,vs2,rfl,r1,hr⟩:=hr.uncons;obtain ⟨v2,vs3,rfl,r2,hr⟩:=hr.uncons;cases hr;have m0:(cInsF.start2 (l,i,f)).m 0=some (.own 119 2 true (ac l)):=rfl;have m1:(cInsF.start2 (l,i,f)).m 1=some (.own 119 2 true (ac [f])):=rfl;have m8:(cInsF.start2 (l,i,f)).m 8=none:=rfl;have e0:v0 = β 0:=by cases r0 with | own _ _ h3 _=>exact (h3 _ _ _ _ m0).1
 have e2:v2 = β 1:=by cases r2 with | own _ _ h3 _=>exact (h3 _ _ _ _ m1).1
 have e1:v1 = .int .i64 i:=by cases r1; rfl
 subst e1;obtain ⟨_,hR1,B1⟩:=S.mem 1 _ m1;rcases B1 with ⟨_,hc,_⟩ | ⟨b1,cap1,cs1,f1,q1,q2,q3,q4,q5,q6,q7,_⟩
 ·simp [ac] at hc
 have q7:=q7 rfl;have hl1:(ac [f]).length=1:=rfl;rw [hl1] at q1 q3 q6;have hm1:(ac [f]).flatten=aq f:=by simp [ac]
 have fin:∀ {v':Value} {w':World},(∃ β' fp' a',SatI c ⟨fun _=>none,ai [(8,.own 119 2 true (ac (en l i f)))]⟩ a' w' β' fp'/\RelL w' (ai [(8,.own 119 2 true (ac (en l i f)))]) β' c [.own 8 2 (ac (en l i f))] [v']) ->
   ∃ x,cInsF.post (l,i,f) x /\ ∃ v,Ending.returned v'=Ending.returned v /\ ∃ β' fp' a',SatI c (cInsF.end_ (l,i,f) x) a' w' β' fp'/\RelL w' (ai (cInsF.fin (l,i,f) x)) β' c [cInsF.res (l,i,f) x] [v] :=
  fun ⟨β',fp',a',g1,g2⟩=>⟨(),trivial,_,rfl,β',fp',a',g1,g2⟩
 by_cases hin:i=l.length
 ·-- at the end
  have hap:=sq (P:=Tryz.prog) aw S (ty:=82) (d:=8) (K:=fun av m=>av = .own 8 2 (ac l++ac [f])/\m 8=some (.own 119 2 true (ac l++ac [f]))) (t:=82) (t2:=82) r0 r2 (by
   simp -implicitDefEqProofs [cInsF,fy,ag,bi,AV.base,AV.moved,m0,m1,m8,TI.flat,jF];omega)
  obtain ⟨v',w',av,m,β',fp',g1,⟨rfl,hm8⟩,g3,g4⟩:=hap;have hins:ac l++ac [f]=ac (en l i f):=by subst hin; simp [ac,en]
  have hlast:=BN g3 hp (e:=119) (k:=2) (R:=ac l++ac [f]) hm8;obtain ⟨a',s1,s2⟩:=hlast;have hv:v' = β' 8:=by cases g4 with | own _ _ h3 _=>exact (h3 119 2 true (ac l++ac [f]) hm8).1
  rw [<- hv] at s2;rw [hins] at s1 s2;have hcall:Calls Tryz.prog 240 #[v0,.int .i64 i,v2] c.w0 fun e w1=>e = .returned v'/\w1=w':=by
   obtain ⟨_,_,B0⟩:=S.mem 0 _ m0;subst hin;rcases B0 with ⟨p1,p2,p3⟩ | ⟨b,cap,cs,f0,p1,p2,p3,p4,p5,p6,p7,_⟩
   ·have:l=[]:=by cases l with | nil=>rfl | cons=>simp [ac] at p2
    subst this;exact Am v0 v2 none 0 0 b1 1 cap1 c.w0 w' v' (by omega) (by rw [e0,p1]) (by omega) (by simp) (by rw [e2,q1]) g1
   ·rw [eFiles_length] at p1 p3;exact Am v0 v2 (some ⟨b,0,none⟩) l.length cap b1 1 cap1 c.w0 w' v' (by omega) (by rw [e0,p1]) p3 (by simp) (by rw [e2,q1]) g1
  refine hcall.mono ?_;rintro e w1 ⟨rfl,rfl⟩;exact fin ⟨β',fp',a',s1,s2⟩
 ·have hlt:i < l.length:=by omega
  obtain ⟨_,hR0,B0⟩:=S.mem 0 _ m0;rcases B0 with ⟨_,p2,_⟩ | ⟨b,cap,cs,f0,p1,p2,p3,p4,p5,p6,p7,_⟩
  ·exfalso;have:l.length=0:=by rw [<- eFiles_length,p2]; rfl
   omega
  have p7:=p7 rfl;rw [eFiles_length] at p1 p3 p6;have hcsl:cs.toList.length=cap * 2:=by rw [Array.length_toList,p5]
  have hcsl1:cs1.toList.length=cap1 * 2:=by rw [Array.length_toList,q5]
  have hcl:(cs.toList.take (l.length * 2)).length=l.length * 2:=by rw [List.length_take,hcsl]; omega
  have hvl:(cs1.toList.take (1 * 2)).length=1 * 2:=by rw [List.length_take,hcsl1]; omega
  have hvb:b1 ≠ b:=fun e=>S.disj 0 1 _ _ m0 m1 (by decide) b (by simp [Ob,p1]) (by simp [Ob,q1,e])
  have hI:=fun {w':World} {b' cap':Nat} {cs':Array Value} hblk hcap hmax hsz hcells hb' hother hsize hos htape hout =>
   Aq (w':=w') (b':=b') (cap':=cap') (cs':=cs') (i:=i) S hp m0 m1 (by rw [eFiles_length]; exact h1) (by rw [p7]; exact p6) (by rw [q7]; exact q6) hblk hcap hmax hsz hcells hb' hother hsize hos htape hout
  rw [eFiles_length,hl1] at hI;rw [GX] at hI;have hother0:∀ x,(∀ n cc,β 0 ≠ .slice (some ⟨x,0,none⟩) n cc)->x ≠ b:=fun x h e=>h l.length cap (by rw [e]; exact p1)
  by_cases hroom:l.length+1<=cap
  ·have hcall:=Io b l.length cap i b1 1 cap1 (cs.toList.take (l.length * 2)) (cs1.toList.take (1 * 2)) c.w0 hlt (by omega) hroom (by unfold maxLen at p4; omega) hvb hcl hvl (kg p2)
    (fun j hj=>by rw [World.cell_of p2,Array.getElem?_eq_getElem (show j < cs.size by omega)]; rfl) (fun j hj=>by simp [World.frozen?,p2]) (kg q2) p6.oneCell q6.oneCell
    _ _ _ _ (by simp [World.shape?,q2]; exact ⟨rfl,rfl⟩) (by simp [World.shape?,p2]; exact ⟨rfl,rfl⟩) (by rw [p5]; omega) (by simp [World.frozen?,q2]) (by simp [World.frozen?,q2])
   rw [e0,e2,p1,q1];refine hcall.mono ?_;rintro e w' ⟨rfl,rfl⟩;have hcs:cs=cs.toList.toArray:=by simp
   have hb0:c.w0.drew.heap[b]? = some (.cells cs.toList.toArray 119 (0,0)):=by rw [<- hcs]; exact p2
   have hdl:((cs.toList.take (l.length * 2)).drop (i * 2)).length=(l.length - i) * 2:=by rw [List.length_drop,hcl]; omega
   obtain ⟨z1,z2,z3,z4,z5,z6⟩:=fT b ((cs.toList.take (l.length * 2)).drop (i * 2)) ((i+1) * 2) c.w0.drew cs.toList _ _ hb0 (by rw [hdl,hcsl]; omega)
   obtain ⟨y1,y2,y3,y4,y5,y6⟩:=fT b (cs1.toList.take (1 * 2)) (i * 2) _ _ _ _ z1 (by rw [hvl]; simp; omega)
   refine fin (hI y1 hroom p4 ?_ ?_ (.inr ⟨_,_,p1⟩) (fun x _ hx=>(y2 x (hother0 x hx)).trans (z2 x (hother0 x hx))) ?_ (y4.trans z4) (y5.trans z5) (y6.trans z6))
   ·simp only [List.size_toArray]; simp; omega
   ·rw [List.toList_toArray];exact Ao (by omega) hcl (by simpa using hvl) h1 (by rw [List.take_take,Nat.min_eq_left (by omega)])
   ·rw [y3,z3]; exact Nat.le_refl _
  ·have hcall:=Il b l.length cap i b1 1 cap1 (cs.toList.take (l.length * 2)) (cs1.toList.take (1 * 2)) c.w0 hlt (by omega) p3 (by omega) (by omega) hcl hvl (kg p2) (kg q2) p6.oneCell q6.oneCell
   rw [e0,e2,p1,q1];refine hcall.mono ?_;rintro e w' ⟨rfl,rfl⟩;have hGn:l.length+1<=grownCap c.w0 (l.length+1) cap 119:=grownCap_ge c.w0 _ _ _;have hGm:=grownCap_le_maxLen c.w0 (l.length+1) cap 119 (by unfold maxLen; omega)
   generalize grownCap c.w0 (l.length+1) cap 119=G at hGn hGm ⊢;generalize hrow:((cs.toList.take (l.length * 2)).take (i * 2)).toArray++Builtin.zeroCells #[.string ⟨#[]⟩,.slice none 0 0] (l.length+1 - i)++Builtin.zeroCells #[.string ⟨#[]⟩,.slice none 0 0] (G - (l.length+1))=ROW;have hrl:ROW.size=G * 2:=by
    rw [<- hrow];simp [Builtin.zeroCells];omega
   have hrt:ROW.toList.take (i * 2)=(cs.toList.take (l.length * 2)).take (i * 2):=by
    rw [<- hrow];simp only [Array.toList_append,List.append_assoc];rw [List.take_left' (by rw [List.length_take,hcl]; omega)]
   have hrl2:ROW.toList.length=G * 2:=by rw [Array.length_toList,hrl]
   have hb0:(c.w0.alloc (.cells ROW 119)).drew.heap[c.w0.heap.size]? = some (.cells ROW.toList.toArray 119 (0,0)):=by
    have:ROW=ROW.toList.toArray:=by simp
    rw [<- this];exact heap_alloc_new c.w0 _
   have hdl:((cs.toList.take (l.length * 2)).drop (i * 2)).length=(l.length - i) * 2:=by rw [List.length_drop,hcl]; omega
   obtain ⟨z1,z2,z3,z4,z5,z6⟩:=fT c.w0.heap.size (cs1.toList.take (1 * 2)) (i * 2) (c.w0.alloc (.cells ROW 119)).drew ROW.toList _ _ hb0 (by rw [hvl,hrl2]; omega)
   obtain ⟨y1,y2,y3,y4,y5,y6⟩:=fT c.w0.heap.size ((cs.toList.take (l.length * 2)).drop (i * 2)) ((i+1) * 2) ((c.w0.alloc (.cells ROW 119)).drew.setCells c.w0.heap.size (i * 2) (cs1.toList.take (1 * 2))).drew _ _ _ z1 (by
    rw [hdl];simp only [List.length_append,List.length_take,List.length_drop,hrl2,hcsl1];omega)
   refine fin (hI y1 hGn hGm ?_ ?_ (.inl (Nat.le_refl _)) (fun x hx _=>(y2 x (by omega)).trans ((z2 x (by omega)).trans (heap_alloc_old c.w0 _ hx))) ?_ (y4.trans z4) (y5.trans z5) (y6.trans z6))
   ·simp only [List.size_toArray,List.length_append,List.length_take,List.length_drop,hrl2,hcsl1,hcsl];omega
   ·rw [List.toList_toArray];exact Ap (by omega) hcl (by simpa using hvl) h1 hrt
   ·rw [y3]
    show _<=(World.setCells _ _ _ _).heap.size
    rw [z3]
    show _<=(c.w0.alloc _).heap.size
    simp
end Vx
end Go.Proofs.YthgfdbfmnbgkaaaGreatDoor
namespace Go.Proofs.YthgfdbfmnbgkaaaGreatDoor
set_option maxHeartbeats 4000000
namespace Vx
open Go.RowKit Go.Lib
set_option maxRecDepth 100000 in
theorem Ir (b n c i vb m vc:Nat) (cs vs:List Value) (w:World) (hi:i < n) (hm:0 < m) (hroom:n+m<=c) (hc63:c<=9223372036854775807) (hvb:vb ≠ b)
  (hcl:cs.length=n * 2) (hvl:vs.length=m * 2)
  (hcs:∀ (j:Nat) v,cs[j]? = some v->w.cell? ⟨b,j,none⟩=some v) (hsp:∀ j,j < (n+m) * 2->(w.cell? ⟨b,j,none⟩).isSome=true) (hfz:∀ j,j < (n+m) * 2->w.frozen? ⟨b,j,none⟩=false)
  (hvs:∀ (j:Nat) v,vs[j]? = some v->w.cell? ⟨vb,j,none⟩=some v) (h1c:∀ v ∈ cs,v.oneCell'=true) (h1v:∀ v ∈ vs,v.oneCell'=true)
  (tA tB:TypeId) (kA kB:Nat) (hsa:w.shape? vb=some (tA,kA)) (hsb:w.shape? b=some (tB,kB)) (hkB:kB ≠ 0) (hfa:w.frozen? ⟨vb,0,none⟩=false) (hfe:w.frozen? ⟨vb,kA,none⟩=false) :
  Calls Tryz.prog 225 #[.slice (some ⟨b,0,none⟩) n c,.int .i64 i,.slice (some ⟨vb,0,none⟩) m vc] w fun e w' =>
   e = .returned (.slice (some ⟨b,0,none⟩) (n+m) c)/\w'=(w.drew.setCells b ((i+m) * 2) (cs.drop (i * 2))).setCells b (i * 2) vs:=by
 have hz1:¬ ((m:Int)=0):=by omega
 have hz2:¬ ((i:Int)=(n:Int)):=by omega
 have hsz:(Tryz.prog.info? 96).map (·.size)=some 2:=by kernel_rfl
 have hov:∀ lb cb,(callFunc 260 #[.slice (some ⟨vb,0,none⟩) m vc,.slice (some ⟨b,(i+m) * 2,none⟩) lb cb]).run Tryz.prog w = .ok (.value (.bool false)) w:=fun lb cb=>by
  rw [run_callFunc_extern Tryz.func260 (by kernel_rfl) (by kernel_rfl) (by kernel_rfl) (e:=Extern.SlicesOverlaps.overlaps #[33,33] #[4]) (by kernel_rfl),
   Lib.run_overlaps_apart w 33 4 96 Tryz.underlying33 2 Tryz.sizeOf96 ⟨vb,0,none⟩ ⟨b,(i+m) * 2,none⟩ m vc lb cb hvb tA tB kA kB hsa hsb hkB hfa hfe]
  rfl
 have hdl:(cs.drop (i * 2)).length=(n - i) * 2:=by rw [List.length_drop,hcl]; omega
 have mixed:Tryz.prog.follows .mixedOrders=true:=mixed;have hw1:IntKind.i64.wrap ((i:Int)+(m:Int))=(i:Int)+(m:Int):=by rw [IntKind.wrap_i64]; omega
 have hb1:(0:Int)<=(i:Int)+(m:Int):=by omega
 have hin:i<=n:=by omega
 have htn:((i:Int)+(m:Int)).toNat=i+m:=by omega
 have hb2:¬ (c=i+m):=by omega
 have hb3:(i:Int)<=(n:Int)+(m:Int):=by omega
 have hb4:¬ (c=i):=by omega
 have hcp1:∀ ty dc sc,(Builtin.copy_ #[33,33] ty #[.slice (some ⟨b,(i+m) * 2,none⟩) (n+m - (i+m)) dc,.slice (some ⟨b,i * 2,none⟩) (n+m - i) sc]).run Tryz.prog w.drew = .ok (goInt (Nat.min (n+m - i) (n+m - (i+m)))) (w.drew.setCells b ((i+m) * 2) (cs.drop (i * 2))):=fun ty dc sc =>
  kb 2 w.drew _ _ ty 96 b ((i+m) * 2) (n+m - (i+m)) dc ⟨b,i * 2,none⟩ (n+m - i) sc (cs.drop (i * 2)) Tryz.underlying33 hsz (by rw [hdl]; simp only [Nat.min_def]; split <;> omega)
   (fun j v hj=>by rw [Addr.add_lit]; exact hcs (i * 2+j) v (by rwa [List.getElem?_drop] at hj))
   (fun j hj=>hsp _ (by omega)) (fun j hj=>hfz _ (by omega)) (fun v hv=>h1c v (List.mem_of_mem_drop hv))
 obtain ⟨W1,hW1⟩:∃ W1,W1=w.drew.setCells b ((i+m) * 2) (cs.drop (i * 2)):=⟨_,rfl⟩;have hsp1:∀ k,k < (n+m) * 2->(W1.cell? ⟨b,k,none⟩).isSome=true:=fun k hk=>by
  rw [hW1];exact qx b (cs.drop (i * 2)) ((i+m) * 2) w.drew (fun j hj=>hsp _ (by omega)) _ (hsp k hk)
 have hcp2:∀ (W:World),(∀ x,W.cell? x=W1.cell? x)->(∀ x,W.frozen? x=W1.frozen? x) -> ∀ ty dc,(Builtin.copy_ #[33,33] ty #[.slice (some ⟨b,i * 2,none⟩) (n+m - i) dc,.slice (some ⟨vb,0,none⟩) m vc]).run Tryz.prog W = .ok (goInt (Nat.min m (n+m - i))) (W.setCells b (i * 2) vs):=fun W hWc hWf ty dc =>
  kb 2 W _ _ ty 96 b (i * 2) (n+m - i) dc ⟨vb,0,none⟩ m vc vs Tryz.underlying33 hsz (by rw [hvl]; simp only [Nat.min_def]; split <;> omega)
   (fun j v hj=>by
    rw [Addr.add_lit,Nat.zero_add,hWc,hW1,World.cell?_setCells_out b _ _ _ _ (fun h _=>absurd h hvb)];exact hvs j v hj)
   (fun j hj=>by rw [hWc]; exact hsp1 _ (by omega)) (fun j hj=>by rw [hWf,hW1,World.frozen?_setCells]; exact hfz _ (by omega)) h1v
 rw [<- hW1] at hcp1
 go_enter Tryz.func225,Tryz.ntmps225
 go_wp2_with (simp only [hov])
 go_region_law_o (refine step_copy_runI rfl _ _ 33 33 rfl _ _ (by simp [Act.eval,Act.put]) (by simp [Act.eval,Act.put]) (hcp1 _ _ _) ?_)
 go_wp2_with (at_builtin; refine wpList_copy_runI _ rfl _ _ 33 33 rfl _ _ rfl rfl (hcp2 _ (fun _=>rfl) (fun _=>rfl) _ _) ?_)
 go_ret
 first | exact ⟨rfl,rfl⟩ | exact ⟨rfl,by rw [hW1]⟩
set_option maxRecDepth 100000 in
theorem An (v1 v2:Value) (base:Option Addr) (n c vb m vc:Nat) (w w':World) (v':Value) (hm:0 < m) (h1:v1 = .slice base n c) (hn:n<=c) (hb:base=none->c=0) (h2:v2 = .slice (some ⟨vb,0,none⟩) m vc)
  (hrun:(Builtin.append_ #[33,33] 33 #[v1,v2]).run Tryz.prog w = .ok v' w') :
  Calls Tryz.prog 225 #[v1,.int .i64 n,v2] w fun e w1=>e = .returned v'/\w1=w':=by
 subst h1 h2;have hz1:¬ ((m:Int)=0):=by omega
 have mixed:Tryz.prog.follows .mixedOrders=true:=mixed
 go_enter Tryz.func225,Tryz.ntmps225
 cases base with
 | none =>
  have h0:=hb rfl;have h00:n=0:=by omega
  subst h0 h00
  go_wp2_with (at_builtin; refine Lib.wpList_append_run _ rfl _ _ _ _ rfl _ _ rfl rfl _ _ hrun ?_)
  go_ret
  exact ⟨rfl,rfl⟩
 | some a =>
  obtain ⟨ab,ao,asp⟩:=a
  go_wp2_with (at_builtin; refine Lib.wpList_append_run _ rfl _ _ _ _ rfl _ _ rfl rfl _ _ hrun ?_)
  all_goals (go_ret; exact ⟨rfl,rfl⟩)
set_option maxRecDepth 100000 in
theorem Ip (b n c i vb m vc:Nat) (cs vs:List Value) (w:World) (hi:i < n) (hm:0 < m) (hnc:n<=c) (hroom:c < n+m) (hbig:(n+m) * 24<=140737488355328)
  (hcl:cs.length=n * 2) (hvl:vs.length=m * 2)
  (hcs:∀ (j:Nat) v,cs[j]? = some v->w.cell? ⟨b,j,none⟩=some v)
  (hvs:∀ (j:Nat) v,vs[j]? = some v->w.cell? ⟨vb,j,none⟩=some v) (h1c:∀ v ∈ cs,v.oneCell'=true) (h1v:∀ v ∈ vs,v.oneCell'=true) :
  Calls Tryz.prog 225 #[.slice (some ⟨b,0,none⟩) n c,.int .i64 i,.slice (some ⟨vb,0,none⟩) m vc] w fun e w' =>
   e = .returned (.slice (some ⟨w.heap.size,0,none⟩) (n+m) (grownCap w (n+m) c 96)) /\
   w'=(((w.alloc (.cells ((cs.take (i * 2)).toArray++Builtin.zeroCells #[.string ⟨#[]⟩,.int .i64 0] (n+m - i)++Builtin.zeroCells #[.string ⟨#[]⟩,.int .i64 0] (grownCap w (n+m) c 96 - (n+m))) 96)).drew.setCells w.heap.size (i * 2) vs).drew).setCells w.heap.size ((i+m) * 2) (cs.drop (i * 2)):=by
 have mixed:Tryz.prog.follows .mixedOrders=true:=mixed;obtain ⟨i0,hi0,hz0,hzs,hzb⟩:∃ i0,Tryz.prog.info? 96=some i0/\i0.zero=some (.agg #[.string ⟨#[]⟩,.int .i64 0])/\i0.size=2/\i0.bytes=24 :=
  info_parts (show (Tryz.prog.info? 96).map (fun i=>(i.zero,i.size,i.bytes))=some (some (.agg #[.string ⟨#[]⟩,.int .i64 0]),2,24) by kernel_rfl)
 have hz1:¬ ((m:Int)=0):=by omega
 have hz2:¬ ((i:Int)=(n:Int)):=by omega
 have hz3:(c:Int) < (n:Int)+(m:Int):=by omega
 have hsz:(Tryz.prog.info? 96).map (·.size)=some 2:=by rw [hi0]; simp [hzs]
 have hbw:b < w.heap.size:=block_lt_of_cell (hcs 0 _ (List.getElem?_eq_getElem (by omega)))
 have hvw:vb < w.heap.size:=block_lt_of_cell (hvs 0 _ (List.getElem?_eq_getElem (by omega)))
 have hkk:(n:Int)+(m:Int) - (i:Int)=((n+m - i:Nat):Int):=by omega
 have hik:i+(n+m - i)=n+m:=by omega
 have hold:(Builtin.firstCells i0.size i (.slice (some ⟨b,0,none⟩) i c)).run Tryz.prog w.drew = .ok (cs.take (i * 2)).toArray w.drew:=by
  rw [hzs];exact run_firstCells_some w.drew 2 i ⟨b,0,none⟩ i c (cs.take (i * 2)) (by rw [List.length_take]; omega) (fun j v hj=>by
   rw [Addr.add_lit];rw [List.getElem?_take] at hj;split at hj
   ·rw [Nat.zero_add]; exact hcs j v hj
   ·cases hj)
 have hrz:∀ ty,(Builtin.append_ #[33,3] ty #[.slice (some ⟨b,0,none⟩) i c,.int .i64 ((n:Int)+(m:Int) - (i:Int))]).run Tryz.prog w =
   .ok (.slice (some ⟨w.heap.size,0,none⟩) (n+m) (grownCap w (n+m) c 96)) (w.drew.alloc (.cells ((cs.take (i * 2)).toArray++Builtin.zeroCells #[.string ⟨#[]⟩,.int .i64 0] (n+m - i)++Builtin.zeroCells #[.string ⟨#[]⟩,.int .i64 0] (grownCap w (n+m) c 96 - (n+m))) 96)):=fun ty=>by
  have h:=Lib.run_append_grow_zeros w 33 3 ty 96 i0 _ .i64 .i64 Tryz.underlying33 Tryz.underlying3 hi0 hz0 (some ⟨b,0,none⟩) i c (cs.take (i * 2)) hold (n+m - i) (by omega) (by omega) (by omega) (by omega) (by rw [hzb]; omega) (by rw [hzb,hik]; exact growslice_fits hroom hbig)
  rw [hik] at h;rw [hkk];exact h
 obtain ⟨G,hG⟩:∃ G,G=grownCap w (n+m) c 96:=⟨_,rfl⟩;obtain ⟨ROW,hROW⟩:∃ ROW:Array Value,ROW=(cs.take (i * 2)).toArray++Builtin.zeroCells #[.string ⟨#[]⟩,.int .i64 0] (n+m - i)++Builtin.zeroCells #[.string ⟨#[]⟩,.int .i64 0] (G - (n+m)):=⟨_,rfl⟩;rw [<- hG] at hrz ⊢;rw [<- hROW] at hrz ⊢;have hRl:(n+m) * 2<=ROW.size:=by
  rw [hROW];simp [Builtin.zeroCells];omega
 obtain ⟨W1,hW1⟩:∃ W1,W1=w.drew.alloc (.cells ROW 96):=⟨_,rfl⟩;rw [<- hW1] at hrz;have hN:∀ j,j < (n+m) * 2->(W1.cell? ⟨w.heap.size,j,none⟩).isSome=true:=fun j hj=>by rw [hW1,World.cell?_alloc_at (w:=w.drew) ROW _ w.heap.size j rfl,Array.getElem?_eq_getElem (by omega)]; rfl
 have hNf:∀ j,W1.frozen? ⟨w.heap.size,j,none⟩=false:=fun j=>by rw [hW1]; exact World.frozen?_alloc_at (w:=w.drew) ROW _ w.heap.size j rfl
 have hOb:∀ j v,w.cell? ⟨b,j,none⟩=some v->W1.cell? ⟨b,j,none⟩=some v:=fun j v h=>by rw [hW1,World.cell?_alloc_past (w:=w.drew) _ b j hbw]; exact h
 have hOv:∀ j v,w.cell? ⟨vb,j,none⟩=some v->W1.cell? ⟨vb,j,none⟩=some v:=fun j v h=>by rw [hW1,World.cell?_alloc_past (w:=w.drew) _ vb j hvw]; exact h
 have hcpA:∀ (W:World),(∀ x,W.cell? x=W1.cell? x)->(∀ x,W.frozen? x=W1.frozen? x) -> ∀ ty dc,(Builtin.copy_ #[33,33] ty #[.slice (some ⟨w.heap.size,i * 2,none⟩) (n+m - i) dc,.slice (some ⟨vb,0,none⟩) m vc]).run Tryz.prog W = .ok (goInt (Nat.min m (n+m - i))) (W.setCells w.heap.size (i * 2) vs):=fun W hWc hWf ty dc =>
  kb 2 W _ _ ty 96 w.heap.size (i * 2) (n+m - i) dc ⟨vb,0,none⟩ m vc vs Tryz.underlying33 hsz (by rw [hvl]; simp only [Nat.min_def]; split <;> omega)
   (fun j v hj=>by rw [Addr.add_lit,Nat.zero_add,hWc]; exact hOv _ v (hvs j v hj))
   (fun j hj=>by rw [hWc]; exact hN _ (by omega)) (fun j hj=>by rw [hWf]; exact hNf _) h1v
 have hGn:n+m<=G:=by rw [hG]; exact grownCap_ge w _ _ _
 have hG63:G<=9223372036854775807:=by
  have:=grownCap_le_maxLen w (n+m) c 96 (by unfold maxLen; omega)
  rw [<- hG] at this;unfold maxLen at this;omega
 have hGi:¬ (G=i):=by omega
 have hGim:¬ (G=i+m):=by omega
 have hci:¬ (c=i):=by omega
 have hbN:b ≠ w.heap.size:=by omega
 have hdl:(cs.drop (i * 2)).length=(n - i) * 2:=by rw [List.length_drop,hcl]; omega
 have hcpB:∀ (W:World),(∀ x,W.cell? x=(W1.setCells w.heap.size (i * 2) vs).cell? x)->(∀ x,W.frozen? x=(W1.setCells w.heap.size (i * 2) vs).frozen? x) -> ∀ ty dc sc,(Builtin.copy_ #[33,33] ty #[.slice (some ⟨w.heap.size,(i+m) * 2,none⟩) (n+m - (i+m)) dc,.slice (some ⟨b,i * 2,none⟩) (n - i) sc]).run Tryz.prog W = .ok (goInt (Nat.min (n - i) (n+m - (i+m)))) (W.setCells w.heap.size ((i+m) * 2) (cs.drop (i * 2))):=fun W hWc hWf ty dc sc =>
  kb 2 W _ _ ty 96 w.heap.size ((i+m) * 2) (n+m - (i+m)) dc ⟨b,i * 2,none⟩ (n - i) sc (cs.drop (i * 2)) Tryz.underlying33 hsz (by rw [hdl]; simp only [Nat.min_def]; split <;> omega)
   (fun j v hj=>by
    rw [Addr.add_lit,hWc,World.cell?_setCells_out _ _ _ _ _ (fun h _=>absurd h hbN)];exact hOb _ v (hcs (i * 2+j) v (by rwa [List.getElem?_drop] at hj)))
   (fun j hj=>by rw [hWc]; exact qx w.heap.size vs (i * 2) W1 (fun t ht=>hN _ (by omega)) _ (hN _ (by omega)))
   (fun j hj=>by rw [hWf,World.frozen?_setCells]; exact hNf _) (fun v hv=>h1c v (List.mem_of_mem_drop hv))
 subst hW1;have hE1:∀ x,((w.alloc (.cells ROW 96)).drew).cell? x=(w.drew.alloc (.cells ROW 96)).cell? x:=fun x=>rfl;have hE2:∀ x,((w.alloc (.cells ROW 96)).drew).frozen? x=(w.drew.alloc (.cells ROW 96)).frozen? x:=fun x=>rfl;have hF1:∀ x,(((w.alloc (.cells ROW 96)).drew.setCells w.heap.size (i * 2) vs).drew).cell? x=((w.drew.alloc (.cells ROW 96)).setCells w.heap.size (i * 2) vs).cell? x:=fun x=>rfl;have hF2:∀ x,(((w.alloc (.cells ROW 96)).drew.setCells w.heap.size (i * 2) vs).drew).frozen? x=((w.drew.alloc (.cells ROW 96)).setCells w.heap.size (i * 2) vs).frozen? x:=fun x=>rfl;have hw1:IntKind.i64.wrap ((i:Int)+(m:Int))=(i:Int)+(m:Int):=by rw [IntKind.wrap_i64]; omega
 have hb1:(0:Int)<=(i:Int)+(m:Int):=by omega
 have hin:i<=n:=by omega
 have htn:((i:Int)+(m:Int)).toNat=i+m:=by omega
 have hb3:(i:Int)<=(n:Int):=by omega
 clear hkk hik hold hROW hG hRl
 go_enter Tryz.func225,Tryz.ntmps225
 go_wp2_with (first
  | (at_builtin; refine Lib.wpList_append_run _ rfl _ _ _ _ rfl _ _ rfl rfl _ _ (hrz _) ?_)
  | (at_builtin; refine wpList_copy_runI _ rfl _ _ 33 33 rfl _ _ rfl rfl (hcpA _ hE1 hE2 _ _) ?_)
  | (at_builtin; refine wpList_copy_runI _ rfl _ _ 33 33 rfl _ _ rfl rfl (hcpB _ (fun _=>rfl) (fun _=>rfl) _ _ _) ?_))
 go_region_law_o (refine step_copy_runI rfl _ _ 33 33 rfl (.slice (some ⟨w.heap.size,(i+m) * 2,none⟩) (n+m - (i+m)) (G - (i+m))) (.slice (some ⟨b,i * 2,none⟩) (n - i) (c - i)) (by simp [Act.eval,Act.put]) (by simp [Act.eval,Act.put]) (hcpB _ hF1 hF2 3 (G - (i+m)) (c - i)) ?_)
 go_wp2
 go_ret
 exact ⟨rfl,rfl⟩
def dq (l:List HeadD) (i:Nat) (f:HeadD):List HeadD:=l.take i++(f :: l.drop i)
theorem GY (l:List HeadD) (i:Nat) (f:HeadD):(al l).take i++(al [f]++(al l).drop i)=al (dq l i f):=by simp [al,dq,List.map_take,List.map_drop]
def cInsH:Con:={ A:=List HeadD × Nat × HeadD,X:=Unit,n:=95,args:=fun a=>[.own 0 2 (al a.1),.int .i64 a.2.1,.own 1 2 (al [a.2.2])],boxes:=fun _=>[],pre:=fun a=>a.2.1<=a.1.length/\a.1.length<=1048576,post:=fun _ _=>True,res:=fun a _=>.own 8 2 (al (dq a.1 a.2.1 a.2.2)),fin:=fun a _=>[(8,.own 96 2 true (al (dq a.1 a.2.1 a.2.2)))],owns:=fun a=>[(0,96,2,al a.1),(1,96,2,al [a.2.2])],mv:=true }
theorem Iq:Has Tryz.prog 225 cInsH:=by
 refine ⟨fun args w=>Go.MuLone.run_callFunc_enter Tryz.func225 (by kernel_rfl) rfl args w,fun _=>⟨(),trivial⟩,fun _ _=>rfl,?_,trivial,.inl rfl⟩
 rintro ⟨l,i,f⟩ ⟨h1,h2⟩ c _ vs β fp hn hpin hlen hlen2 S;replace h1:i<=l.length:=h1;replace h2:l.length<=1048576:=h2;have hp:c.pins=[]:=hpin;have hr:=li hlen S;obtain ⟨v0,vs1,rfl,r0,hr⟩:=hr.uncons;obtain ⟨v1,vs2,rfl,r1,hr⟩:=hr.uncons;obtain ⟨v2,vs3,rfl,r2,hr⟩:=hr.uncons;cases hr;have m0:(cInsH.start2 (l,i,f)).m 0=some (.own 96 2 true (al l)):=rfl;have m1:(cInsH.start2 (l,i,f)).m 1=some (.own 96 2 true (al [f])):=rfl;have m8:(cInsH.start2 (l,i,f)).m 8=none:=rfl;have e0:v0 = β 0:=by cases r0 with | own _ _ h3 _=>exact (h3 _ _ _ _ m0).1
 have e2:v2 = β 1:=by cases r2 with | own _ _ h3 _=>exact (h3 _ _ _ _ m1).1
 have e1:v1 = .int .i64 i:=by cases r1; rfl
 subst e1;obtain ⟨_,hR1,B1⟩:=S.mem 1 _ m1;rcases B1 with ⟨_,hc,_⟩ | ⟨b1,cap1,cs1,f1,q1,q2,q3,q4,q5,q6,q7,_⟩
 ·simp [al] at hc
 have q7:=q7 rfl;have hl1:(al [f]).length=1:=rfl;rw [hl1] at q1 q3 q6;have hm1:(al [f]).flatten=bc f:=by simp [al]
 have fin:∀ {v':Value} {w':World},(∃ β' fp' a',SatI c ⟨fun _=>none,ai [(8,.own 96 2 true (al (dq l i f)))]⟩ a' w' β' fp'/\RelL w' (ai [(8,.own 96 2 true (al (dq l i f)))]) β' c [.own 8 2 (al (dq l i f))] [v']) ->
   ∃ x,cInsH.post (l,i,f) x /\ ∃ v,Ending.returned v'=Ending.returned v /\ ∃ β' fp' a',SatI c (cInsH.end_ (l,i,f) x) a' w' β' fp'/\RelL w' (ai (cInsH.fin (l,i,f) x)) β' c [cInsH.res (l,i,f) x] [v] :=
  fun ⟨β',fp',a',g1,g2⟩=>⟨(),trivial,_,rfl,β',fp',a',g1,g2⟩
 by_cases hin:i=l.length
 ·-- at the end
  have hap:=sq (P:=Tryz.prog) aw S (ty:=33) (d:=8) (K:=fun av m=>av = .own 8 2 (al l++al [f])/\m 8=some (.own 96 2 true (al l++al [f]))) (t:=33) (t2:=33) r0 r2 (by
   simp -implicitDefEqProofs [cInsH,show al [f]=[bc f] from rfl,bc,qk,jO,fy,ag,bi,AV.base,AV.moved,m0,m1,m8,TI.flat,jF]
   omega)
  obtain ⟨v',w',av,m,β',fp',g1,⟨rfl,hm8⟩,g3,g4⟩:=hap;have hins:al l++al [f]=al (dq l i f):=by subst hin; simp [al,dq]
  have hlast:=BN g3 hp (e:=96) (k:=2) (R:=al l++al [f]) hm8;obtain ⟨a',s1,s2⟩:=hlast;have hv:v' = β' 8:=by cases g4 with | own _ _ h3 _=>exact (h3 96 2 true (al l++al [f]) hm8).1
  rw [<- hv] at s2;rw [hins] at s1 s2;have hcall:Calls Tryz.prog 225 #[v0,.int .i64 i,v2] c.w0 fun e w1=>e = .returned v'/\w1=w':=by
   obtain ⟨_,_,B0⟩:=S.mem 0 _ m0;subst hin;rcases B0 with ⟨p1,p2,p3⟩ | ⟨b,cap,cs,f0,p1,p2,p3,p4,p5,p6,p7,_⟩
   ·have:l=[]:=by cases l with | nil=>rfl | cons=>simp [al] at p2
    subst this;exact An v0 v2 none 0 0 b1 1 cap1 c.w0 w' v' (by omega) (by rw [e0,p1]) (by omega) (by simp) (by rw [e2,q1]) g1
   ·rw [eHeads_length] at p1 p3;exact An v0 v2 (some ⟨b,0,none⟩) l.length cap b1 1 cap1 c.w0 w' v' (by omega) (by rw [e0,p1]) p3 (by simp) (by rw [e2,q1]) g1
  refine hcall.mono ?_;rintro e w1 ⟨rfl,rfl⟩;exact fin ⟨β',fp',a',s1,s2⟩
 ·have hlt:i < l.length:=by omega
  obtain ⟨_,hR0,B0⟩:=S.mem 0 _ m0;rcases B0 with ⟨_,p2,_⟩ | ⟨b,cap,cs,f0,p1,p2,p3,p4,p5,p6,p7,_⟩
  ·exfalso;have:l.length=0:=by rw [<- eHeads_length,p2]; rfl
   omega
  have p7:=p7 rfl;rw [eHeads_length] at p1 p3 p6;have hcsl:cs.toList.length=cap * 2:=by rw [Array.length_toList,p5]
  have hcsl1:cs1.toList.length=cap1 * 2:=by rw [Array.length_toList,q5]
  have hcl:(cs.toList.take (l.length * 2)).length=l.length * 2:=by rw [List.length_take,hcsl]; omega
  have hvl:(cs1.toList.take (1 * 2)).length=1 * 2:=by rw [List.length_take,hcsl1]; omega
  have hvb:b1 ≠ b:=fun e=>S.disj 0 1 _ _ m0 m1 (by decide) b (by simp [Ob,p1]) (by simp [Ob,q1,e])
  have hI:=fun {w':World} {b' cap':Nat} {cs':Array Value} hblk hcap hmax hsz hcells hb' hother hsize hos htape hout =>
   Aq (w':=w') (b':=b') (cap':=cap') (cs':=cs') (i:=i) S hp m0 m1 (by rw [eHeads_length]; exact h1) (by rw [p7]; exact p6) (by rw [q7]; exact q6) hblk hcap hmax hsz hcells hb' hother hsize hos htape hout
  rw [eHeads_length,hl1] at hI;rw [GY] at hI;have hother0:∀ x,(∀ n cc,β 0 ≠ .slice (some ⟨x,0,none⟩) n cc)->x ≠ b:=fun x h e=>h l.length cap (by rw [e]; exact p1)
  by_cases hroom:l.length+1<=cap
  ·have hcall:=Ir b l.length cap i b1 1 cap1 (cs.toList.take (l.length * 2)) (cs1.toList.take (1 * 2)) c.w0 hlt (by omega) hroom (by unfold maxLen at p4; omega) hvb hcl hvl (kg p2)
    (fun j hj=>by rw [World.cell_of p2,Array.getElem?_eq_getElem (show j < cs.size by omega)]; rfl) (fun j hj=>by simp [World.frozen?,p2]) (kg q2) p6.oneCell q6.oneCell
    _ _ _ _ (by simp [World.shape?,q2]; exact ⟨rfl,rfl⟩) (by simp [World.shape?,p2]; exact ⟨rfl,rfl⟩) (by rw [p5]; omega) (by simp [World.frozen?,q2]) (by simp [World.frozen?,q2])
   rw [e0,e2,p1,q1];refine hcall.mono ?_;rintro e w' ⟨rfl,rfl⟩;have hcs:cs=cs.toList.toArray:=by simp
   have hb0:c.w0.drew.heap[b]? = some (.cells cs.toList.toArray 96 (0,0)):=by rw [<- hcs]; exact p2
   have hdl:((cs.toList.take (l.length * 2)).drop (i * 2)).length=(l.length - i) * 2:=by rw [List.length_drop,hcl]; omega
   obtain ⟨z1,z2,z3,z4,z5,z6⟩:=fT b ((cs.toList.take (l.length * 2)).drop (i * 2)) ((i+1) * 2) c.w0.drew cs.toList _ _ hb0 (by rw [hdl,hcsl]; omega)
   obtain ⟨y1,y2,y3,y4,y5,y6⟩:=fT b (cs1.toList.take (1 * 2)) (i * 2) _ _ _ _ z1 (by rw [hvl]; simp; omega)
   refine fin (hI y1 hroom p4 ?_ ?_ (.inr ⟨_,_,p1⟩) (fun x _ hx=>(y2 x (hother0 x hx)).trans (z2 x (hother0 x hx))) ?_ (y4.trans z4) (y5.trans z5) (y6.trans z6))
   ·simp only [List.size_toArray]; simp; omega
   ·rw [List.toList_toArray];exact Ao (by omega) hcl (by simpa using hvl) h1 (by rw [List.take_take,Nat.min_eq_left (by omega)])
   ·rw [y3,z3]; exact Nat.le_refl _
  ·have hcall:=Ip b l.length cap i b1 1 cap1 (cs.toList.take (l.length * 2)) (cs1.toList.take (1 * 2)) c.w0 hlt (by omega) p3 (by omega) (by omega) hcl hvl (kg p2) (kg q2) p6.oneCell q6.oneCell
   rw [e0,e2,p1,q1];refine hcall.mono ?_;rintro e w' ⟨rfl,rfl⟩;have hGn:l.length+1<=grownCap c.w0 (l.length+1) cap 96:=grownCap_ge c.w0 _ _ _;have hGm:=grownCap_le_maxLen c.w0 (l.length+1) cap 96 (by unfold maxLen; omega)
   generalize grownCap c.w0 (l.length+1) cap 96=G at hGn hGm ⊢;generalize hrow:((cs.toList.take (l.length * 2)).take (i * 2)).toArray++Builtin.zeroCells #[.string ⟨#[]⟩,.int .i64 0] (l.length+1 - i)++Builtin.zeroCells #[.string ⟨#[]⟩,.int .i64 0] (G - (l.length+1))=ROW;have hrl:ROW.size=G * 2:=by
    rw [<- hrow];simp [Builtin.zeroCells];omega
   have hrt:ROW.toList.take (i * 2)=(cs.toList.take (l.length * 2)).take (i * 2):=by
    rw [<- hrow];simp only [Array.toList_append,List.append_assoc];rw [List.take_left' (by rw [List.length_take,hcl]; omega)]
   have hrl2:ROW.toList.length=G * 2:=by rw [Array.length_toList,hrl]
   have hb0:(c.w0.alloc (.cells ROW 96)).drew.heap[c.w0.heap.size]? = some (.cells ROW.toList.toArray 96 (0,0)):=by
    have:ROW=ROW.toList.toArray:=by simp
    rw [<- this];exact heap_alloc_new c.w0 _
   have hdl:((cs.toList.take (l.length * 2)).drop (i * 2)).length=(l.length - i) * 2:=by rw [List.length_drop,hcl]; omega
   obtain ⟨z1,z2,z3,z4,z5,z6⟩:=fT c.w0.heap.size (cs1.toList.take (1 * 2)) (i * 2) (c.w0.alloc (.cells ROW 96)).drew ROW.toList _ _ hb0 (by rw [hvl,hrl2]; omega)
   obtain ⟨y1,y2,y3,y4,y5,y6⟩:=fT c.w0.heap.size ((cs.toList.take (l.length * 2)).drop (i * 2)) ((i+1) * 2) ((c.w0.alloc (.cells ROW 96)).drew.setCells c.w0.heap.size (i * 2) (cs1.toList.take (1 * 2))).drew _ _ _ z1 (by
    rw [hdl];simp only [List.length_append,List.length_take,List.length_drop,hrl2,hcsl1];omega)
   refine fin (hI y1 hGn hGm ?_ ?_ (.inl (Nat.le_refl _)) (fun x hx _=>(y2 x (by omega)).trans ((z2 x (by omega)).trans (heap_alloc_old c.w0 _ hx))) ?_ (y4.trans z4) (y5.trans z5) (y6.trans z6))
   ·simp only [List.size_toArray,List.length_append,List.length_take,List.length_drop,hrl2,hcsl1,hcsl];omega
   ·rw [List.toList_toArray];exact Ap (by omega) hcl (by simpa using hvl) h1 hrt
   ·rw [y3]
    show _<=(World.setCells _ _ _ _).heap.size
    rw [z3]
    show _<=(c.w0.alloc _).heap.size
    simp
end Vx
end Go.Proofs.YthgfdbfmnbgkaaaGreatDoor
namespace Go.Proofs.YthgfdbfmnbgkaaaGreatDoor
set_option maxHeartbeats 4000000
namespace Vx
open Go.RowKit
set_option maxRecDepth 8000
theorem zD (b:HeadD) (p:Str) (x:Int):(al [b]=[[D.str p,D.int .i64 x]])=(b=⟨p,x⟩):=by
 obtain ⟨q,y⟩:=b;simp -implicitDefEqProofs [al,bc]
theorem GW (b:HeadD) (p:Str) (x:Int):([[D.str p,D.int .i64 x]]=al [b])=(b=⟨p,x⟩):=by rw [<- zD]; exact propext ⟨Eq.symm,Eq.symm⟩
def gtB (a b:Str):Bool:=!Go.Op.bytesLess a b && !decide (a=b)
def dC (t:List HeadD) (p:Str):Nat->Nat
 | 0=>0
 | k+1=>if gtB (t.getD k default).name p then dC t p k else k+1
theorem HY (t:List HeadD):∀ x:List D,x ∈ al t -> ∀ d:D,d ∈ x->match d with | D.sl _ _ _=>False | _=>True:=by
 intro x hx d hd;simp only [al,List.mem_map] at hx;obtain ⟨h,_,rfl⟩:=hx;simp only [bc,List.mem_cons,List.not_mem_nil,or_false] at hd;rcases hd with rfl | rfl <;> trivial
def jh (t:List HeadD) (f:HeadD):List HeadD:=dq t (dC t f.name t.length) f
theorem Iu (t:List HeadD) (p:Str):∀ k,dC t p k<=k:=by
 intro k
 induction k with
 | zero=>exact Nat.le_refl _
 | succ k ih=>unfold dC; split <;> omega
def tc:Con:=.fn 30 (List HeadD × HeadD) (fun a=>[.sl true 2 (al a.1),.agg [.str a.2.name,.int .i64 a.2.at_]]) (fun a=>a.1.length<=1048576) (fun a=>.own 8 2 (al (jh a.1 a.2))) (fun a=>gD 8 (jh a.1 a.2))
theorem Iw:Has Tryz.prog 175 tc:=by
 refine ah mixed aw (HasL.cons Iq HasL.nil) [0,1,3,4,5] ((fun a n (_:Nat)=>(fun a _=>⟨Nat,fun k=>⟨[(0,true,.sl true 2 (al a.1)),(3,true,.ptr 10 0),(4,true,.nil),(5,true,.int .i64 k)],[(10,.box 96 [.str a.2.name,.int .i64 a.2.at_])]⟩,fun k=>k<=a.1.length/\dC a.1 a.2.name k=dC a.1 a.2.name a.1.length,fun k=>k⟩) a n)) [] Tryz.func175 (by unfold Tryz.f175; rfl) (fun _=>⟨(),trivial⟩) ?_
 intro a ha;obtain ⟨t,f⟩:=a;replace ha:t.length<=1048576:=ha;have g1:∀ k,0 < k->(h:k - 1 < t.length)->gtB t[k - 1].name f.name=true->dC t f.name (k - 1)=dC t f.name k:=fun k h0 h hb=>by
  obtain ⟨j,rfl⟩:∃ j,k=j+1:=⟨k - 1,by omega⟩
  simp only [Nat.add_sub_cancel] at h hb ⊢;rw [dC,if_pos (by simp -implicitDefEqProofs [List.getD_eq_getElem?_getD,h,hb])]
 have g2:∀ k,0 < k->(h:k - 1 < t.length)->gtB t[k - 1].name f.name=false->dC t f.name k=k:=fun k h0 h hb=>by
  obtain ⟨j,rfl⟩:∃ j,k=j+1:=⟨k - 1,by omega⟩
  simp only [Nat.add_sub_cancel] at h hb;rw [dC,if_neg (by simp -implicitDefEqProofs [List.getD_eq_getElem?_getD,h,hb])]
 have hfl:=HY t;simp -implicitDefEqProofs [tc,cInsH,Con.fn,ag,zD,GW]
 try dsimp only
 have hfin:∀ k,dC t f.name k=dC t f.name t.length->dC t f.name k=k->jh t f=dq t k f:=fun k h1 h2=>by unfold jh; rw [<- h1,h2]
 refine fun _=>⟨⟨t.length,rfl,Nat.le_refl _,rfl⟩,fun k hk hp=>⟨fun h0=>⟨⟨by omega,by omega⟩,fun _ _=>⟨⟨by omega,by omega⟩,fun _ _=>?_⟩⟩,fun h0=>?_⟩⟩
 ·have hlt:k - 1 < t.length:=by omega
  simp -implicitDefEqProofs [hlt,bc,D.asStr];refine ⟨fun hb hn=>⟨⟨by omega,by omega⟩,fun _ _=>⟨k - 1,by omega,⟨by omega,by rw [g1 k h0 hlt (by simp -implicitDefEqProofs [gtB,hb,hn]),hp]⟩,by omega⟩⟩,fun hx=>?_⟩
  have e:=hfin k hp (g2 k h0 hlt (by cases hq:Go.Op.bytesLess t[k - 1].name f.name with
   | true=>simp -implicitDefEqProofs [gtB,hq]
   | false=>simp -implicitDefEqProofs [gtB,hx hq]))
  exact ⟨hfl,⟨by omega,by omega⟩,t,k,f,⟨rfl,rfl,rfl⟩,⟨rfl,rfl⟩,⟨by omega,by omega⟩,e,e.symm⟩
 ·subst h0;have e:=hfin 0 hp rfl;exact ⟨hfl,⟨by omega,by omega⟩,t,0,f,⟨rfl,rfl,rfl⟩,⟨rfl,rfl⟩,⟨by omega,by omega⟩,e,e.symm⟩
def srt (l:List Str):Prop:=l.Pairwise fun a b=>a < b
theorem CP (l:List Str) (s x:Str):x ∈ bX l s ↔ x=s \/ x ∈ l:=by
 induction l with
 | nil=>simp -implicitDefEqProofs [bX]
 | cons y l ih =>
  unfold bX;split
  ·simp only [List.mem_cons,ih];constructor
   ·rintro (h | h | h) <;> simp -implicitDefEqProofs [h]
   ·rintro (h | h | h) <;> simp -implicitDefEqProofs [h]
  ·split
   ·rename_i h;subst h;simp only [List.mem_cons];constructor
    ·intro h; exact .inr h
    ·rintro (h | h)
     ·exact .inl h
     ·exact h
   ·simp only [List.mem_cons]
theorem Nv {l:List Str} (h:srt l) (s:Str):srt (bX l s):=by
 induction l with
 | nil=>simp -implicitDefEqProofs [bX,srt]
 | cons y l ih =>
  obtain ⟨h1,h2⟩:=List.pairwise_cons.1 h;unfold bX;rw [fF];split
  ·rename_i hl;have hl:y < s:=by simpa using hl
   refine List.pairwise_cons.2 ⟨fun z hz=>?_,ih h2⟩;rcases (CP l s z).1 hz with rfl | hz
   ·exact hl
   ·exact h1 z hz
  ·rename_i hl;have hl:¬ y < s:=by simpa using hl
   split
   ·exact h
   ·rename_i hn;have hs:=mI y s hl hn;refine List.pairwise_cons.2 ⟨fun z hz=>?_,h⟩;rcases List.mem_cons.1 hz with rfl | hz
    ·exact hs
    ·exact lm hs (h1 z hz)
theorem xl (t:List FileD):∀ {l:List Str},srt l->srt (cf l t) /\ ∀ x,x ∈ cf l t ↔ x ∈ l \/ x ∈ t.map (·.path):=by
 induction t with
 | nil=>intro l h; exact ⟨h,fun x=>by simp -implicitDefEqProofs [cf]⟩
 | cons f t ih =>
  intro l h;obtain ⟨h1,h2⟩:=ih (Nv h f.path);refine ⟨h1,fun x=>?_⟩
  show x ∈ cf (bX l f.path) t ↔ _
  rw [h2,CP,List.map_cons,List.mem_cons];constructor
  ·rintro ((h | h) | h) <;> simp -implicitDefEqProofs [h]
  ·rintro (h | h | h) <;> simp -implicitDefEqProofs [h]
theorem CC (o a b:List FileD):srt (aZ o a b) /\ ∀ x,x ∈ aZ o a b ↔ x ∈ (o++a++b).map (·.path):=by
 obtain ⟨h1,h2⟩:=xl o (l:=[]) .nil;obtain ⟨h3,h4⟩:=xl a h1;obtain ⟨h5,h6⟩:=xl b h3;refine ⟨h5,fun x=>?_⟩
 show x ∈ cf (cf (cf [] o) a) b ↔ _
 rw [h6,h4,h2];simp -implicitDefEqProofs [or_assoc]
theorem Dx:∀ {l m:List Str},srt l->srt m->(∀ x,x ∈ l ↔ x ∈ m)->l=m
 | [],[],_,_,_=>rfl
 | [],y :: m,_,_,h=>absurd ((h y).2 (by simp)) (by simp)
 | x :: l,[],_,_,h=>absurd ((h x).1 (by simp)) (by simp)
 | x :: l,y :: m,hl,hm,h=>by
  obtain ⟨l1,l2⟩:=List.pairwise_cons.1 hl;obtain ⟨m1,m2⟩:=List.pairwise_cons.1 hm;have e:x=y:=by
   rcases List.mem_cons.1 ((h x).1 (by simp)) with e | hx
   ·exact e
   ·rcases List.mem_cons.1 ((h y).2 (by simp)) with e | hy
    ·exact e.symm
    ·exact absurd (l1 y hy) (lk (m1 x hx))
  subst e
  congr 1
  refine Dx l2 m2 fun z=>?_;have hz:=h z;simp only [List.mem_cons] at hz;constructor
  ·intro q;rcases hz.1 (.inr q) with rfl | q2
   ·exact absurd (l1 z q) (jz z)
   ·exact q2
  ·intro q;rcases hz.2 (.inr q) with rfl | q2
   ·exact absurd (m1 z q) (jz z)
   ·exact q2
theorem Is (l:List HeadD) (f:HeadD) (hp:l.Pairwise fun a b=>Go.Op.bytesLess a.name b.name=true):∀ k,k<=l.length->(∀ i,dC l f.name k<=i->i < k->gtB (l.getD i default).name f.name=true)/\(0 < dC l f.name k->gtB (l.getD (dC l f.name k - 1) default).name f.name=false):=by
 intro k
 induction k with
 | zero=>intro _; exact ⟨fun i h1 h2=>by omega,fun h=>by simp -implicitDefEqProofs [dC] at h⟩
 | succ k ih =>
  intro hk;unfold dC;split
  ·rename_i h;obtain ⟨h1,h2⟩:=ih (by omega)
   refine ⟨fun i h3 h4=>?_,h2⟩;rcases Nat.lt_or_ge i k with h5 | h5
   ·exact h1 i h3 h5
   ·have:i=k:=by omega
    subst this; exact h
  ·rename_i h;exact ⟨fun i h3 h4=>by omega,fun _=>by simpa using h⟩
theorem zV (n:Str) (a:Int):∀ (l X:List HeadD) (k:Nat),k<=l.length->(∀ i,i < k->Go.Op.bytesLess (l.getD i default).name n=true)->(∀ i,k<=i->i < l.length->Go.Op.bytesLess (l.getD i default).name n=false /\ ¬ (l.getD i default).name=n) ->
  l.foldl (cN n a) (X,false)=if k < l.length then (X++l.take k++[⟨n,a⟩]++l.drop k,true) else (X++l,false)
 | [],X,k,hk,_,_=>by simp
 | g :: l,X,0,_,_,h2=>by
  have hg:=h2 0 (by omega) (by simp)
  have hg1:Go.Op.bytesLess g.name n=false /\ ¬ g.name=n:=by simpa using hg
  have e:cN n a (X,false) g=(X++[⟨n,a⟩]++[g],true):=by unfold cN; simp -implicitDefEqProofs [hg1]
  have e2:l.filter (fun g=>decide (g.name ≠ n))=l:=by
   rw [List.filter_eq_self];intro z hz;obtain ⟨i,hi,rfl⟩:=List.getElem_of_mem hz;have:=h2 (i+1) (by omega) (by simp; omega)
   simp -implicitDefEqProofs [List.getD_eq_getElem?_getD,hi] at this;simp -implicitDefEqProofs [this.2]
  rw [List.foldl_cons,e,qp,e2]; simp
 | g :: l,X,k+1,hk,h1,h2=>by
  have hg:=h1 0 (by omega)
  have hg:Go.Op.bytesLess g.name n=true:=by simpa using hg
  have hn:¬ g.name=n:=fun e=>by rw [e,qT] at hg; cases hg
  have e:cN n a (X,false) g=(X++[g],false):=by unfold cN; simp -implicitDefEqProofs [hg,hn]
  rw [List.foldl_cons,e,zV n a l (X++[g]) k (by simpa using hk) (fun i hi=>by have:=h1 (i+1) (by omega); simpa using this) (fun i h3 h4=>by have:=h2 (i+1) (by omega) (by simp; omega); simpa using this)]
  by_cases hc:k < l.length
  ·simp -implicitDefEqProofs [hc]
  ·simp -implicitDefEqProofs [hc]
theorem zX {l:List HeadD} {n:Str} {a:Int} (hl:∀ i,0 < i->i < l.length->Go.Op.bytesLess (l.getD (i - 1) default).name (l.getD i default).name=true) (hn:∀ h ∈ l,¬ h.name=n) :
  bv l n a=jh l ⟨n,a⟩:=by
 have hp:=qr hl;obtain ⟨h1,h2⟩:=Is l ⟨n,a⟩ hp l.length (Nat.le_refl _);have hk:=Iu l n l.length;unfold jh;generalize hkk:dC l (⟨n,a⟩:HeadD).name l.length=k at h1 h2 ⊢;have hk:k<=l.length:=by rw [<- hkk]; exact hk
 have hne:∀ i (hi:i < l.length),¬ (l.getD i default).name=n:=fun i hi=>by
  have:=hn l[i] (List.getElem_mem hi)
  simpa [List.getD_eq_getElem?_getD,hi] using this
 have hlt:∀ i j,(hij:i < j)->(hj:j < l.length)->Go.Op.bytesLess (l.getD i default).name (l.getD j default).name=true:=fun i j hij hj=>by
  have:=List.pairwise_iff_getElem.1 hp i j (by omega) hj hij
  simpa [List.getD_eq_getElem?_getD,hj,(show i < l.length by omega)] using this
 have b1:∀ i,i < k->Go.Op.bytesLess (l.getD i default).name n=true:=fun i hi=>by
  have q:=h2 (by omega)
  have q:Go.Op.bytesLess (l.getD (k - 1) default).name n=true:=by
   unfold gtB at q;simp only [Bool.and_eq_false_iff,Bool.not_eq_false',decide_eq_true_eq] at q;rcases q with q | q
   ·exact q
   ·exact absurd q (hne (k - 1) (by omega))
  rcases Nat.lt_or_ge i (k - 1) with h3 | h3
  ·exact wK (hlt i (k - 1) h3 (by omega)) q
  ·have:i=k - 1:=by omega
   rw [this]; exact q
 have b2:∀ i,k<=i->i < l.length->Go.Op.bytesLess (l.getD i default).name n=false /\ ¬ (l.getD i default).name=n:=fun i h3 h4=>by
  have q:=h1 i h3 h4;unfold gtB at q;simp only [Bool.and_eq_true,Bool.not_eq_true',decide_eq_false_iff_not] at q;exact q
 unfold bv hL;rw [zV n a l [] k hk b1 b2];by_cases hc:k < l.length
 ·simp -implicitDefEqProofs [hc,dq]
 ·have:k=l.length:=by omega
  subst this;simp -implicitDefEqProofs [dq]
end Vx
end Go.Proofs.YthgfdbfmnbgkaaaGreatDoor
/-
  DERIVED: THE SHELF's CONTRACTS AT THIS DUMP, IN PLAIN WORDS (tools/lay-plain.mjs out of 'YthgfdbfmnbgkaaaGreatDoorShelf.lean', which tools/lay-shelf.mjs wrote): THE SAME DECLARATIONS UNDER THE SAME NAMES: 'import', 'namespace', 'open', 'def', 'theorem' AND NOTHING ELSE: no command of the shelf's: FOR A HAND-IN. Each laying: the table of numbers ('.._ren') and one theorem, a field a fact of the dump's own or the kernel's comparison; each contract: ONE APPLICATION.
-/
namespace Go.Proofs
open Go.Shelf
def Tryz.laysSort_ren:Go.Shelf.Ren:=⟨fun | 190=>86 | 125=>167 | 258=>166 | 128=>216 | 129=>217 | 302=>207 | 303=>208 | 304=>209 | 305=>210 | 306=>211 | 307=>212 | 308=>213 | 309=>214 | 310=>215 | 333=>252 | 329=>253 | 330=>254 | 334=>255 | 335=>256 | 336=>257 | 344=>284 | n=>n,fun | 31=>22 | 9=>9 | 3=>3 | 46=>173 | 0=>0 | 51=>210 | 53=>212 | 4=>4 | 183=>203 | 182=>202 | 131=>207 | 5=>5 | 218=>243 | 222=>247 | 228=>272 | 229=>273 | n=>n,fun | n=>n⟩
theorem Tryz.laysSort:Go.Proofs.Lays.n190 Tryz.prog Tryz.laysSort_ren:={
  mixed:=by kernel_rfl
  f125:=Tryz.func167.trans (congrArg some (by kernel_rfl))
  f128:=Tryz.func216.trans (congrArg some (by kernel_rfl))
  f129:=Tryz.func217.trans (congrArg some (by kernel_rfl))
  f190:=Tryz.func86.trans (congrArg some (by kernel_rfl))
  f258:=Tryz.func166.trans (congrArg some (by kernel_rfl))
  f302:=Tryz.func207.trans (congrArg some (by kernel_rfl))
  f303:=Tryz.func208.trans (congrArg some (by kernel_rfl))
  f304:=Tryz.func209.trans (congrArg some (by kernel_rfl))
  f305:=Tryz.func210.trans (congrArg some (by kernel_rfl))
  f306:=Tryz.func211.trans (congrArg some (by kernel_rfl))
  f307:=Tryz.func212.trans (congrArg some (by kernel_rfl))
  f308:=Tryz.func213.trans (congrArg some (by kernel_rfl))
  f309:=Tryz.func214.trans (congrArg some (by kernel_rfl))
  f310:=Tryz.func215.trans (congrArg some (by kernel_rfl))
  f329:=Tryz.func253.trans (congrArg some (by kernel_rfl))
  f330:=Tryz.func254.trans (congrArg some (by kernel_rfl))
  f333:=Tryz.func252.trans (congrArg some (by kernel_rfl))
  f334:=Tryz.func255.trans (congrArg some (by kernel_rfl))
  f335:=Tryz.func256.trans (congrArg some (by kernel_rfl))
  f336:=Tryz.func257.trans (congrArg some (by kernel_rfl))
  f344:=Tryz.func284.trans (congrArg some (by kernel_rfl))
  t0:=Tryz.underlying0
  a0:=Tryz.isAgg0
  z0:=Tryz.sizeOf0
  v0:=Tryz.zeroValue0
  t3:=Tryz.underlying3
  a3:=Tryz.isAgg3
  z3:=Tryz.sizeOf3
  v3:=Tryz.zeroValue3
  t4:=Tryz.underlying4
  a4:=Tryz.isAgg4
  z4:=Tryz.sizeOf4
  v4:=Tryz.zeroValue4
  t5:=Tryz.underlying5
  a5:=Tryz.isAgg5
  z5:=Tryz.sizeOf5
  v5:=Tryz.zeroValue5
  t9:=Tryz.underlying9
  a9:=Tryz.isAgg9
  z9:=Tryz.sizeOf9
  v9:=Tryz.zeroValue9
  t31:=Tryz.underlying22
  a31:=Tryz.isAgg22
  z31:=Tryz.sizeOf22
  v31:=Tryz.zeroValue22
  t46:=Tryz.underlying173
  a46:=Tryz.isAgg173
  z46:=Tryz.sizeOf173
  v46:=Tryz.zeroValue173
  t51:=Tryz.underlying210
  a51:=Tryz.isAgg210
  z51:=Tryz.sizeOf210
  v51:=Tryz.zeroValue210
  t53:=Tryz.underlying212
  a53:=Tryz.isAgg212
  z53:=Tryz.sizeOf212
  v53:=Tryz.zeroValue212
  t131:=Tryz.underlying207
  a131:=Tryz.isAgg207
  z131:=Tryz.sizeOf207
  v131:=Tryz.zeroValue207
  t182:=Tryz.underlying202
  a182:=Tryz.isAgg202
  z182:=Tryz.sizeOf202
  v182:=Tryz.zeroValue202
  t183:=Tryz.underlying203
  a183:=Tryz.isAgg203
  z183:=Tryz.sizeOf203
  v183:=Tryz.zeroValue203
  t218:=Tryz.underlying243
  a218:=Tryz.isAgg243
  z218:=Tryz.sizeOf243
  v218:=Tryz.zeroValue243
  t222:=Tryz.underlying247
  a222:=Tryz.isAgg247
  z222:=Tryz.sizeOf247
  v222:=Tryz.zeroValue247
  t228:=Tryz.underlying272
  a228:=Tryz.isAgg272
  z228:=Tryz.sizeOf272
  v228:=Tryz.zeroValue272
  t229:=Tryz.underlying273
  a229:=Tryz.isAgg273
  z229:=Tryz.sizeOf273
  v229:=Tryz.zeroValue273 }
def Tryz.laysCompact_ren:Go.Shelf.Ren:=⟨fun | 194=>94 | n=>n,fun | 31=>22 | 9=>9 | 3=>3 | 4=>4 | 0=>0 | n=>n,fun | n=>n⟩
theorem Tryz.laysCompact:Go.Proofs.Lays.n194 Tryz.prog Tryz.laysCompact_ren:={
  mixed:=by kernel_rfl
  f194:=Tryz.func94.trans (congrArg some (by kernel_rfl))
  t0:=Tryz.underlying0
  a0:=Tryz.isAgg0
  z0:=Tryz.sizeOf0
  v0:=Tryz.zeroValue0
  t3:=Tryz.underlying3
  a3:=Tryz.isAgg3
  z3:=Tryz.sizeOf3
  v3:=Tryz.zeroValue3
  t4:=Tryz.underlying4
  a4:=Tryz.isAgg4
  z4:=Tryz.sizeOf4
  v4:=Tryz.zeroValue4
  t9:=Tryz.underlying9
  a9:=Tryz.isAgg9
  z9:=Tryz.sizeOf9
  v9:=Tryz.zeroValue9
  t31:=Tryz.underlying22
  a31:=Tryz.isAgg22
  z31:=Tryz.sizeOf22
  v31:=Tryz.zeroValue22 }
end Go.Proofs
namespace Go.Proofs.YthgfdbfmnbgkaaaGreatDoor
set_option maxHeartbeats 4000000
namespace Vx
open Go.RowKit Go.Sort
theorem ri {j:Nat} {v:Value} {c:Cx} {s:St} {a:Act} {w w':World} {β:Nat->Value} {fp:Nat->List (Nat × Nat)} (S:SatI c s a w β fp) {e k:Nat} {R:List (List D)} {f:List (Nat × Nat)}
  (hpin:∀ p ∈ c.pins,v=p.2/\p.1=j) (hb:BlkOk w' (ai [(j,Blk.own e k true R)]) (fun _=>v) c j f (.own e k true R)) (hnd:(Ob (fun _=>v) j f (.own e k true R)).Nodup) (hfree:∀ x ∈ Ob (fun _=>v) j f (.own e k true R),¬ c.G x)
  (hG:∀ b,c.G b->w'.heap[b]? = w.heap[b]?) (hsize:w.heap.size<=w'.heap.size) (hos:w'.os=w.os) (htape:w'.tape=w.tape) (hout:w'.output=w.output) :
  ∃ β' fp' a',SatI c ⟨fun _=>none,ai [(j,.own e k true R)]⟩ a' w' β' fp'/\RelL w' (ai [(j,.own e k true R)]) β' c [.own j k R] [v]:=by
 refine ⟨fun _=>v,fun _=>f,⟨Array.replicate c.n undef,[]⟩,⟨?_,?_,?_,?_,?_,S.fg,fun b hb=>⟨(S.old b hb).1,(hG b hb).trans (S.old b hb).2⟩,hos.trans S.os,htape.trans S.tape,hout.trans S.output,Nat.le_trans S.size hsize,rfl,by simp,fun p hp=>?_⟩,?_⟩
 ·intro t g av h; cases h
 ·intro h blk hm; obtain ⟨rfl,rfl⟩:=dW hm; exact hb
 ·intro h blk hm; obtain ⟨rfl,rfl⟩:=dW hm; exact hnd
 ·intro h h' blk blk' hm hm' hne; obtain ⟨rfl,rfl⟩:=dW hm; obtain ⟨rfl,rfl⟩:=dW hm'; exact absurd rfl hne
 ·intro h blk hm x hx; obtain ⟨rfl,rfl⟩:=dW hm; exact hfree x hx
 ·obtain ⟨h1,h2⟩:=hpin p hp;exact ⟨h1,by rw [h2]; simp [ai]⟩
 ·exact iu (h:=j) (fps:=fun _=>f) (by simp [ai]) hb hnd (fun h' blk' hm hne=>by obtain ⟨rfl,rfl⟩:=dW hm; exact absurd rfl hne) hfree
theorem xo {q:Bool} {w:World}:∀ {l:List Str},(∀ s ∈ l,s.length<=maxLen)->RdL q w (aa l).flatten (l.map encStr) []
 | [],_=>.nil
 | s :: l,h=>.str (h s (by simp)) (xo fun x hx=>h x (by simp [hx]))
theorem xp {q:Bool} {w:World}:∀ {l:List Str} {vs f},RdL q w (aa l).flatten vs f->vs=l.map encStr/\f=[] /\ ∀ s ∈ l,s.length<=maxLen
 | [],vs,f,h=>by cases h; exact ⟨rfl,rfl,by simp⟩
 | s :: l,vs,f,h=>by
  cases h with
  | str h1 h2 =>
   obtain ⟨rfl,rfl,h3⟩:=xp (l:=l) h2;exact ⟨rfl,rfl,by simpa using ⟨h1,h3⟩⟩
theorem CQ {w:World} {n b:Nat} {d:List Str} {os:Array Obj} {cs:Array Value} {e:Nat} {fr:Nat × Nat} (hb:w.heap[b]? = some (.cells cs e fr)) :
  (grow (putRow encStr (Sort.ahead w n) b 0 d.toArray) os).heap[b]? = some (.cells (putCells encStr 0 d.toArray cs) e fr) /\
  (∀ x,x < w.heap.size->x ≠ b->(grow (putRow encStr (Sort.ahead w n) b 0 d.toArray) os).heap[x]? = w.heap[x]?)/\w.heap.size<=(grow (putRow encStr (Sort.ahead w n) b 0 d.toArray) os).heap.size /\
  (putCells encStr 0 d.toArray cs).size=cs.size /\ ∀ k,k<=d.length->k<=cs.size->(putCells encStr 0 d.toArray cs).toList.take k=(d.take k).map encStr:=by
 have hlt:b < w.heap.size:=(Array.getElem?_eq_some_iff.1 hb).1;refine ⟨?_,fun x hx hne=>?_,?_,by simp [putCells],fun k hk hk2=>?_⟩
 ·simp only [grow,putRow,mapBlock,Sort.ahead];rw [Array.getElem?_append_left (by simpa using hlt),Array.getElem?_modify,if_pos rfl,hb]
  rfl
 ·simp only [grow,putRow,mapBlock,Sort.ahead];rw [Array.getElem?_append_left (by simpa using hx),Array.getElem?_modify,if_neg (Ne.symm hne)]
 ·simp [grow,putRow,mapBlock,Sort.ahead]
 ·apply List.ext_getElem
  ·simp [putCells]; omega
  ·intro i h1 h2;have hi:i < d.length:=by simp at h2; omega
   simp only [List.getElem_take,List.getElem_map,putCells,Array.getElem_toList,Array.getElem_mapIdx];rw [if_pos (by simp; omega)]
   simp [hi]
def d5 (l:List Str):List Str:=l.mergeSort fun x y=>decide (x<=y)
def cSortS:Con:={ A:=List Str,X:=Unit,n:=11,args:=fun l=>[.own 0 1 (aa l)],boxes:=fun _=>[],pre:=fun l=>l.length<=1048576,post:=fun _ _=>True,res:=fun _ _=>.tup [],fin:=fun l _=>[(0,.own 9 1 true (aa (d5 l)))],owns:=fun l=>[(0,9,1,aa l)],lends:=[0],mv:=true }
theorem rH (l:List Str):(d5 l).length=l.length:=by simp [d5]
theorem Du (l:List Str) (x:Str):x ∈ d5 l ↔ x ∈ l:=by simp [d5]
theorem OU:Has Tryz.prog 86 cSortS:=by
 refine ⟨fun args w=>Go.MuLone.run_callFunc_enter Tryz.func86 (by kernel_rfl) rfl args w,fun _=>⟨(),trivial⟩,fun _ _=>rfl,?_,trivial,.inl rfl⟩
 intro (l:List Str) (h1:l.length<=1048576) c _ vs β fp hn hpin hlen hlen2 S;have hp:c.pins=[(0,β 0)]:=hpin;have hr:=li hlen S;obtain ⟨v0,vs1,rfl,r0,hr⟩:=hr.uncons;cases hr;have m0:(cSortS.start2 l).m 0=some (.own 9 1 true (aa l)):=rfl;have e0:v0 = β 0:=by cases r0 with | own _ _ h3 _=>exact (h3 _ _ _ _ m0).1
 subst e0;have hnd:=S.nodup 0 _ m0;have hfr:=S.free 0 _ m0;have hGlt:∀ b,c.G b->b < c.w0.heap.size:=fun b hG=>(S.old b hG).1;have fin:∀ {w':World},(∃ β' fp' a',SatI c ⟨fun _=>none,ai [(0,.own 9 1 true (aa (d5 l)))]⟩ a' w' β' fp'/\RelL w' (ai [(0,.own 9 1 true (aa (d5 l)))]) β' c [.own 0 1 (aa (d5 l))] [β 0]) ->
   ∃ x,cSortS.post l x /\ ∃ v,Ending.returned (.tuple #[])=Ending.returned v /\ ∃ β' fp' a',SatI c (cSortS.end_ l x) a' w' β' fp'/\RelL w' (ai (cSortS.fin l x)) β' c [cSortS.res l x] [v] :=
  fun ⟨β',fp',a',g1,g2⟩=>⟨(),trivial,_,rfl,β',fp',a',g1,.tup .lnil .lnil⟩
 obtain ⟨_,_,B0⟩:=S.mem 0 _ m0;rcases B0 with ⟨q1,q2,q3⟩ | ⟨b,cap,cs,f0,q1,q2,q3,q4,q5,q6,q7,_⟩
 ·have hl:l=[]:=by simpa using q2
  subst hl;rw [q1];refine (Any.slices_Sort_string_none Tryz.laysSort none 0 c.w0).mono ?_;rintro e w' ⟨rfl,rfl⟩;have:=ri (w':=c.w0) (j:=0) (v:=β 0) (f:=[]) (e:=9) (k:=1) (R:=[]) S (by rw [hp]; intro p hp; simp at hp; subst hp; exact ⟨rfl,rfl⟩) ⟨by omega,by simp,.inl ⟨q1,rfl,rfl⟩⟩ (by simp [Ob,q1]) (by simp [Ob,q1]) (fun _ _=>rfl) (Nat.le_refl _) rfl rfl rfl
  exact fin (by simpa [d5] using this)
 ·rw [eStrs_length] at q1 q3 q6;obtain ⟨u1,u2,u3⟩:=xp q6;have q7:=q7 rfl;rw [u2] at q7;have hlt:b < c.w0.heap.size:=(Array.getElem?_eq_some_iff.1 q2).1;have hH:Holds encStr c.w0 b 0 l.toArray:=by
   intro j hj;have hj:j < l.length:=by simpa using hj
   have hjc:j < cs.size:=by omega
   constructor
   ·have:(cs.toList.take (l.length * 1))[j]? = some (encStr l[j]):=by rw [u1]; simp [hj]
    rw [List.getElem?_take,if_pos (by omega)] at this
    simp only [World.cell?,q2]
    simpa [hj] using this
   ·simp [World.frozen?,q2]
  rw [q1];refine (Any.slices_Sort_string Tryz.laysSort b 0 cap l c.w0 hH hlt (by omega)).mono ?_
  rintro e w' ⟨rfl,n,os,rfl⟩;obtain ⟨z1,z2,z3,z4,z5⟩:=CQ (n:=n) (d:=d5 l) (os:=os) q2;have hob:Ob β 0 (fp 0) (.own 9 1 true (aa l))=[b]:=by simp [Ob,q1,q7]
  rw [hob] at hfr;have:=ri (j:=0) (v:=β 0) (f:=[]) (e:=9) (k:=1) (R:=aa (d5 l)) (w':=grow (putRow encStr (Sort.ahead c.w0 n) b 0 (d5 l).toArray) os) S (by rw [hp]; intro p hp; simp at hp; subst hp; exact ⟨rfl,rfl⟩)
   ⟨by omega,by simp [aa,ar],.inr ⟨b,cap,putCells encStr 0 (d5 l).toArray cs,[],by rw [eStrs_length,rH]; exact q1,z1,by rw [eStrs_length,rH]; exact q3,q4,by rw [z4]; exact q5,by
    rw [eStrs_length,Nat.mul_one,z5 _ (Nat.le_refl _) (by rw [rH]; omega),List.take_length]
    exact xo fun s hs=>u3 s ((Du l s).1 hs),fun _=>rfl,by simp⟩⟩
   (by simp [Ob,q1]) (by simpa [Ob,q1] using hfr) (fun x hG=>z2 x (hGlt x hG) fun e=>by subst e; exact hfr x (by simp) hG) z3 rfl rfl rfl
  rw [q1] at this fin;exact fin this
theorem Hu {w:World} {m:Nat->Option Blk} {β:Nat->Value} {c:Cx} {h b cap:Nat} {cells:Array Value} {C:List Str} (hv:β h = .slice (some ⟨b,0,none⟩) C.length cap) (hw:w.heap[b]? = some (.cells cells 9 (0,0))) (hcap:C.length<=cap) (q4:cap<=maxLen) (q5:cells.size=cap * 1)
  (htk:cells.toList.take C.length=C.map encStr) (hu:∀ s ∈ C,s.length<=maxLen):BlkOk w m β c h [] (.own 9 1 true (aa C)):=by
 refine ⟨by omega,by simp [aa,ar],.inr ⟨b,cap,cells,[],?_,hw,?_,q4,q5,?_,fun _=>rfl,by simp⟩⟩
 ·rw [eStrs_length]; exact hv
 ·rw [eStrs_length]; exact hcap
 ·rw [eStrs_length,Nat.mul_one,htk];exact xo hu
def cCompactS:Con:={ A:=List Str,X:=Unit,n:=61,args:=fun l=>[.own 0 1 (aa l)],boxes:=fun _=>[],pre:=fun l=>l.length<=1048576,post:=fun _ _=>True,res:=fun l _=>.own 8 1 (aa (Lib.compact l)),fin:=fun l _=>[(8,.own 9 1 true (aa (Lib.compact l)))],owns:=fun l=>[(0,9,1,aa l)],mv:=true }
theorem GE (l:List Str):(Lib.compact l).length<=l.length:=by
 unfold Lib.compact Lib.compactUpTo;rw [List.length_map];exact Nat.le_trans (List.length_filter_le _ _) (by simp)
theorem GF (l:List Str):∀ s ∈ Lib.compact l,s ∈ l:=by
 intro s hs;unfold Lib.compact Lib.compactUpTo at hs;obtain ⟨j,hj,rfl⟩:=List.mem_map.1 hs;have hj:j < l.length:=by simpa using (List.mem_filter.1 hj).1
 rw [getElem!_pos _ j (by simpa using hj)]
 simp
set_option maxHeartbeats 400000 in
theorem GD:Has Tryz.prog 94 cCompactS:=by
 refine ⟨fun args w=>Go.MuLone.run_callFunc_enter Tryz.func94 (by kernel_rfl) rfl args w,fun _=>⟨(),trivial⟩,fun _ _=>rfl,?_,trivial,.inl rfl⟩
 intro (l:List Str) (h1:l.length<=1048576) c _ vs β fp hn hpin hlen hlen2 S;have hp:c.pins=[]:=hpin;have hr:=li hlen S;obtain ⟨v0,vs1,rfl,r0,hr⟩:=hr.uncons;cases hr;have m0:(cCompactS.start2 l).m 0=some (.own 9 1 true (aa l)):=rfl;have e0:v0 = β 0:=by cases r0 with | own _ _ h3 _=>exact (h3 _ _ _ _ m0).1
 subst e0;have hfr:=S.free 0 _ m0;have hGlt:∀ b,c.G b->b < c.w0.heap.size:=fun b hG=>(S.old b hG).1;have fin:∀ {w':World} {v:Value},(∃ β' fp' a',SatI c ⟨fun _=>none,ai [(8,.own 9 1 true (aa (Lib.compact l)))]⟩ a' w' β' fp'/\RelL w' (ai [(8,.own 9 1 true (aa (Lib.compact l)))]) β' c [.own 8 1 (aa (Lib.compact l))] [v]) ->
   ∃ x,cCompactS.post l x /\ ∃ v',Ending.returned v=Ending.returned v' /\ ∃ β' fp' a',SatI c (cCompactS.end_ l x) a' w' β' fp'/\RelL w' (ai (cCompactS.fin l x)) β' c [cCompactS.res l x] [v'] :=
  fun ⟨β',fp',a',g1,g2⟩=>⟨(),trivial,_,rfl,β',fp',a',g1,g2⟩
 obtain ⟨_,_,B0⟩:=S.mem 0 _ m0;rcases B0 with ⟨q1,q2,q3⟩ | ⟨b,cap,cs,f0,q1,q2,q3,q4,q5,q6,q7,_⟩
 ·have hl:l=[]:=by simpa using q2
  subst hl;rw [q1];refine (Any.slices_Compact_string_empty Tryz.laysCompact none 0 c.w0).mono ?_;rintro e w' ⟨rfl,rfl⟩;have:=ri (w':=c.w0) (j:=8) (v:=.slice none 0 0) (f:=[]) (e:=9) (k:=1) (R:=[]) S (by rw [hp]; simp) ⟨by omega,by simp,.inl ⟨rfl,rfl,rfl⟩⟩ (by simp [Ob]) (by simp [Ob]) (fun _ _=>rfl) (Nat.le_refl _) rfl rfl rfl
  exact fin (by simpa [Lib.compact,Lib.compactUpTo] using this)
 ·rw [eStrs_length] at q1 q3 q6;obtain ⟨u1,u2,u3⟩:=xp q6;have q7:=q7 rfl;rw [u2] at q7;have hlt:b < c.w0.heap.size:=(Array.getElem?_eq_some_iff.1 q2).1;have hH:Holds encStr c.w0 b 0 l.toArray:=by
   intro j hj;have hj:j < l.length:=by simpa using hj
   have hjc:j < cs.size:=by omega
   constructor
   ·have:(cs.toList.take (l.length * 1))[j]? = some (encStr l[j]):=by rw [u1]; simp [hj]
    rw [List.getElem?_take,if_pos (by omega)] at this
    simp only [World.cell?,q2]
    simpa [hj] using this
   ·simp [World.frozen?,q2]
  rw [q1];refine (Any.slices_Compact_string Tryz.laysCompact b 0 cap l c.w0 hH (by omega) q3).mono ?_
  rintro e w' ⟨rfl,n,rfl⟩;have hcl:=GE l;obtain ⟨z1,z2,z3,z4,z5⟩:=CQ (n:=n) (d:=Lib.compact l++List.replicate (l.length - (Lib.compact l).length) []) (os:=#[]) q2;simp only [grow_empty] at z1 z2 z3 z4 z5;have hob:Ob β 0 (fp 0) (.own 9 1 true (aa l))=[b]:=by simp [Ob,q1,q7]
  rw [hob] at hfr;have htk:=z5 (Lib.compact l).length (by simp) (by omega)
  rw [List.take_left] at htk;have hu:∀ s ∈ Lib.compact l,s.length<=maxLen:=fun s hs=>u3 s (GF l s hs);generalize hcs:putCells encStr 0 (Lib.compact l++List.replicate (l.length - (Lib.compact l).length) []).toArray cs=cells at z1 z4 htk;generalize hw':putRow encStr (Sort.ahead c.w0 n) b 0 (Lib.compact l++List.replicate (l.length - (Lib.compact l).length) []).toArray=w1 at z1 z2 z3;have hos:w1.os=c.w0.os:=by rw [<- hw']; rfl
  have htp:w1.tape=c.w0.tape:=by rw [<- hw']; rfl
  have hou:w1.output=c.w0.output:=by rw [<- hw']; rfl
  have hw'':putRow encStr (Sort.ahead c.w0 n) b 0 (Lib.compact l++List.replicate (l.length - (Lib.compact l).length) []).toArray=w1:=hw';clear hw' hcs;generalize hC:Lib.compact l=C at *;have:=ri (j:=8) (v:=.slice (some ⟨b,0,none⟩) C.length cap) (f:=[]) (e:=9) (k:=1) (R:=aa C) (w':=w1) S (by rw [hp]; simp)
   (Hu (cells:=cells) rfl z1 (by omega) q4 (by rw [z4]; exact q5) htk hu) (by simp [Ob]) (by simpa [Ob] using hfr) (fun x hG=>z2 x (hGlt x hG) fun e=>by subst e; exact hfr x (by simp) hG) z3 hos htp hou
  exact fin this
end Vx
end Go.Proofs.YthgfdbfmnbgkaaaGreatDoor
namespace Go.Proofs.YthgfdbfmnbgkaaaGreatDoor
set_option maxHeartbeats 4000000
namespace Vx
open Go.RowKit
set_option maxRecDepth 8000
def fK (t:List FileD):Prop:=t.length<=1048576/\(∀ f ∈ t,f.text.length<=1048576) /\ ∀ f ∈ t,f.path.length<=536870912
def gz (t:List FileD) (p:Str):List Str × Bool:=match t.find? (fun f=>decide (f.path=p)) with
 | some f=>(f.text,true)
 | none=>([],false)
theorem HA {t:List FileD} {p:Str} {i:Nat} (h:i < t.length) (h1:∀ j (hj:j < t.length),j < i -> ¬ t[j].path=p) (h2:t[i].path=p):gz t p=(t[i].text,true):=by
 have:t.find? (fun f=>decide (f.path=p))=some t[i]:=by
  rw [List.find?_eq_some_iff_getElem];refine ⟨by simp -implicitDefEqProofs [h2],i,h,rfl,fun j hj=>?_⟩
  simpa using h1 j (by omega) hj
 unfold gz; rw [this]
theorem HC {t:List FileD} {p:Str} (h:∀ j (hj:j < t.length),¬ t[j].path=p):gz t p=([],false):=by
 have:t.find? (fun f=>decide (f.path=p))=none:=by
  rw [List.find?_eq_none];intro f hf;obtain ⟨j,hj,rfl⟩:=List.getElem_of_mem hf
  simpa using h j hj
 unfold gz; rw [this]
def lM:Con:=.fn 22 (List FileD × Str) (fun a=>[.sl true 2 (ac a.1),.str a.2]) (fun a=>∀ f ∈ a.1,f.text.length<=1048576) (fun a=>.tup [.own 8 1 (aa (gz a.1 a.2).1),.bool (gz a.1 a.2).2]) (fun a=>dN 8 (gz a.1 a.2).1)
theorem vG:Has Tryz.prog 87 lM:=by
 refine ah mixed aw (HasL.cons pY HasL.nil) [0,1,4,5,7,8,9,10] ((fun a n (_:Nat)=>(fun a _=>⟨Nat,fun i=>⟨[(1,true,.str a.2),(4,true,.nil),(5,true,.bool false),(8,true,.sl true 2 (ac a.1)),(9,true,.int .i64 a.1.length),(10,true,.int .i64 i)],[]⟩,fun i=>i<=a.1.length /\ ∀ j (hj:j < a.1.length),j < i -> ¬ a.1[j].path=a.2,fun i=>a.1.length - i⟩) a n)) [] Tryz.func87 (by unfold Tryz.f87; rfl) (fun _=>⟨(),trivial⟩) ?_
 intro a ha;obtain ⟨t,p⟩:=a;replace ha:∀ f ∈ t,f.text.length<=1048576:=ha;simp -implicitDefEqProofs [lM,lK,Con.fn,ag]
 try dsimp only
 refine fun _ i hi hb=>⟨fun hlt=>⟨hlt,fun _=>?_⟩,fun hge=>?_⟩
 ·have hf:=ha t[i] (List.getElem_mem hlt);have e1:=fun h=>HA (p:=p) hlt hb h;simp -implicitDefEqProofs [hlt,aq,D.asStr,D.asRows,and_assoc];refine ⟨fun h=>⟨hf,by rw [e1 h]; exact ⟨rfl,rfl,rfl⟩⟩,fun h=>⟨by omega,by omega,fun _ _=>⟨i+1,by omega,by omega,fun j hj hji=>?_,by omega⟩⟩⟩
  by_cases e:j=i
  ·subst e; exact h
  ·exact hb j hj (by omega)
 ·rw [HC fun j hj=>hb j hj (by omega)]
  exact ⟨⟨rfl,rfl⟩,rfl⟩
theorem vH (t:List FileD) (p:Str):gz t p=au t p:=by
 unfold gz
 induction t with
 | nil=>rfl
 | cons f t ih =>
  unfold au;by_cases h:f.path=p
  ·simp -implicitDefEqProofs [h]
  ·rw [List.find?_cons_of_neg (by simpa using h),if_neg h]; exact ih
--TAB dA
def dA:List (Nat × TI):=(253,⟨false,[.sl 82 1],24,[],82⟩) :: (220,⟨true,[.sl 9 1,.bool],32,[(22,0),(4,1)],0⟩) :: ag
theorem fw:∀ t ti,ai dA t=some ti->TOk Tryz.prog t ti:=rJ (by kernel_rfl)
theorem Pb {a b c:Str} (h:a<=b) (h':b<=c):a<=c:=List.le_trans h h'
theorem DB {a b:Str} (h:a<=b) (hne:a ≠ b):a < b:=mI b a h (Ne.symm hne)
theorem OT (l:List Str):(d5 l).Pairwise (· <= ·):=by
 have:=List.pairwise_mergeSort (le:=fun x y:Str=>decide (x<=y)) (fun a b c h h'=>by simp only [decide_eq_true_eq] at *; exact Pb h h') (fun a b=>by
  simp only [Bool.or_eq_true,decide_eq_true_eq];exact List.le_total a b) l
 refine List.Pairwise.imp ?_ this;intro a b h; simpa using h
theorem zn {l:List Str} (h:l.Pairwise (· <= ·)):∀ m,m<=l.length->srt (Lib.compactUpTo l.toArray m) /\ ∀ x,x ∈ Lib.compactUpTo l.toArray m ↔ x ∈ l.take m
 | 0,_=>⟨by simp -implicitDefEqProofs [Lib.compactUpTo,srt],by simp -implicitDefEqProofs [Lib.compactUpTo]⟩
 | m+1,hm=>by
  obtain ⟨h1,h2⟩:=zn h m (by omega)
  have hlt:m < l.length:=by omega
  have e:l.toArray[m]! = l[m]:=by simp -implicitDefEqProofs [hlt]
  have hall:∀ x ∈ l.take m,x<=l[m]:=by
   intro x hx;obtain ⟨i,hi,rfl⟩:=List.getElem_of_mem hx;have hi':i < m:=by simp at hi; omega
   rw [List.getElem_take];exact List.pairwise_iff_getElem.1 h i m (by omega) hlt hi'
  rw [Lib.compactUpTo_succ,e,aX hlt];by_cases hk:Lib.keeps l.toArray m=true
  ·rw [if_pos hk];refine ⟨List.pairwise_append.2 ⟨h1,by simp,fun x hx y hy=>?_⟩,fun x=>by rw [List.mem_append,List.mem_append,h2]⟩
   have:y=l[m]:=by simpa using hy
   subst this;have hx:=(h2 x).1 hx;have hle:=hall x hx;refine DB hle fun e2=>?_;have hm0:0 < m:=by
    rcases Nat.eq_zero_or_pos m with h0 | h0
    ·subst h0; simp at hx
    ·exact h0
   have hne:l[m] ≠ l[m - 1]:=by
    have:=hk;unfold Lib.keeps at this;simp only [decide_eq_true_eq] at this;rcases this with h0 | h0
    ·omega
    ·simpa [hlt,show m - 1 < l.length by omega] using h0
   obtain ⟨i,hi,rfl⟩:=List.getElem_of_mem hx;have hi':i < m:=by simp at hi; omega
   rw [List.getElem_take] at e2 hle;rcases Nat.lt_or_ge i (m - 1) with hq | hq
   ·have q1:=List.pairwise_iff_getElem.1 h i (m - 1) (by omega) (by omega) hq
    have q2:=List.pairwise_iff_getElem.1 h (m - 1) m (by omega) hlt (by omega)
    have q3:=DB q2 (Ne.symm hne);rw [<- e2] at q3;exact q1 q3
   ·have:i=m - 1:=by omega
    subst this;exact hne e2.symm
  ·rw [if_neg hk,List.append_nil];refine ⟨h1,fun x=>?_⟩;rw [h2,List.mem_append];have hk:Lib.keeps l.toArray m=false:=by simpa using hk
   unfold Lib.keeps at hk;simp only [decide_eq_false_iff_not,not_or,Classical.not_not] at hk;obtain ⟨k1,k2⟩:=hk;have k3:l[m]=l[m - 1]:=by simpa [hlt,show m - 1 < l.length by omega] using k2
   refine ⟨.inl,fun hx=>hx.elim id fun hx=>?_⟩;have:x=l[m]:=by simpa using hx
   rw [this,k3];exact List.mem_take_iff_getElem.2 ⟨m - 1,by omega,rfl⟩
theorem GG (l:List Str):srt (Lib.compact (d5 l)) /\ ∀ x,x ∈ Lib.compact (d5 l) ↔ x ∈ l:=by
 obtain ⟨h1,h2⟩:=zn (OT l) (d5 l).length (Nat.le_refl _);exact ⟨h1,fun x=>by
  unfold Lib.compact;rw [h2,List.take_length,Du]⟩
def oV (ts:List (List FileD)):List Str:=Lib.compact (d5 (ts.flatten.map (·.path)))
theorem sg (o a b:List FileD):oV [o,a,b]=aZ o a b:=by
 obtain ⟨h1,h2⟩:=GG (([o,a,b]:List (List FileD)).flatten.map (·.path));obtain ⟨h3,h4⟩:=CC o a b;refine Dx h1 h3 fun x=>?_;unfold oV at *;rw [h2,h4]; simp
def nC (t:List FileD):List D:=[.sl 119 2 (ac t)]
def kO (ts:List (List FileD)):List (List D):=ts.map nC
@[simp] theorem eTrees_length (l:List (List FileD)):(kO l).length=l.length:=by simp -implicitDefEqProofs [kO]
@[simp] theorem eTrees_get (l:List (List FileD)) (i:Nat):(kO l)[i]? = l[i]?.map nC:=by simp -implicitDefEqProofs [kO]
def dO (ts:List (List FileD)) (i j:Nat):List Str:=((ts.take i).flatten++(ts.getD i []).take j).map (·.path)
theorem CI (ts:List (List FileD)):dO ts 0 0=[]:=by simp -implicitDefEqProofs [dO]
theorem MZ (ts:List (List FileD)):dO ts ts.length 0=ts.flatten.map (·.path):=by simp -implicitDefEqProofs [dO]
theorem CJ {ts:List (List FileD)} {i:Nat} (h:i < ts.length):dO ts i (ts.getD i []).length=dO ts (i+1) 0:=by
 have e3:ts.getD i []=ts[i]:=by simp -implicitDefEqProofs [List.getD_eq_getElem?_getD,h]
 unfold dO;rw [aX h,e3,List.take_length,List.flatten_append,List.take_zero,List.append_nil];simp only [List.flatten_cons,List.flatten_nil,List.append_nil]
theorem M1 {ts:List (List FileD)} {i j:Nat} (h:j < (ts.getD i []).length):dO ts i (j+1)=dO ts i j++[(ts.getD i [])[j].path]:=by
 unfold dO;rw [aX h,<- List.append_assoc,List.map_append]; rfl
theorem Hk {ts:List (List FileD)} {i:Nat} (j:Nat) (h:i < ts.length):((ts.take i).flatten++(ts.getD i []).take j).length<=ts.flatten.length:=by
 have e:=List.take_append_drop (i+1) ts;have e2:ts.flatten.length=((ts.take (i+1)).flatten++(ts.drop (i+1)).flatten).length:=by rw [<- List.flatten_append,e]
 rw [e2,aX h];have e3:ts.getD i []=ts[i]:=by simp -implicitDefEqProofs [List.getD_eq_getElem?_getD,h]
 rw [e3];have:(List.take j ts[i]).length<=ts[i].length:=by rw [List.length_take]; omega
 simp only [List.length_append,List.flatten_append,List.flatten_cons,List.flatten_nil,List.append_nil];omega
theorem M0 {ts:List (List FileD)} {i:Nat} (j:Nat) (h:i < ts.length):(dO ts i j).length<=ts.flatten.length:=by unfold dO; rw [List.length_map]; exact Hk j h
def apI (ts:List (List FileD)):Inv:=⟨Nat,fun i=>⟨[(2,true,.nil),(3,true,.own 9 1 (aa (dO ts i 0))),(8,true,.sl true 1 (kO ts)),(9,true,.int .i64 ts.length),(10,true,.int .i64 i)],[(9,.own 9 1 true (aa (dO ts i 0)))]⟩,fun i=>i<=ts.length,fun i=>ts.length - i⟩
def apJ (ts:List (List FileD)) (g:Nat):Inv:=⟨Nat,fun j=>⟨[(2,true,.nil),(3,true,.own 9 1 (aa (dO ts g j))),(8,true,.sl true 1 (kO ts)),(9,true,.int .i64 ts.length),(10,true,.int .i64 g),(14,true,.sl true 2 (ac (ts.getD g []))),(15,true,.int .i64 (ts.getD g []).length),(16,true,.int .i64 j)],[(9,.own 9 1 true (aa (dO ts g j)))]⟩,fun j=>g < ts.length/\j<=(ts.getD g []).length,fun j=>(ts.getD g []).length - j⟩
def sm (ts:List (List FileD)) (n g:Nat):Inv:=if n=3 then apI ts else apJ ts g
theorem EM (ts g):sm ts 3 g=apI ts:=rfl
theorem EN (ts g):sm ts 6 g=apJ ts g:=rfl
def sK:Con:=.fn 31 (List (List FileD)) (fun ts=>[.sl true 1 (kO ts)]) (fun ts=>ts.flatten.length<=1048576/\ts.length<=1048576) (fun ts=>.own 8 1 (aa (oV ts))) (fun ts=>dN 8 (oV ts))
theorem EB:Has Tryz.prog 226 sK:=by
 refine ah mixed fw (HasL.cons OU (HasL.cons GD HasL.nil)) [0,2,3,5,7,8,9,10,14,15,16] (sm) [] Tryz.func226 (by unfold Tryz.f226; rfl) (fun _=>⟨(),trivial⟩) ?_
 intro (ts:List (List FileD)) ha;obtain ⟨h1,h2⟩:ts.flatten.length<=1048576/\ts.length<=1048576:=ha;simp (maxSteps:=4000000) [sK,cSortS,cCompactS,Con.fn,dA,ag,EM,EN,apI,apJ]
 try dsimp only
 refine fun _=>⟨⟨0,⟨⟨CI ts,rfl⟩,CI ts⟩,Nat.zero_le _⟩,fun i hi=>⟨fun hlt=>⟨hlt,fun _=>?_⟩,fun hge=>?_⟩⟩
 ·have qq:Option.map nC ts[i]? = some (nC ts[i]):=by simp -implicitDefEqProofs [hlt]
  have e3:ts[i]?.getD []=ts[i]:=by simp -implicitDefEqProofs [hlt]
  have e4:(ts[i]?.getD []).length=ts[i].length:=by rw [e3]
  have hb:∀ j,(dO ts i j).length<=ts.flatten.length:=fun j=>M0 j hlt;rw [qq];simp -implicitDefEqProofs [nC,D.asRows];refine fun _=>⟨i,⟨0,⟨⟨rfl,rfl,by rw [e3],by rw [e3],rfl⟩,rfl⟩,hlt,Nat.zero_le _⟩,fun j hg hj=>⟨fun hjl=>⟨hjl,fun _=>?_⟩,fun hjg=>⟨by omega,fun _ _=>⟨i+1,⟨⟨?_,by omega⟩,?_⟩,by omega,by omega⟩⟩⟩⟩
  ·have q2:Option.map aq (ts[i]?.getD [])[j]? = some (aq (ts[i]?.getD [])[j]):=by simp -implicitDefEqProofs [hjl]
   have q3:dO ts i (j+1)=dO ts i j++[(ts[i]?.getD [])[j].path]:=M1 (ts:=ts) (i:=i) (j:=j) hjl;have hbj:=hb j;rw [q2];simp -implicitDefEqProofs [aq,D.asRows,D.asStr];refine ⟨⟨by omega,by omega⟩,by omega,fun _ _=>⟨j+1,⟨⟨?_,by omega⟩,?_⟩,⟨hg,by omega⟩,by omega⟩⟩
   ·rw [q3,<- bu]
   ·rw [q3,<- bu]
  ·rw [show j=(ts.getD i []).length by rw [List.getD_eq_getElem?_getD]; omega,CJ hlt]
  ·rw [show j=(ts.getD i []).length by rw [List.getD_eq_getElem?_getD]; omega,CJ hlt]
 ·have:i=ts.length:=by omega
  subst this;rw [rH,MZ,List.length_map];exact ⟨h1,h1,rfl,rfl⟩
def s6:Con:=.fn 16 (List FileD × Str) (fun a=>[.sl true 2 (ac a.1),.str a.2]) (fun a=>∀ f ∈ a.1,f.text.length<=1048576) (fun a=>.agg [.own 8 1 (aa (gz a.1 a.2).1),.bool (gz a.1 a.2).2]) (fun a=>dN 8 (gz a.1 a.2).1)
theorem HP:Has Tryz.prog 228 s6:=by
 refine ah mixed fw (HasL.cons vG HasL.nil) [0,1,4,5,6] ((fun a n (_:Nat)=>(fun _=>az) a n)) [] Tryz.func228 (by unfold Tryz.f228; rfl) (fun _=>⟨(),trivial⟩) ?_
 intro a ha;obtain ⟨t,p⟩:=a;replace ha:∀ f ∈ t,f.text.length<=1048576:=ha;simp -implicitDefEqProofs [s6,lM,Con.fn,dA,ag]
 try dsimp only
 exact ⟨t,p,⟨rfl,rfl⟩,ha,fun h=>⟨⟨rfl,h⟩,rfl⟩,fun h=>⟨⟨rfl,h⟩,rfl⟩⟩
--TAB dA
def mX:Con:=.fn 26 (List Str × List Str) (fun a=>[.sl true 1 (aa a.1),.sl true 1 (aa a.2)]) (fun _=>True) (fun a=>.bool (decide (a.1=a.2))) (fun _=>[])
theorem vm:Has Tryz.prog 88 mX:=by
 refine ah mixed fw HasL.nil [0,1,4,5,12,13] ((fun a n (_:Nat)=>(fun a _=>⟨Nat,fun i=>⟨[(0,true,.sl true 1 (aa a.1)),(1,true,.sl true 1 (aa a.2)),(4,true,.bool false),(12,true,.int .i64 a.1.length),(13,true,.int .i64 i)],[]⟩,fun i=>i<=a.1.length/\a.1.length=a.2.length/\a.1.take i=a.2.take i,fun i=>a.1.length - i⟩) a n)) [] Tryz.func88 (by unfold Tryz.f88; rfl) (fun _=>⟨(),trivial⟩) ?_
 intro a _;obtain ⟨l,r⟩:=a;simp -implicitDefEqProofs [mX,Con.fn,dA,ag]
 try dsimp only
 try simp +contextual -implicitDefEqProofs [ar,aq,bR,bm,bS,List.getElem?_eq_getElem,bW,bp,bK,bU,<- br,<- bN,bn,bw,bV,bT,bu,bJ,and_assoc]
 repeat' (first | intro _ | apply And.intro)
 all_goals first | omega | grind [cn,nD,lY]
def mF (a b:List Str × Bool):Bool:=decide (a.2=b.2) && decide (a.1=b.1)
def s7:Con:=.fn 17 ((List Str × Bool) × (List Str × Bool)) (fun a=>[.agg [.sl true 1 (aa a.1.1),.bool a.1.2],.agg [.sl true 1 (aa a.2.1),.bool a.2.2]]) (fun _=>True) (fun a=>.bool (mF a.1 a.2)) (fun _=>[])
theorem HQ:Has Tryz.prog 262 s7:=by
 refine ah mixed fw (HasL.cons vm HasL.nil) [0,1,2,3,4] ((fun a n (_:Nat)=>(fun _=>az) a n)) [] Tryz.func262 (by unfold Tryz.f262; rfl) (fun _=>⟨(),trivial⟩) ?_
 intro a _;obtain ⟨⟨x,p⟩,y,q⟩:=a;simp -implicitDefEqProofs [-kStep_move,-Bool.exists_bool,s7,mX,Con.fn,dA,ag]
 try dsimp only
 exact ⟨x,y,⟨rfl,rfl⟩,rfl⟩
def sM:Con:=.fn 17 (List Str × List Str × List Str) (fun a=>[.sl true 1 (aa a.1),.sl true 1 (aa a.2.1),.sl true 1 (aa a.2.2)]) (fun _=>True) (fun a=>.bool (bg a.1 && bg a.2.1 && bg a.2.2)) (fun _=>[])
theorem ES:Has Tryz.prog 300 sM:=by
 refine ah mixed fw (HasL.cons rP HasL.nil) [0,1,2,6] ((fun a n (_:Nat)=>(fun _=>az) a n)) [] Tryz.func300 (by unfold Tryz.f300; rfl) (fun _=>⟨(),trivial⟩) ?_
 intro a _;obtain ⟨x,y,z⟩:=a;simp -implicitDefEqProofs [-kStep_move,-Bool.exists_bool,sM,lT,Con.fn,dA,ag]
 try dsimp only
 cases bg x <;> cases bg y <;> simp
def di (t:List FileD):Prop:=∀ f ∈ t,f.path.length<=536870912
def ph:Con:=.fn 17 (List FileD × List FileD × List FileD) (fun a=>[.sl true 2 (ac a.1),.sl true 2 (ac a.2.1),.sl true 2 (ac a.2.2)]) (fun a=>di a.1/\di a.2.1/\di a.2.2) (fun a=>.bool (aC a.1 && aC a.2.1 && aC a.2.2)) (fun _=>[])
theorem yl:Has Tryz.prog 176 ph:=by
 refine ah mixed fw (HasL.cons lr HasL.nil) [0,1,2,6] ((fun a n (_:Nat)=>(fun _=>az) a n)) [] Tryz.func176 (by unfold Tryz.f176; rfl) (fun _=>⟨(),trivial⟩) ?_
 intro a ha;obtain ⟨x,y,z⟩:=a;obtain ⟨h1,h2,h3⟩:di x/\di y/\di z:=ha;simp -implicitDefEqProofs [-kStep_move,-Bool.exists_bool,ph,jb,Con.fn,dA,ag]
 try dsimp only
 refine ⟨h1,fun h=>⟨h,h2⟩,fun h h'=>⟨⟨h,h'⟩,h3⟩,?_⟩;cases aC x <;> cases aC y <;> simp
def gX:Con:=.fn 21 (RepoD × Str) (fun a=>[aM a.1,.str a.2]) (fun _=>True) (fun a=>.int .i64 (atL a.1.heads a.2)) (fun _=>[])
theorem jG:Has Tryz.prog 43 gX:=by
 refine ah mixed fw HasL.nil [0,1,2,4,6,8,9,10] ((fun a n (_:Nat)=>(fun a _=>⟨Nat,fun i=>⟨[(1,true,.str a.2),(4,true,.int .i64 0),(8,true,.sl true 2 (al a.1.heads)),(9,true,.int .i64 a.1.heads.length),(10,true,.int .i64 i)],[]⟩,fun i=>i<=a.1.heads.length/\atL (a.1.heads.drop i) a.2=atL a.1.heads a.2,fun i=>a.1.heads.length - i⟩) a n)) [] Tryz.func43 (by unfold Tryz.f43; rfl) (fun _=>⟨(),trivial⟩) ?_
 intro a _;obtain ⟨r,n⟩:=a;simp -implicitDefEqProofs [gX,Con.fn,dA,ag]
 try dsimp only
 refine fun _ t ht hm=>⟨fun hlt=>⟨hlt,fun _=>?_⟩,fun hge=>by rw [<- hm,List.drop_eq_nil_of_le hge]; rfl⟩
 have qq:Option.map bc r.heads[t]? = some (bc r.heads[t]):=by simp -implicitDefEqProofs [hlt]
 rw [List.drop_eq_getElem_cons hlt] at hm;rw [qq];generalize r.heads[t]=f at *;have hm:(if f.name=n then f.at_ else atL (r.heads.drop (t+1)) n)=atL r.heads n:=hm
 simp -implicitDefEqProofs [bc];refine ⟨fun h=>by rw [if_pos h] at hm; exact hm.symm,fun h=>⟨⟨by omega,by omega⟩,fun _ _=>⟨t+1,by omega,⟨by omega,?_⟩,by omega⟩⟩⟩
 rw [if_neg h] at hm;exact hm
def d7 (p:Str) (f:FileD):Bool:=decide (f.path=p) || inB p f.path
def tv:Con:=.fn 38 (List FileD × Str) (fun a=>[.sl true 2 (ac a.1),.str a.2]) (fun a=>a.1.length<=1048576) (fun a=>.sl false 2 (ac (aE (d7 a.2) a.1))) (fun _=>[])
theorem JK:Has Tryz.prog 232 tv:=by
 refine ah mixed aw (HasL.cons qN HasL.nil) [0,1,4,5,6] ((fun a n (_:Nat)=>(fun a _=>⟨Nat,fun i=>⟨[(0,true,.sl true 2 (ac a.1)),(1,true,.str a.2),(4,true,.nil),(5,true,.own 9 2 (ac (aE (d7 a.2) (a.1.take i)))),(6,true,.int .i64 i)],[(9,.own 119 2 false (ac (aE (d7 a.2) (a.1.take i))))]⟩,fun i=>i<=a.1.length,fun i=>a.1.length - i⟩) a n)) [35] Tryz.func232 (by unfold Tryz.f232; rfl) (fun _=>⟨(),trivial⟩) ?_
 intro a ha;obtain ⟨l,p⟩:=a;replace ha:l.length<=1048576:=ha;simp -implicitDefEqProofs [tv,lP,Con.fn,ag]
 try dsimp only
 have hl:∀ t,(aE (d7 p) (l.take t)).length<=1048576:=fun t=>by have:=List.length_filter_le (d7 p) (l.take t); unfold aE; rw [List.length_take] at this; omega
 have e1:=fun i h=>@nE (d7 p) l i h;have e2:=fun i h=>@nF (d7 p) l i h;refine ⟨⟨0,⟨⟨by simp -implicitDefEqProofs [aE],rfl⟩,by simp -implicitDefEqProofs [aE]⟩,Nat.zero_le _⟩,fun t ht _=>⟨fun hlt=>⟨hlt,fun _=>?_⟩,fun hge=>by rw [List.take_of_length_le hge]⟩⟩
 have q1:Option.map aq l[t]? = some (aq l[t]):=by simp -implicitDefEqProofs [hlt]
 have g1:=e1 t hlt;have g2:=e2 t hlt;have b1:=hl t;rw [q1];simp -implicitDefEqProofs [aq,D.asStr,D.asRows];exact ⟨fun h=>⟨hlt,fun _=>⟨⟨by omega,by omega⟩,⟨by omega,by omega⟩,fun _ _=>⟨t+1,⟨⟨by rw [g1 (by simp -implicitDefEqProofs [d7,h])]; simp -implicitDefEqProofs [ac,aq],by omega⟩,by rw [g1 (by simp -implicitDefEqProofs [d7,h])]; simp -implicitDefEqProofs [ac,aq]⟩,by omega,by omega⟩⟩⟩,fun h=>⟨hlt,fun _=>⟨_,_,⟨rfl,rfl⟩,fun h2=>⟨hlt,fun _=>⟨⟨by omega,by omega⟩,⟨by omega,by omega⟩,fun _ _=>⟨t+1,⟨⟨by rw [g1 (by simp -implicitDefEqProofs [d7,h2])]; simp -implicitDefEqProofs [ac,aq],by omega⟩,by rw [g1 (by simp -implicitDefEqProofs [d7,h2])]; simp -implicitDefEqProofs [ac,aq]⟩,by omega,by omega⟩⟩⟩,fun h2=>⟨⟨by omega,by omega⟩,fun _ _=>⟨t+1,⟨⟨by rw [g2 (by simp -implicitDefEqProofs [d7,h,h2])],by omega⟩,by rw [g2 (by simp -implicitDefEqProofs [d7,h,h2])]⟩,by omega,by omega⟩⟩⟩⟩⟩
def tr:Con:=.fn 42 (List FileD × List FileD) (fun a=>[.sl true 2 (ac a.1),.sl true 2 (ac a.2)]) (fun _=>True) (fun a=>.bool (decide (a.1=a.2))) (fun _=>[])
theorem JI:Has Tryz.prog 233 tr:=by
 refine ah mixed aw (HasL.cons wn HasL.nil) [0,1,4,5] ((fun a n (_:Nat)=>(fun a _=>⟨Nat,fun i=>⟨[(0,true,.sl true 2 (ac a.1)),(1,true,.sl true 2 (ac a.2)),(4,true,.bool false),(5,true,.int .i64 i)],[]⟩,fun i=>i<=a.1.length/\a.1.length=a.2.length/\a.1.take i=a.2.take i,fun i=>a.1.length - i⟩) a n)) [] Tryz.func233 (by unfold Tryz.f233; rfl) (fun _=>⟨(),trivial⟩) ?_
 intro a _;obtain ⟨l,r⟩:=a;simp -implicitDefEqProofs [tr,nf,Con.fn,ag]
 try dsimp only
 refine fun _ _=>⟨fun h e=>h (by rw [e]),fun h=>⟨by omega,fun t ht h0 hm _=>⟨fun hlt=>⟨hlt,fun _=>?_⟩,fun hge=>lY h0 hge hm⟩⟩⟩
 have hr:t < r.length:=by omega
 have q1:Option.map aq l[t]? = some (aq l[t]):=by simp -implicitDefEqProofs [hlt]
 have q2:Option.map aq r[t]? = some (aq r[t]):=by simp -implicitDefEqProofs [hr]
 have nx:l[t]=r[t]->l.take (t+1)=r.take (t+1):=nD hlt hr hm;have ne:¬ l[t]=r[t] -> ¬ l=r:=fun h e=>h (by subst e; rfl)
 rw [q1,q2];generalize l[t]=x at *;generalize r[t]=y at *;simp -implicitDefEqProofs [aq,D.asStr,D.asRows];exact ⟨hr,fun _=>⟨fun h=>ne fun e=>h (by rw [e]),fun h1=>⟨hlt,fun _=>⟨hr,fun _=>⟨_,_,⟨rfl,rfl⟩,fun h2=>ne fun e=>h2 (by rw [e]),fun h2=>⟨⟨by omega,by omega⟩,fun _ _=>⟨t+1,by omega,⟨by omega,h0,nx (by rw [FileD.eq_iff]; exact ⟨h1,h2⟩)⟩,by omega⟩⟩⟩⟩⟩⟩⟩
def ek (l:List Bool) (i:Int) (ks:List Int):List Bool:=ks.foldl (fun l k=>if k=i then l else l.set k.toNat false) l
theorem zf (i:Int) (ks:List Int):∀ l:List Bool,(ek l i ks).length=l.length:=by
 induction ks with
 | nil=>intro l; rfl
 | cons p r ih =>
  intro l
  show (ek (if p=i then l else l.set p.toNat false) i r).length=_
  rw [ih]; split <;> simp
def aY (r:RepoD) (a b:Int):List Bool:=(List.range r.commits.length).map fun i=>isT (anc r a) i && isT (anc r b) i
theorem pW (r:RepoD) (a b:Int):(aY r a b).length=r.commits.length:=by simp -implicitDefEqProofs [aY]
def ei (r:RepoD) (L:List Int) (l:List Bool):List Bool:=L.foldl (fun l i=>ek l i (ak (anc r i))) l
theorem o9 (r:RepoD) (L:List Int):∀ l:List Bool,(ei r L l).length=l.length:=by
 induction L with
 | nil=>intro l; rfl
 | cons i L ih =>
  intro l
  show (ei r L (ek l i (ak (anc r i)))).length=_
  rw [ih,zf]
def dh (r:RepoD) (a b:Int):List Int:=ak (ei r (ak (aY r a b)) (aY r a b))
theorem Iz {l:List Bool} {p g:Nat}:isT (l.set p false) g=(isT l g && !decide (p=g)):=by
 unfold isT;rw [List.getD_eq_getElem?_getD,List.getD_eq_getElem?_getD];by_cases h:p=g
 ·subst h;rw [List.getElem?_set_self'];cases l[p]? <;> simp
 ·rw [List.getElem?_set_ne h]; simp -implicitDefEqProofs [h]
theorem Gn (i:Int) {ks:List Int} (hk:∀ k ∈ ks,0<=k) (g:Nat):∀ l:List Bool,isT (ek l i ks) g=(isT l g && (decide ((g:Int)=i) || !decide ((g:Int) ∈ ks))):=by
 induction ks with
 | nil=>intro l; simp -implicitDefEqProofs [ek]
 | cons p r ih =>
  intro l
  show isT (ek (if p=i then l else l.set p.toNat false) i r) g=_
  rw [ih (fun k hk'=>hk k (by simp -implicitDefEqProofs [hk']))]
  have hp:=hk p (by simp)
  split
  ·rename_i h;subst h;cases hq:isT l g <;> simp
   by_cases hg:(g:Int)=p
   ·simp -implicitDefEqProofs [hg]
   ·simp -implicitDefEqProofs [hg]
  ·rename_i h;rw [Iz];have e:(p.toNat=g)=((g:Int)=p):=by apply propext; omega
   cases hq:isT l g <;> simp -implicitDefEqProofs [e]
   by_cases hg:(g:Int)=p
   ·simp -implicitDefEqProofs [hg,h]
   ·simp -implicitDefEqProofs [hg]
theorem qX {l:List Bool}:∀ k ∈ ak l,0<=k:=fun k hk=>by obtain ⟨i,_,_,rfl⟩:=listT_mem.1 hk; omega
theorem Fy (r:RepoD) (L:List Int) (g:Nat):∀ l:List Bool,isT (ei r L l) g=(isT l g && L.all fun i=>decide ((g:Int)=i) || !decide ((g:Int) ∈ ak (anc r i))):=by
 induction L with
 | nil=>intro l; simp -implicitDefEqProofs [ei]
 | cons i L ih =>
  intro l
  show isT (ei r L (ek l i (ak (anc r i)))) g=_
  rw [ih,Gn i qX,List.all_cons,Bool.and_assoc]
def lastB (r:RepoD) (L:List Int) (x:Int):Bool:=L.all fun y=>decide (x=y) || !decide (x ∈ ak (anc r y))
theorem Bj {l m:List Bool} (hl:l.length=m.length) (p:Int->Bool) (h:∀ g:Nat,isT m g=(isT l g && p g)):ak m=(ak l).filter p:=by
 unfold ak dE;rw [<- hl,List.filter_map,List.filter_filter]
 congr 1
 apply List.filter_congr;intro g _;rw [h g,Bool.and_comm]; rfl
theorem Fv (r:RepoD) (a b:Int):dh r a b=(ak (aY r a b)).filter (lastB r (ak (aY r a b))) :=
 Bj (o9 _ _ _).symm _ fun g=>Fy r _ g _
theorem qy {l:List Bool} {g:Nat} (h:isT l g=true):g < l.length:=by
 unfold isT at h;rcases Nat.lt_or_ge g l.length with h2 | h2
 ·exact h2
 ·rw [List.getD_eq_getElem?_getD,List.getElem?_eq_none h2] at h; simp at h
theorem Ix {r:RepoD} {a b:Int} (g:Nat):isT (aY r a b) g=(isT (anc r a) g && isT (anc r b) g):=by
 have hla:=ci r a;rcases Nat.lt_or_ge g r.commits.length with h | h
 ·unfold aY;rw [isT,List.getD_eq_getElem?_getD,List.getElem?_map,List.getElem?_range h]; rfl
 ·have e1:isT (aY r a b) g=false:=by
   cases q:isT (aY r a b) g with
   | false=>rfl
   | true=>have:=qy q; rw [pW] at this; omega
  have e2:isT (anc r a) g=false:=by
   cases q:isT (anc r a) g with
   | false=>rfl
   | true=>have:=qy q; rw [hla] at this; omega
  rw [e1,e2]; rfl
theorem FN (r:RepoD) (a b:Int):cL r a b (ak (anc r a)).length=ak (aY r a b):=by
 unfold cL;rw [List.take_length];refine (Bj (by rw [pW,ci]) _ fun g=>?_).symm
 rw [Ix]
 congr 1
 rw [Bool.eq_iff_iff,decide_eq_true_eq,listT_mem];constructor
 ·intro h; exact ⟨g,qy h,h,rfl⟩
 ·rintro ⟨i,_,h,e⟩;have:g=i:=by omega
  rw [this]; exact h
theorem KO (l:List Bool):(ak l).Nodup:=by
 unfold ak dE;rw [List.nodup_iff_pairwise_ne,List.pairwise_map];exact (List.Pairwise.filter _ List.pairwise_lt_range).imp fun h=>by omega
theorem Hh {L:List Int} (p:Int->Bool):((List.range L.length).filter fun i=>p (L.getD i 0)).map (fun j=>L.getD j 0)=L.filter p:=by
 have e:L=(List.range L.length).map fun j=>L.getD j 0:=by
  apply List.ext_getElem
  ·simp
  ·intro i h1 h2;simp -implicitDefEqProofs [List.getD_eq_getElem?_getD,h1]
 have h:L.filter p=((List.range L.length).map fun j=>L.getD j 0).filter p:=congrArg (List.filter p) e;rw [h,List.filter_map]; rfl
theorem sA (r:RepoD) (a b:Int):dh r a b=eh r a b:=by
 rw [Fv];unfold eh;rw [FN];have hnd:=KO (aY r a b);generalize ak (aY r a b)=L at *;rw [<- Hh (lastB r L)];unfold ec
 congr 1
 apply List.filter_congr;intro i hi;have hi:i < L.length:=by simpa using hi
 have gi:L.getD i 0=L[i]:=by simp -implicitDefEqProofs [List.getD_eq_getElem?_getD,hi]
 unfold lastB kw;rw [Bool.eq_iff_iff,List.all_eq_true,List.all_eq_true];simp only [List.mem_range,Bool.or_eq_true,decide_eq_true_eq,Bool.not_eq_true',decide_eq_false_iff_not];constructor
 ·intro h j hj;have gj:L.getD j 0=L[j]:=by simp -implicitDefEqProofs [List.getD_eq_getElem?_getD,hj]
  rcases h L[j] (List.getElem_mem hj) with h | h
  ·left
   rw [gi] at h;exact ((List.getElem_inj hnd).1 h).symm
  ·right; rw [gj]; exact h
 ·intro h y hy;obtain ⟨j,hj,rfl⟩:=List.getElem_of_mem hy;have gj:L.getD j 0=L[j]:=by simp -implicitDefEqProofs [List.getD_eq_getElem?_getD,hj]
  rcases h j hj with h | h
  ·left; subst h; exact gi
  ·right; rw [gj] at h; exact h
def owI (r:RepoD):Inv:=⟨Nat,fun i=>⟨[(2,true,.ptr 12 0),(3,true,.ptr 11 0),(12,true,.sl true 3 (aD r.commits)),(13,true,.int .i64 r.commits.length),(14,true,.int .i64 i)],[(12,iC),(11,.box 35 [.own 13 3 (aD (r.commits.take i)),.own 14 2 (al r.heads)]),(13,.own 94 3 true (aD (r.commits.take i))),(14,.own 96 2 true (al r.heads))]⟩,fun i=>i<=r.commits.length,fun i=>r.commits.length - i⟩
def hJ:Con:=.fn 35 RepoD (fun r=>[aM r]) dI (fun r=>.agg [.own 8 3 (aD r.commits),.own 9 2 (al r.heads)]) (fun r=>iS 8 r.commits++gD 9 r.heads)
theorem jr:Has Tryz.prog 56 hJ:=by
 refine ah mixed aw (HasL.cons jc HasL.nil) [0,1,2,3,5,12,13,14] ((fun a n (_:Nat)=>(fun r _=>owI r) a n)) [30] Tryz.func56 (by unfold Tryz.f56; rfl) (fun _=>⟨(),trivial⟩) ?_
 intro (r:RepoD) hr;obtain ⟨h1,h2,h3⟩:r.commits.length<=1048576/\(∀ c ∈ r.commits,lU c)/\r.heads.length<=1048576:=hr;simp (maxSteps:=8000000) -implicitDefEqProofs [hJ,gY,Con.fn,ag,owI,aN]
 try dsimp only
 refine ⟨zP r.heads,⟨by omega,by omega⟩,fun _=>⟨⟨0,⟨rfl,.inl rfl⟩,Nat.zero_le _⟩,fun t ht=>⟨fun hlt=>⟨hlt,fun _=>?_⟩,fun hge=>by rw [List.take_of_length_le hge]; exact ⟨rfl,rfl⟩⟩⟩⟩
 have e:r.commits.take (t+1)=r.commits.take t++[r.commits[t]]:=aX hlt;have hc:=h2 _ (List.getElem_mem hlt);have qq:Option.map bI r.commits[t]? = some (bI r.commits[t]):=by simp -implicitDefEqProofs [hlt]
 have hm:min t r.commits.length=t:=by omega
 rw [qq,hm];generalize r.commits[t]=c at *;simp -implicitDefEqProofs [bI];exact ⟨zQ _,⟨by have:=hc.1; omega,by have:=hc.1; omega⟩,hc.2,⟨by omega,by omega⟩,⟨by omega,by omega⟩,fun _ _=>⟨t+1,⟨by omega,by rw [e,jM],by rw [e,jM]⟩,by omega,by omega⟩⟩
def ptL (l:List HeadD) (n:Str) (a:Int):List HeadD:=if l.any (fun h=>decide (h.name=n)) then l.set (l.findIdx fun h=>decide (h.name=n)) ⟨n,a⟩ else jh l ⟨n,a⟩
theorem M3 {l:List HeadD} {n:Str} {a:Int} {i:Nat} (hi:i < l.length) (hb:∀ j (hj:j < l.length),j < i -> ¬ l[j].name=n) (h:l[i].name=n):ptL l n a=l.set i ⟨n,a⟩:=by
 have e:l.findIdx (fun h=>decide (h.name=n))=i:=by
  rw [List.findIdx_eq hi];exact ⟨by simpa using h,fun j hj=>by simpa using hb j (by omega) hj⟩
 unfold ptL;rw [if_pos (List.any_eq_true.2 ⟨l[i],List.getElem_mem hi,by simpa using h⟩),e]
theorem M4 {l:List HeadD} {n:Str} {a:Int} (hb:∀ j (hj:j < l.length),¬ l[j].name=n):ptL l n a=jh l ⟨n,a⟩:=by
 unfold ptL;rw [if_neg];simp only [List.any_eq_true,decide_eq_true_eq,not_exists,not_and];intro x hx;obtain ⟨j,hj,rfl⟩:=List.getElem_of_mem hx;exact hb j hj
def gG (r:RepoD):List (Nat × Nat × Nat × List (List D)):=[(0,94,3,aD r.commits),(1,96,2,al r.heads)]
def poI (r:RepoD) (n:Str) (a:Int):Inv:=⟨Nat,fun i=>⟨[(1,true,.str n),(2,true,.int .i64 a),(3,true,.ptr 10 0),(6,true,.ptr 12 0),(10,true,.int .i64 r.heads.length),(11,true,.int .i64 i)],[(12,iC),(10,.box 35 [.own 13 3 (aD r.commits),.own 14 2 (al r.heads)]),(13,.own 94 3 true (aD r.commits)),(14,.own 96 2 true (al r.heads))]⟩,fun i=>i<=r.heads.length /\ ∀ j (hj:j < r.heads.length),j < i -> ¬ r.heads[j].name=n,fun i=>r.heads.length - i⟩
def lS:Con:={ A:=RepoD × Str × Int,X:=Unit,n:=38,args:=fun a=>[.agg [.own 0 3 (aD a.1.commits),.own 1 2 (al a.1.heads)],.str a.2.1,.int .i64 a.2.2],boxes:=fun _=>[],pre:=fun a=>a.1.heads.length<=1048576,post:=fun _ _=>True,res:=fun a _=>.agg [.own 8 3 (aD a.1.commits),.own 9 2 (al (ptL a.1.heads a.2.1 a.2.2))],fin:=fun a _=>iS 8 a.1.commits++gD 9 (ptL a.1.heads a.2.1 a.2.2),owns:=fun a=>gG a.1,mv:=true }
theorem rp:Has Tryz.prog 105 lS:=by
 refine ah mixed aw (HasL.cons Iw HasL.nil) [0,1,2,3,6,7,10,11] ((fun a n (_:Nat)=>(fun a _=>poI a.1 a.2.1 a.2.2) a n)) [] Tryz.func105 (by unfold Tryz.f105; rfl) (fun _=>⟨(),trivial⟩) ?_
 intro a ha;obtain ⟨r,n,b⟩:=a;replace ha:r.heads.length<=1048576:=ha;simp (maxSteps:=8000000) -implicitDefEqProofs [lS,gG,tc,Con.fn,ag,poI]
 try dsimp only
 refine fun _ t ht hb=>⟨fun hlt=>⟨hlt,fun _=>?_⟩,fun hge=>?_⟩
 ·have qq:Option.map bc r.heads[t]? = some (bc r.heads[t]):=by simp -implicitDefEqProofs [hlt]
  have hh:=M3 (a:=b) hlt hb;have hb2:¬ r.heads[t].name=n -> ∀ (j:Nat) (hj:j < r.heads.length),j < t+1 -> ¬ r.heads[j].name=n:=fun h j hj hjt=>by
   by_cases e:j=t
   ·subst e; exact h
   ·exact hb j hj (by omega)
  rw [qq];generalize r.heads[t]=f at *;simp -implicitDefEqProofs [bc];refine ⟨fun h=>⟨hlt,fun _=>⟨hlt,?_,?_⟩⟩,fun h=>⟨⟨by omega,by omega⟩,fun _ _=>⟨t+1,by omega,⟨by omega,hb2 h⟩,by omega⟩⟩⟩
  ·rw [hh h,<- h,<- zE]
  ·rw [hh h,<- h,<- zE]
 ·have e:=M4 (a:=b) fun j hj=>hb j hj (by omega)
  exact ⟨r.heads,⟨n,b⟩,⟨rfl,rfl,rfl⟩,ha,e,e.symm⟩
def kG:Con:={ A:=RepoD × RepoD,X:=Unit,n:=12,args:=fun a=>[aM a.1,.agg [.own 0 3 (aD a.2.commits),.own 1 2 (al a.2.heads)]],boxes:=fun _=>[],pre:=fun a=>dI a.1/\dQ a.2,post:=fun _ _=>True,res:=fun a _=>.tup [.agg [.own 8 3 (aD (if aF a.2 then a.2 else a.1).commits),.own 9 2 (al (if aF a.2 then a.2 else a.1).heads)],.bool (aF a.2)],fin:=fun a _=>iS 8 (if aF a.2 then a.2 else a.1).commits++gD 9 (if aF a.2 then a.2 else a.1).heads,owns:=fun a=>gG a.2,mv:=true }
theorem oJ:Has Tryz.prog 107 kG:=by
 refine ah mixed aw (HasL.cons jr (HasL.cons lf HasL.nil)) [0,1,2,3,4,5] ((fun a n (_:Nat)=>(fun _=>az) a n)) [] Tryz.func107 (by unfold Tryz.f107; rfl) (fun _=>⟨(),trivial⟩) ?_
 intro a ha;obtain ⟨r,x⟩:=a;obtain ⟨h1,h2⟩:dI r/\dQ x:=ha;simp (maxSteps:=8000000) -implicitDefEqProofs [kG,gG,hJ,ja,Con.fn,ag,aN]
 try dsimp only
 refine ⟨h2,fun h=>⟨h1,?_⟩,fun h=>?_⟩
 ·rw [if_neg (by simp -implicitDefEqProofs [h])]; exact ⟨⟨⟨rfl,rfl⟩,h⟩,rfl,rfl⟩
 ·rw [if_pos h]; exact ⟨⟨⟨rfl,rfl⟩,h⟩,rfl,rfl⟩
def cmL (r:RepoD) (n:Str) (c:CommitD):RepoD:=⟨r.commits++[c],ptL r.heads n r.commits.length⟩
def nt (a:RepoD × Str × Str × List FileD × List Int):List (Nat × Nat × Nat × List (List D)):=[(0,94,3,aD a.1.commits),(1,96,2,al a.1.heads),(2,3,1,ae a.2.2.2.2)]
def mW:Con:={ A:=RepoD × Str × Str × List FileD × List Int,X:=Unit,n:=28,args:=fun a=>[.agg [.own 0 3 (aD a.1.commits),.own 1 2 (al a.1.heads)],.str a.2.1,.str a.2.2.1,.sl true 2 (ac a.2.2.2.1),.own 2 1 (ae a.2.2.2.2)],boxes:=fun _=>[],pre:=fun a=>a.1.heads.length<=1048576/\a.1.commits.length<=1048576/\a.2.2.2.1.length<=1048576 /\ ∀ f ∈ a.2.2.2.1,f.text.length<=1048576,post:=fun _ _=>True,res:=fun a _=>.agg [.own 8 3 (aD (cmL a.1 a.2.1 ⟨a.2.2.2.2,a.2.2.1,a.2.2.2.1⟩).commits),.own 9 2 (al (cmL a.1 a.2.1 ⟨a.2.2.2.2,a.2.2.1,a.2.2.2.1⟩).heads)],fin:=fun a _=>iS 8 (cmL a.1 a.2.1 ⟨a.2.2.2.2,a.2.2.1,a.2.2.2.1⟩).commits++gD 9 (cmL a.1 a.2.1 ⟨a.2.2.2.2,a.2.2.1,a.2.2.2.1⟩).heads,owns:=nt,mv:=true }
theorem vd:Has Tryz.prog 108 mW:=by
 refine ah mixed aw (HasL.cons jc (HasL.cons rp HasL.nil)) [0,1,2,3,4,5,10] ((fun a n (_:Nat)=>(fun _=>az) a n)) [18] Tryz.func108 (by unfold Tryz.f108; rfl) (fun _=>⟨(),trivial⟩) ?_
 intro a ha;obtain ⟨r,n,w,t,P⟩:=a;obtain ⟨h1,h2,h3,h4⟩:r.heads.length<=1048576/\r.commits.length<=1048576/\t.length<=1048576 /\ ∀ f ∈ t,f.text.length<=1048576:=ha;simp (maxSteps:=8000000) -implicitDefEqProofs [mW,nt,gG,lS,gY,Con.fn,ag,aN]
 try dsimp only
 have sn:aD r.commits++[[D.sl 3 1 (ae P),D.str w,D.sl 119 2 (ac t)]]=aD (r.commits++[⟨P,w,t⟩]):=jM _ _ _ _;rw [sn];exact ⟨⟨h3,h4⟩,⟨by omega,by omega⟩,fun _=>⟨by omega,fun _=>⟨⟨r.commits++[⟨P,w,t⟩],r.heads⟩,n,_,⟨⟨rfl,rfl⟩,rfl,rfl⟩,⟨rfl,rfl⟩,h1,⟨rfl,rfl⟩,rfl,rfl⟩⟩⟩
theorem Aa {k:Nat} {l:List HeadD} (h:dn k l=true):∀ i,0 < i->i < l.length->Go.Op.bytesLess (l.getD (i - 1) default).name (l.getD i default).name=true:=fun i h3 h4=>by
 have:=((eY _ _).1 h).2 i h4;unfold dM at this;simp only [Bool.and_eq_true,Bool.or_eq_true,decide_eq_true_eq] at this;rcases this.2 with h5 | h5
 ·omega
 ·exact h5
theorem OE (n:Str) (a:Int):∀ (l:List HeadD),(l.Pairwise fun a b=>Go.Op.bytesLess a.name b.name=true)->(∃ x ∈ l,x.name=n)->l.set (l.findIdx fun h=>decide (h.name=n)) ⟨n,a⟩=l.map (hAt n a):=by
 intro l
 induction l with
 | nil=>rintro _ ⟨_,h,_⟩; cases h
 | cons g l ih =>
  intro hp hx;obtain ⟨hp1,hp2⟩:=List.pairwise_cons.1 hp;by_cases hg:g.name=n
  ·have hne:∀ z ∈ l,¬ z.name=n:=fun z hz hc=>by
    have:=hp1 z hz;rw [hg,hc,qT] at this;cases this
   have e3:l.map (hAt n a)=l:=by
    have:l.map (hAt n a)=l.map id:=List.map_congr_left fun z hz=>by simp -implicitDefEqProofs [hAt,hne z hz]
    rw [this]; simp
   simp -implicitDefEqProofs [List.findIdx_cons,hg,e3,hAt]
  ·obtain ⟨z,hz,hzn⟩:=hx;have hz:z ∈ l:=by
    rcases List.mem_cons.1 hz with rfl | hz
    ·exact absurd hzn hg
    ·exact hz
   have:=ih hp2 ⟨z,hz,hzn⟩;simp -implicitDefEqProofs [List.findIdx_cons,hg,this,hAt]
theorem xj {k:Nat} {l:List HeadD} {n:Str} {a:Int} (h:dn k l=true):ptL l n a=bv l n a:=by
 have hs:=Aa h;unfold ptL;split
 ·rename_i hn;have hn:∃ x ∈ l,x.name=n:=by simpa using hn
  rw [vO hs hn];exact OE n a l (qr hs) hn
 ·rename_i hn;have hn:∀ h ∈ l,¬ h.name=n:=by simpa using hn
  exact (zX hs hn).symm
theorem ym {n m:Str} {a:Int}:∀ {l:List HeadD} (k:Nat),(∀ h ∈ l,¬ h.name=n)->atL (dq l k ⟨n,a⟩) m=if n=m then a else atL l m
 | [],k,_=>by
  have e:dq [] k (⟨n,a⟩:HeadD)=[⟨n,a⟩]:=by simp -implicitDefEqProofs [dq]
  rw [e]; rfl
 | g :: l,0,h=>by
  have e:dq (g :: l) 0 (⟨n,a⟩:HeadD)=⟨n,a⟩ :: g :: l:=by simp -implicitDefEqProofs [dq]
  rw [e]; rfl
 | g :: l,k+1,h=>by
  have e:dq (g :: l) (k+1) (⟨n,a⟩:HeadD)=g :: dq l k ⟨n,a⟩:=by simp -implicitDefEqProofs [dq]
  rw [e];have ih:=ym (n:=n) (m:=m) (a:=a) (l:=l) k fun x hx=>h x (by simp -implicitDefEqProofs [hx])
  show (if g.name=m then g.at_ else atL (dq l k ⟨n,a⟩) m)=if n=m then a else if g.name=m then g.at_ else atL l m
  rw [ih];by_cases h1:g.name=m
  ·have:¬ n=m:=fun e=>h g (by simp) (h1.trans e.symm)
   simp -implicitDefEqProofs [h1,this]
  ·simp -implicitDefEqProofs [h1]
theorem ss {n m:Str} {a:Int}:∀ {l:List HeadD},(∃ h ∈ l,h.name=n)->atL (l.map (hAt n a)) m=if n=m then a else atL l m
 | [],h=>by obtain ⟨_,h,_⟩:=h; cases h
 | g :: l,h=>by
  have e:atL ((g :: l).map (hAt n a)) m=if (hAt n a g).name=m then (hAt n a g).at_ else atL (l.map (hAt n a)) m:=rfl
  have e2:atL (g :: l) m=if g.name=m then g.at_ else atL l m:=rfl
  rw [e,e2];by_cases hg:g.name=n
  ·have e3:hAt n a g=⟨n,a⟩:=by unfold hAt; rw [if_pos hg]
   rw [e3];by_cases hm:n=m
   ·simp -implicitDefEqProofs [hm]
   ·simp only [hm,if_false];have:¬ g.name=m:=fun e=>hm (hg.symm.trans e);simp only [this,if_false];by_cases hx:∃ h ∈ l,h.name=n
    ·rw [ss hx,if_neg hm]
    ·have e4:l.map (hAt n a)=l:=by
      have:l.map (hAt n a)=l.map id:=List.map_congr_left fun z hz=>by
       have:¬ z.name=n:=fun e=>hx ⟨z,hz,e⟩;simp -implicitDefEqProofs [hAt,this]
      rw [this]; simp
     rw [e4]
  ·have e3:hAt n a g=g:=by unfold hAt; rw [if_neg hg]
   rw [e3];obtain ⟨z,hz,hzn⟩:=h;have hz:z ∈ l:=by
    rcases List.mem_cons.1 hz with rfl | hz
    ·exact absurd hzn hg
    ·exact hz
   rw [ss ⟨z,hz,hzn⟩];by_cases h1:g.name=m
   ·have:¬ n=m:=fun e=>hg (h1.trans e.symm);simp -implicitDefEqProofs [h1,this]
   ·simp -implicitDefEqProofs [h1]
theorem mT {k:Nat} {l:List HeadD} {n m:Str} {a:Int} (h:dn k l=true):atL (bv l n a) m=if n=m then a else atL l m:=by
 have hs:=Aa h;by_cases hn:∃ x ∈ l,x.name=n
 ·rw [vO hs hn,ss hn]
 ·have hn:∀ x ∈ l,¬ x.name=n:=fun x hx e=>hn ⟨x,hx,e⟩;rw [zX hs hn];unfold jh;exact ym _ hn
def mq (r:RepoD):Prop:=∀ i,i < r.commits.length -> ∀ p ∈ (r.commits.getD i default).parents,0<=p/\p < (i:Int)
theorem j9 {r:RepoD} (h:an r=true):mq r:=by
 intro i hi p hp;have h1:=((be r).1 h).1 i hi;unfold dG at h1;simp only [Bool.and_eq_true,List.all_eq_true,List.mem_range] at h1;obtain ⟨k,hk,rfl⟩:=List.getElem_of_mem hp;have h2:=h1.1 k hk;unfold fM inN at h2;simp only [Bool.and_eq_true,decide_eq_true_eq] at h2;have e:(r.commits.getD i default).parents.getD k 0=(r.commits.getD i default).parents[k]:=by rw [List.getD_eq_getElem?_getD,List.getElem?_eq_getElem hk]; rfl
 rw [e] at h2;omega
inductive Rch (r:RepoD) (a:Nat):Nat->Prop
 | refl:Rch r a a
 | step {x:Nat} {p:Int}:Rch r a x->p ∈ (r.commits.getD x default).parents->Rch r a p.toNat
theorem Rch.trans {r:RepoD} {a b c:Nat} (h1:Rch r a b) (h2:Rch r b c):Rch r a c:=by
 induction h2 with
 | refl=>exact h1
 | step _ hp ih=>exact ih.step hp
theorem Hz {l:List CommitD} {x:Nat} (h:l.length<=x):(l.getD x default).parents=[]:=by rw [List.getD_eq_getElem?_getD,List.getElem?_eq_none h]; rfl
theorem Rch.le {r:RepoD} {a x:Nat} (hp:mq r) (h:Rch r a x):x<=a:=by
 induction h with
 | refl=>omega
 | @step x p _ hq ih =>
  rcases Nat.lt_or_ge x r.commits.length with h1 | h1
  ·have:=hp x h1 p hq; omega
  ·rw [Hz h1] at hq; cases hq
theorem Av (l:List Bool) (p g:Nat):isT (l.set p true) g=(isT l g || (decide (p=g) && decide (g < l.length))):=by
 unfold isT;rw [List.getD_eq_getElem?_getD,List.getD_eq_getElem?_getD];by_cases h:p=g
 ·subst h;rw [List.getElem?_set_self'];by_cases hl:p < l.length
  ·simp -implicitDefEqProofs [hl]
  ·rw [List.getElem?_eq_none (by omega)]; simp -implicitDefEqProofs [hl]
 ·rw [List.getElem?_set_ne h]; simp -implicitDefEqProofs [h]
theorem Au (ps:List Int):∀ (l:List Bool) (g:Nat),isT (cO l ps) g=(isT l g || (ps.any (fun p=>decide (p.toNat=g)) && decide (g < l.length))):=by
 induction ps with
 | nil=>intro l g; simp -implicitDefEqProofs [cO]
 | cons p ps ih =>
  intro l g
  show isT (cO (l.set p.toNat true) ps) g=_
  rw [ih,Av,List.length_set,List.any_cons];cases isT l g <;> cases decide (p.toNat=g) <;> cases (ps.any fun p=>decide (p.toNat=g)) <;> cases decide (g < l.length) <;> rfl
theorem yj {r:RepoD} (hp:mq r) (a:Nat):∀ (k:Nat) (l:List Bool),k<=r.commits.length->l.length=r.commits.length->(∀ g,isT l g=true->Rch r a g)->(∀ x,k<=x->isT l x=true -> ∀ p ∈ (r.commits.getD x default).parents,isT l p.toNat=true)->isT l a=true ->
  ∀ g,isT (fx r k l) g=true ↔ Rch r a g
 | 0,l,_,hl,h1,h2,h3,g=>by
  refine ⟨h1 g,fun h=>?_⟩
  show isT l g=true
  induction h with
  | refl=>exact h3
  | step _ hq ih=>exact h2 _ (Nat.zero_le _) ih _ hq
 | k+1,l,hk,hl,h1,h2,h3,g=>by
  have hk':k < r.commits.length:=by omega
  have key:∀ x,isT (fW r l k) x=(isT l x || (isT l k && ((r.commits.getD k default).parents.any (fun p=>decide (p.toNat=x)) && decide (x < l.length)))):=by
   intro x;unfold fW;cases hq:isT l k with
   | true=>simp only [if_true]; rw [Au]; simp
   | false=>simp
  refine yj hp a k (fW r l k) (by omega) (by unfold fW; split; rw [mB,hl]; exact hl) (fun g hg=>?_) (fun x hx hg p hpx=>?_) (by rw [key,h3]; rfl) g
  ·rw [key] at hg;simp only [Bool.or_eq_true,Bool.and_eq_true,List.any_eq_true,decide_eq_true_eq] at hg;rcases hg with hg | ⟨hg,⟨p,hpm,rfl⟩,_⟩
   ·exact h1 g hg
   ·exact (h1 k hg).step hpm
  ·rw [key] at hg ⊢;simp only [Bool.or_eq_true,Bool.and_eq_true,List.any_eq_true,decide_eq_true_eq] at hg ⊢;have hx':isT l x=true:=by
    rcases hg with hg | ⟨_,⟨q,hq,e⟩,_⟩
    ·exact hg
    ·have:=hp k hk' q hq;omega
   by_cases e:x=k
   ·subst e;have:=hp x hk' p hpx;exact .inr ⟨hx',⟨p,hpx,rfl⟩,by rw [hl]; omega⟩
   ·exact .inl (h2 x (by omega) hx' p hpx)
theorem EI {r:RepoD} (hp:mq r) {a:Nat} (ha:a < r.commits.length) (g:Nat):isT (anc r a) g=true ↔ Rch r a g:=by
 have e0:∀ g,isT ((List.replicate r.commits.length false).set a true) g=decide (a=g):=fun g=>by
  rw [Av];have:isT (List.replicate r.commits.length false) g=false:=by
   unfold isT;rw [List.getD_eq_getElem?_getD,List.getElem?_replicate];split <;> rfl
  rw [this];by_cases h:a=g
  ·subst h; simp -implicitDefEqProofs [ha]
  ·simp -implicitDefEqProofs [h]
 unfold anc;have e1:(((a:Int)+1).toNat)=a+1:=by omega
 have e2:((a:Int)).toNat=a:=by omega
 rw [e1,e2];refine yj hp a (a+1) _ (by omega) (by simp) (fun g hg=>?_) (fun x hx hg=>?_) (by rw [e0]; simp) g
 ·rw [e0] at hg;have:a=g:=by simpa using hg
  subst this; exact .refl
 ·rw [e0] at hg;have:a=x:=by simpa using hg
  omega
theorem sk {r:RepoD} (hp:mq r) {a x:Int} (ha:0<=a/\a < r.commits.length) (hx:0<=x):x ∈ ak (anc r a) ↔ Rch r a.toNat x.toNat:=by
 have hh:=EI hp (a:=a.toNat) (by omega) x.toNat
 have ea:((a.toNat:Nat):Int)=a:=by omega
 rw [ea] at hh;rw [<- hh,listT_mem];constructor
 ·rintro ⟨i,_,h2,rfl⟩
  simpa using h2
 ·intro h;exact ⟨x.toNat,qy h,h,by omega⟩
theorem Rch.more {r:RepoD} {cs:List CommitD} {hs:List HeadD} (hp:mq r) {a x:Nat} (ha:a < r.commits.length):Rch ⟨r.commits++cs,hs⟩ a x ↔ Rch r a x:=by
 have key:∀ x,x < r.commits.length->((r.commits++cs).getD x default)=r.commits.getD x default:=fun x hx=>by simp -implicitDefEqProofs [List.getD_eq_getElem?_getD,List.getElem?_append_left hx]
 constructor
 ·intro h;have:Rch r a x:=by
   induction h with
   | refl=>exact .refl
   | @step x p _ hq ih =>
    have hle:=ih.le hp;have hq:p ∈ ((r.commits++cs).getD x default).parents:=hq;rw [key x (by omega)] at hq
    exact ih.step hq
  exact this
 ·intro h
  induction h with
  | refl=>exact .refl
  | @step x p h0 hq ih =>
   have hle:=h0.le hp;refine ih.step ?_
   show p ∈ ((r.commits++cs).getD x default).parents
   rw [key x (by omega)]
   exact hq
def tM:Con:=.fn 36 (List Str × List Str × List Str) (fun a=>[.sl true 1 (aa a.1),.sl true 1 (aa a.2.1),.sl true 1 (aa a.2.2)]) (fun a=>a.1.length<=1048576/\a.2.1.length<=1048576/\a.2.2.length<=1048576) (fun a=>.agg [.bool (bj a.1 a.2.1 a.2.2).clash,.own 8 1 (aa (bj a.1 a.2.1 a.2.2).lines),.own 9 1 (aa (bj a.1 a.2.1 a.2.2).old),.own 10 1 (aa (bj a.1 a.2.1 a.2.2).one),.own 11 1 (aa (bj a.1 a.2.1 a.2.2).two)]) (fun a=>dN 8 (bj a.1 a.2.1 a.2.2).lines++dN 9 (bj a.1 a.2.1 a.2.2).old++dN 10 (bj a.1 a.2.1 a.2.2).one++dN 11 (bj a.1 a.2.1 a.2.2).two)
theorem J7:Has Tryz.prog 290 tM:=by
 refine ah mixed aw (HasL.cons wn HasL.nil) [0,1,2,6,7] ((fun a n (_:Nat)=>(fun _=>az) a n)) [] Tryz.func290 (by unfold Tryz.f290; rfl) (fun _=>⟨(),trivial⟩) ?_
 intro a ha;obtain ⟨o,a,b⟩:=a;obtain ⟨h1,h2,h3⟩:o.length<=1048576/\a.length<=1048576/\b.length<=1048576:=ha;simp -implicitDefEqProofs [tM,nf,Con.fn,ag]
 try dsimp only
 have f:∀ (t:List Str),∀ x ∈ aa t,∀ d ∈ x,match d with | .sl _ _ _=>False | _=>True:=fun t=>(eStrs_flat t).mpr trivial
 have e1:a=o->bj o a b=⟨false,b,[],[],[]⟩:=fun h=>by unfold bj; rw [if_pos (.inl h)]
 have e2:a=b->bj o a b=⟨false,b,[],[],[]⟩:=fun h=>by unfold bj; rw [if_pos (.inr h)]
 have e3:¬ a=o -> ¬ a=b->b=o->bj o a b=⟨false,a,[],[],[]⟩:=fun h h' h2=>by unfold bj; rw [if_neg (by simp -implicitDefEqProofs [h,h']),if_pos h2]
 have e4:¬ a=o -> ¬ a=b -> ¬ b=o->bj o a b=⟨true,[],o,a,b⟩:=fun h h' h2=>by unfold bj; rw [if_neg (by simp -implicitDefEqProofs [h,h']),if_neg h2]
 refine ⟨a,o,⟨rfl,rfl⟩,fun h=>⟨fun _=>?_,fun h'=>absurd h h'⟩,fun h=>⟨a,b,⟨rfl,rfl⟩,fun h2=>?_,fun h2=>⟨b,o,⟨rfl,rfl⟩,fun h3=>?_,fun h3=>?_⟩⟩⟩
 ·rw [e1 h]; exact ⟨f b,⟨by omega,by omega⟩,⟨rfl,rfl,rfl,rfl,rfl⟩,rfl,rfl,rfl,rfl⟩
 ·rw [e2 h2]; exact ⟨f b,⟨by omega,by omega⟩,⟨rfl,rfl,rfl,rfl,rfl⟩,rfl,rfl,rfl,rfl⟩
 ·rw [e3 h h2 h3]; exact ⟨f a,⟨by omega,by omega⟩,⟨rfl,rfl,rfl,rfl,rfl⟩,rfl,rfl,rfl,rfl⟩
 ·rw [e4 h h2 h3]; exact ⟨f o,⟨by omega,by omega⟩,f a,⟨by omega,by omega⟩,f b,⟨by omega,by omega⟩,⟨rfl,rfl,rfl,rfl,rfl⟩,rfl,rfl,rfl,rfl⟩
theorem ju {l:List PartD} {p:PartD} (h:p.clash=false) (h':p.lines=[]):bE l p=l:=by unfold bE; rw [if_pos ⟨h,h'⟩]
theorem oe {m:List PartD} {q p:PartD} (h:q.clash=false) (h':p.clash=false) (hx:¬ p.lines=[]):bE (m++[q]) p=m++[⟨q.clash,q.lines++p.lines,q.old,q.one,q.two⟩]:=by unfold bE; rw [if_neg (by simp -implicitDefEqProofs [hx])]; simp -implicitDefEqProofs [h,h']
theorem og {m:List PartD} {q p:PartD} (h:q.clash=true) (hx:¬ (p.clash=false/\p.lines=[])):bE (m++[q]) p=m++[q]++[p]:=by unfold bE; rw [if_neg hx]; simp -implicitDefEqProofs [h]
theorem oh {l:List PartD} {p:PartD} (h:p.clash=true):bE l p=l++[p]:=by
 unfold bE; rw [if_neg (by simp -implicitDefEqProofs [h])]
 split
 ·simp -implicitDefEqProofs [h]
 ·rfl
theorem jv {p:PartD} (h:¬ (p.clash=false/\p.lines=[])):bE [] p=[p]:=by unfold bE; rw [if_neg h]; simp
def l3A:(List PartD × PartD) ⊕ (List PartD × List Str)->List PartD
 | .inl a=>a.1
 | .inr a=>a.1
def l3P:(List PartD × PartD) ⊕ (List PartD × List Str)->PartD
 | .inl a=>a.2
 | .inr a=>⟨false,a.2,[],[],[]⟩
def qL:(List PartD × PartD) ⊕ (List PartD × List Str)->List AV
 | .inl a=>[.own 0 5 (aG a.1),.agg [.bool a.2.clash,.own 1 1 (aa a.2.lines),.own 2 1 (aa a.2.old),.own 3 1 (aa a.2.one),.own 4 1 (aa a.2.two)]]
 | .inr a=>[.own 0 5 (aG a.1),.agg [.bool false,.own 1 1 (aa a.2),.nil,.nil,.nil]]
def qM:(List PartD × PartD) ⊕ (List PartD × List Str)->List (Nat × Nat × Nat × List (List D))
 | .inl a=>[(0,278,5,aG a.1),(1,9,1,aa a.2.lines),(2,9,1,aa a.2.old),(3,9,1,aa a.2.one),(4,9,1,aa a.2.two)]
 | .inr a=>[(0,278,5,aG a.1),(1,9,1,aa a.2)]
def pH:Con:={ A:=(List PartD × PartD) ⊕ (List PartD × List Str),X:=Unit,n:=53,args:=qL,boxes:=fun _=>[],pre:=fun a=>(l3A a).length<=1048576/\(∀ q ∈ l3A a,q.lines.length<=1073741824)/\(l3P a).lines.length<=1073741824,post:=fun _ _=>True,res:=fun a _=>.own 8 5 (aG (bE (l3A a) (l3P a))),fin:=fun a _=>xa 8 (bE (l3A a) (l3P a)),owns:=qM,mv:=true }
theorem J8:Has Tryz.prog 289 pH:=by
 refine ah mixed aw HasL.nil [0,1,3,4,5] ((fun a n (_:Nat)=>(fun _=>az) a n)) [12287,12333] Tryz.func289 (by unfold Tryz.f289; rfl) (fun _=>⟨(),trivial⟩) ?_
 intro a ha;rcases a with ⟨l,p⟩ | ⟨l,x⟩
 ·obtain ⟨h1,h2,h3⟩:l.length<=1048576/\(∀ q ∈ l,q.lines.length<=1073741824)/\p.lines.length<=1073741824:=ha;simp -implicitDefEqProofs [pH,qL,qM,l3A,l3P,Con.fn,ag]
  try dsimp only
  have f:∀ (t:List Str),∀ x ∈ aa t,∀ d ∈ x,match d with | .sl _ _ _=>False | _=>True:=fun t=>(eStrs_flat t).mpr trivial
  have sn:∀ k:List PartD,aG k++[[D.bool p.clash,D.sl 9 1 (aa p.lines),D.sl 9 1 (aa p.old),D.sl 9 1 (aa p.one),D.sl 9 1 (aa p.two)]]=aG (k++[p]):=fun k=>by simp -implicitDefEqProofs [aG,cX]
  rw [sn];rcases List.eq_nil_or_concat l with rfl | ⟨m,q,rfl⟩
  ·simp
   repeat' (first | intro _ | apply And.intro)
   all_goals first | omega | (cases (Eq.trans (Eq.symm ‹p.clash=true›) ‹p.clash=false›)) | exact f _ | exact f _ _ (by assumption) _ (by assumption) | exact ju (by first | assumption | rfl) (by assumption) | exact (ju (by first | assumption | rfl) (by assumption)).symm | exact jv (by simp_all) | exact (jv (by simp_all)).symm | (rw [oe (by assumption) (by first | assumption | rfl) (by assumption)]; simp -implicitDefEqProofs [aG,cX,aa]) | (rw [oh (by assumption)]; simp) | (rw [og (by assumption) (by simp_all)]; simp)
  ·have he:∀ r,(aG m++[r])[m.length]? = some r:=fun r=>by rw [List.getElem?_append_right (by simp)]; simp
   have hs:∀ r,(aG (m++[q])).set m.length r=aG m++[r]:=fun r=>by simp -implicitDefEqProofs [aG]
   have hq:(m++[q])[m.length]? = some q:=by simp
   have hql:=h2 q (by simp)
   have ee:∀ r r',(aG m++[r]=aG (m++[r']))=(r=cX r'):=fun r r'=>by simp -implicitDefEqProofs [aG]
   have h1:m.length+1<=1048576:=by simpa using h1
   simp -implicitDefEqProofs [he,hs,cX,D.asBool,D.asRows]
   repeat' (first | intro _ | apply And.intro)
   all_goals first | omega | (cases (Eq.trans (Eq.symm ‹p.clash=true›) ‹p.clash=false›)) | exact f _ | exact f _ _ (by assumption) _ (by assumption) | exact ju (by first | assumption | rfl) (by assumption) | exact (ju (by first | assumption | rfl) (by assumption)).symm | exact jv (by simp_all) | exact (jv (by simp_all)).symm | (rw [oe (by assumption) (by first | assumption | rfl) (by assumption)]; simp -implicitDefEqProofs [aG,cX,aa]) | (rw [oh (by assumption)]; simp) | (rw [og (by assumption) (by simp_all)]; simp)
 ·obtain ⟨h1,h2,h3⟩:l.length<=1048576/\(∀ q ∈ l,q.lines.length<=1073741824)/\x.length<=1073741824:=ha;simp -implicitDefEqProofs [pH,qL,qM,l3A,l3P,Con.fn,ag]
  try dsimp only
  have f:∀ (t:List Str),∀ x ∈ aa t,∀ d ∈ x,match d with | .sl _ _ _=>False | _=>True:=fun t=>(eStrs_flat t).mpr trivial
  have sn:∀ k:List PartD,aG k++[[D.bool false,D.sl 9 1 (aa x),D.sl 9 1 [],D.sl 9 1 [],D.sl 9 1 []]]=aG (k++[⟨false,x,[],[],[]⟩]):=fun k=>by simp -implicitDefEqProofs [aG,cX]
  rw [sn];rcases List.eq_nil_or_concat l with rfl | ⟨m,q,rfl⟩
  ·simp
   repeat' (first | intro _ | apply And.intro)
   all_goals first | omega | (cases (Eq.trans (Eq.symm ‹p.clash=true›) ‹p.clash=false›)) | exact f _ | exact f _ _ (by assumption) _ (by assumption) | exact ju (by first | assumption | rfl) (by assumption) | exact (ju (by first | assumption | rfl) (by assumption)).symm | exact jv (by simp_all) | exact (jv (by simp_all)).symm | (rw [oe (by assumption) (by first | assumption | rfl) (by assumption)]; simp -implicitDefEqProofs [aG,cX,aa]) | (rw [oh (by assumption)]; simp) | (rw [og (by assumption) (by simp_all)]; simp)
  ·have he:∀ r,(aG m++[r])[m.length]? = some r:=fun r=>by rw [List.getElem?_append_right (by simp)]; simp
   have hs:∀ r,(aG (m++[q])).set m.length r=aG m++[r]:=fun r=>by simp -implicitDefEqProofs [aG]
   have hq:(m++[q])[m.length]? = some q:=by simp
   have hql:=h2 q (by simp)
   have ee:∀ r r',(aG m++[r]=aG (m++[r']))=(r=cX r'):=fun r r'=>by simp -implicitDefEqProofs [aG]
   have h1:m.length+1<=1048576:=by simpa using h1
   simp -implicitDefEqProofs [he,hs,cX,D.asBool,D.asRows]
   repeat' (first | intro _ | apply And.intro)
   all_goals first | omega | (cases (Eq.trans (Eq.symm ‹p.clash=true›) ‹p.clash=false›)) | exact f _ | exact f _ _ (by assumption) _ (by assumption) | exact ju (by first | assumption | rfl) (by assumption) | exact (ju (by first | assumption | rfl) (by assumption)).symm | exact jv (by simp_all) | exact (jv (by simp_all)).symm | (rw [oe (by assumption) (by first | assumption | rfl) (by assumption)]; simp -implicitDefEqProofs [aG,cX,aa]) | (rw [oh (by assumption)]; simp) | (rw [og (by assumption) (by simp_all)]; simp)
theorem BB (o a:List Str):ae (mt o a 0)++[[D.int .i64 (a.length:Int)]]=ae (mtE o a):=by simp -implicitDefEqProofs [mtE,ae,ap]
def AX (o a b:List Str):Inv:=⟨Nat,fun i=>⟨[(0,true,.sl true 1 (aa o)),(1,true,.sl true 1 (aa a)),(2,true,.sl true 1 (aa b)),(6,true,.nil),(7,true,.own 9 5 (aG (cV o a b i).out)),(8,true,.own 10 1 (ae (mtE o a))),(9,true,.own 11 1 (ae (mtE o b))),(10,true,.int .i64 (cV o a b i).io),(11,true,.int .i64 (cV o a b i).ia),(12,true,.int .i64 (cV o a b i).ib),(13,true,.int .i64 i)],[(9,.own 278 5 true (aG (cV o a b i).out)),(10,.own 3 1 true (ae (mtE o a))),(11,.own 3 1 true (ae (mtE o b)))]⟩,fun i=>i<=o.length+1,fun i=>o.length+1 - i⟩
def tL:Con:=.fn 93 (List Str × List Str × List Str) (fun a=>[.sl true 1 (aa a.1),.sl true 1 (aa a.2.1),.sl true 1 (aa a.2.2)]) (fun a=>a.1.length<=100000/\a.2.1.length<=100000/\a.2.2.length<=100000) (fun a=>.own 8 5 (aG (of3 a.1 a.2.1 a.2.2))) (fun a=>xa 8 (of3 a.1 a.2.1 a.2.2))
theorem J6:Has Tryz.prog 266 tL:=by
 refine ah mixed aw (HasL.cons AW (HasL.cons J7 (HasL.cons J8 HasL.nil))) [0,1,2,6,7,8,9,10,11,12,13] ((fun a n (_:Nat)=>(fun a _=>AX a.1 a.2.1 a.2.2) a n)) [] Tryz.func266 (by unfold Tryz.f266; rfl) (fun _=>⟨(),trivial⟩) ?_
 intro a ha;obtain ⟨o,a,b⟩:=a;obtain ⟨h1,h2,h3⟩:o.length<=100000/\a.length<=100000/\b.length<=100000:=ha;simp (maxSteps:=4000000) -implicitDefEqProofs [tL,pD,tM,pH,qL,qM,l3A,l3P,Con.fn,ag,AX,Sum.exists]
 try dsimp only
 have ea:=BB o a;have eb:=BB o b;have la:=mj o a;have lb:=mj o b;have m1:=jm o a 0;have m2:=jm o b 0;refine ⟨o,a,⟨rfl,rfl⟩,⟨by omega,by omega⟩,fun _=>⟨⟨by omega,by omega⟩,o,b,⟨rfl,rfl⟩,⟨by omega,by omega⟩,fun _=>⟨⟨by omega,by omega⟩,⟨0,⟨⟨rfl,ea.symm,eb.symm,rfl,rfl,rfl,rfl⟩,rfl,ea,eb⟩,Nat.zero_le _⟩,fun t ht hla=>⟨fun hlt=>?_,fun hge=>?_⟩⟩⟩⟩
 ·have ok:=nW o a b t ht;have st:cV o a b (t+1)=jy o a b ((mtE o a).getD t 0) ((mtE o b).getD t 0) t (cV o a b t):=rfl;obtain ⟨k1,k2,k3,k4,k5,k6,k7⟩:=ok;have ga:(mtE o a).getD t 0=(mtE o a)[t]'(by omega):=by simp -implicitDefEqProofs [List.getD_eq_getElem?_getD,List.getElem?_eq_getElem (show t < (mtE o a).length by omega)]
  have gb:(mtE o b).getD t 0=(mtE o b)[t]'(by omega):=by simp -implicitDefEqProofs [List.getD_eq_getElem?_getD,List.getElem?_eq_getElem (show t < (mtE o b).length by omega)]
  have k4:=lH (l:=mtE o a) (by omega) k4
  have k5:=lH (l:=mtE o b) (by omega) k5
  have oa:(mtE o a)[t]? = some ((mtE o a)[t]'(by omega)):=List.getElem?_eq_getElem (by omega)
  have ob:(mtE o b)[t]? = some ((mtE o b)[t]'(by omega)):=List.getElem?_eq_getElem (by omega)
  rw [ga,gb] at st;rw [oa,ob];generalize (mtE o a)[t]'(by omega)=x at *
  generalize (mtE o b)[t]'(by omega)=y at *
  generalize cV o a b t=S at *;obtain ⟨io,ia,ib,out⟩:=S;simp only at k1 k2 k3 k4 k5 k6 k7;simp -implicitDefEqProofs [ap,D.asInt,hlt,la,lb,bn,bw];have skip:x < 0 \/ y < 0->cV o a b (t+1)=⟨io,ia,ib,out⟩:=fun h=>by rw [st]; unfold jy; rw [if_pos h]
  have p1:(List.take (t - io) (List.drop io o))=(o.take t).drop io:=(List.drop_take).symm;have p2:(List.take (x.toNat - ia) (List.drop ia a))=(a.take x.toNat).drop ia:=(List.drop_take).symm;have p3:(List.take (y.toNat - ib) (List.drop ib b))=(b.take y.toNat).drop ib:=(List.drop_take).symm;rw [p1,p2,p3];refine ⟨by omega,fun _=>⟨fun hx=>⟨⟨by omega,by omega⟩,fun _ _=>⟨t+1,by rw [skip (.inl hx)]; exact ⟨⟨⟨rfl,rfl,rfl,rfl,by omega⟩,rfl⟩,by omega,by omega⟩⟩⟩,fun hx=>⟨by omega,fun _=>⟨fun hy=>⟨⟨by omega,by omega⟩,fun _ _=>⟨t+1,by rw [skip (.inr hy)]; exact ⟨⟨⟨rfl,rfl,rfl,rfl,by omega⟩,rfl⟩,by omega,by omega⟩⟩⟩,fun hy=>?_⟩⟩⟩⟩
  have st2:cV o a b (t+1)=⟨t+1,x.toNat+1,y.toNat+1,if t < o.length then bE (bE out (bj ((o.take t).drop io) ((a.take x.toNat).drop ia) ((b.take y.toNat).drop ib))) ⟨false,[o.getD t []],[],[],[]⟩ else bE out (bj ((o.take t).drop io) ((a.take x.toNat).drop ia) ((b.take y.toNat).drop ib))⟩:=by rw [st]; unfold jy; rw [if_neg (by omega)]
  have l1:((o.take t).drop io).length<=100000:=by simp; omega
  have l2:((a.take x.toNat).drop ia).length<=100000:=by simp; omega
  have l3:((b.take y.toNat).drop ib).length<=100000:=by simp; omega
  have pl:=BX ((o.take t).drop io) ((a.take x.toNat).drop ia) ((b.take y.toNat).drop ib);refine ⟨⟨k1,by omega⟩,fun _ _=>⟨by omega,fun _=>⟨⟨by omega,by omega⟩,fun _ _=>⟨by omega,fun _=>⟨⟨by omega,by omega⟩,fun _ _=>⟨_,_,_,⟨rfl,rfl,rfl⟩,⟨by omega,by omega,by omega⟩,out,bj _ _ _,⟨rfl,rfl,rfl,rfl,rfl,rfl⟩,⟨rfl,rfl,rfl,rfl,rfl⟩,?_,?_⟩⟩⟩⟩⟩⟩
  ·rintro q1 q2 (⟨rfl,rfl⟩ | ⟨rfl,rfl⟩ | ⟨rfl,rfl⟩ | ⟨rfl,rfl⟩ | ⟨rfl,rfl⟩) <;> simp
  have pl2:=rt out (bj ((o.take t).drop io) ((a.take x.toNat).drop ia) ((b.take y.toNat).drop ib));have pb:=rq (p:=bj ((o.take t).drop io) ((a.take x.toNat).drop ia) ((b.take y.toNat).drop ib)) k7;generalize bj ((o.take t).drop io) ((a.take x.toNat).drop ia) ((b.take y.toNat).drop ib)=p at *;refine ⟨⟨by omega,fun q hq=>by have:=k7 q hq; omega,by omega⟩,fun _=>⟨fun hto=>?_,fun hto=>?_⟩⟩
  ·have go:o.getD t []=o[t]:=by simp -implicitDefEqProofs [List.getD_eq_getElem?_getD,hto]
   rw [if_pos hto,go] at st2;simp -implicitDefEqProofs [hto,ar,D.asStr];refine ⟨bE out p,[o[t]],⟨rfl,rfl⟩,⟨rfl,rfl⟩,?_,⟨by omega,fun q hq=>by have:=pb q hq; omega,by simp⟩,⟨by omega,by omega⟩,fun _ _=>⟨by omega,fun _=>⟨⟨by omega,by omega⟩,fun _ _=>⟨by omega,fun _=>⟨⟨by omega,by omega⟩,fun _ _=>⟨⟨by omega,by omega⟩,fun _ _=>⟨t+1,?_⟩⟩⟩⟩⟩⟩⟩
   ·rintro q1 q2 (⟨rfl,rfl⟩ | ⟨rfl,rfl⟩) <;> simp
   ·rw [st2];exact ⟨⟨⟨rfl,by simp,by simp; omega,by simp; omega,by omega⟩,rfl⟩,by omega,by omega⟩
  ·rw [if_neg (by omega)] at st2
   refine ⟨⟨by omega,by omega⟩,fun _ _=>⟨by omega,fun _=>⟨⟨by omega,by omega⟩,fun _ _=>⟨by omega,fun _=>⟨⟨by omega,by omega⟩,fun _ _=>⟨⟨by omega,by omega⟩,fun _ _=>⟨t+1,?_⟩⟩⟩⟩⟩⟩⟩
   rw [st2];exact ⟨⟨⟨rfl,by simp,by simp; omega,by simp; omega,by omega⟩,rfl⟩,by omega,by omega⟩
 ·have:t=o.length+1:=by omega
  subst this;exact ⟨rfl,rfl⟩
def cF (l:List PartD) (i:Nat):List Str:=(l.take i).flatMap (·.lines)
def tN:Con:=.fn 29 (List PartD) (fun l=>[.sl true 5 (aG l)]) (fun l=>l.length<=1048576 /\ ∀ q ∈ l,q.lines.length<=1048576) (fun l=>.tup [.sl false 1 (aa (dd l).1),.bool (dd l).2]) (fun _=>[])
theorem J9:Has Tryz.prog 265 tN:=by
 refine ah mixed aw (HasL.cons wl HasL.nil) [0,2,3,4,5] ((fun a n (_:Nat)=>(fun l _=>⟨Nat,fun i=>⟨[(0,true,.sl true 5 (aG l)),(2,true,.nil),(3,true,.bool false),(4,true,.own 9 1 (aa (cF l i))),(5,true,.int .i64 i)],[(9,.own 9 1 true (aa (cF l i)))]⟩,fun i=>i<=l.length/\(l.take i).any (·.clash)=false,fun i=>l.length - i⟩) a n)) [] Tryz.func265 (by unfold Tryz.f265; rfl) (fun _=>⟨(),trivial⟩) ?_
 intro (l:List PartD) ha;obtain ⟨h1,h2⟩:l.length<=1048576 /\ ∀ q ∈ l,q.lines.length<=1048576:=ha;simp -implicitDefEqProofs [tN,nd,Con.fn,ag]
 try dsimp only
 have hl0:∀ i,i<=l.length->(cF l i).length<=i * 1048576:=fun i=>by
  induction i with
  | zero=>intro _; simp -implicitDefEqProofs [cF]
  | succ i ih =>
   intro h;have e:cF l (i+1)=cF l i++l[i].lines:=by unfold cF; rw [aX (show i < l.length by omega),List.flatMap_append]; simp
   have:=h2 l[i] (List.getElem_mem _);have:=ih (by omega)
   rw [e,List.length_append]; clear e; omega
 have f:∀ (t:List Str),∀ x ∈ aa t,∀ d ∈ x,match d with | .sl _ _ _=>False | _=>True:=fun t=>(eStrs_flat t).mpr trivial
 have hn0:(∃ q ∈ l,q.clash=true)->dd l=([],false):=fun ⟨q,h,h'⟩=>by unfold dd; rw [if_pos (by simp; exact ⟨q,h,h'⟩)]
 have hn1:(∀ q ∈ l,q.clash=false)->bg (cF l l.length)=false->dd l=([],false):=fun h h'=>by unfold dd cF at *; rw [List.take_length] at h'; rw [if_neg (by simp; exact h),if_neg (by simp -implicitDefEqProofs [h'])]
 have hn2:(∀ q ∈ l,q.clash=false)->bg (cF l l.length)=true->dd l=(cF l l.length,true):=fun h h'=>by unfold dd cF at *; rw [List.take_length] at *; rw [if_neg (by simp; exact h),if_pos h']
 refine ⟨⟨0,⟨⟨rfl,rfl⟩,rfl⟩,Nat.zero_le _,by simp⟩,fun t ht hc _=>⟨fun hlt=>⟨hlt,fun _=>?_⟩,fun hge=>?_⟩⟩
 ·have e:cF l (t+1)=cF l t++l[t].lines:=by unfold cF; rw [aX hlt,List.flatMap_append]; simp
  have q1:=h2 l[t] (List.getElem_mem hlt);have q2:=hl0 t ht;have q3:l[t] ∈ l:=List.getElem_mem hlt;have q4:∀ x ∈ l.take (t+1),x ∈ l.take t \/ x=l[t]:=fun x hx=>by rw [aX hlt] at hx; exact (List.mem_append.1 hx).imp id (fun h=>List.mem_singleton.1 h)
  have qq:Option.map cX l[t]? = some (cX l[t]):=by simp -implicitDefEqProofs [hlt]
  rw [qq];generalize l[t]=q at *;simp -implicitDefEqProofs [cX,D.asBool,D.asRows];refine ⟨fun h=>by rw [hn0 ⟨q,q3,h⟩]; exact ⟨rfl,rfl⟩,fun h=>⟨hlt,fun _=>⟨f _,⟨by omega,by omega⟩,⟨by omega,by omega⟩,fun _ _=>⟨t+1,⟨⟨by rw [e,br],by omega⟩,by rw [e,br]⟩,⟨by omega,fun x hx=>(q4 x hx).elim (hc x) (fun hx=>hx ▸ h)⟩,by omega⟩⟩⟩⟩
 ·have:t=l.length:=by omega
  subst this;rw [List.take_length] at hc;exact ⟨fun h=>by rw [hn1 hc h]; exact ⟨rfl,rfl⟩,fun h=>by rw [hn2 hc h]; exact ⟨rfl,rfl⟩⟩
def tS:Con:=.fn 21 ((List Str × Bool) × (List Str × Bool)) (fun a=>[.sl true 1 (aa a.1.1),.bool a.1.2,.sl true 1 (aa a.2.1),.bool a.2.2]) (fun _=>True) (fun a=>.bool (c6 a.1 a.2)) (fun _=>[])
theorem Kl:Has Tryz.prog 264 tS:=by
 refine ah mixed aw (HasL.cons wn HasL.nil) [0,1,2,3,8] ((fun a n (_:Nat)=>(fun _=>az) a n)) [] Tryz.func264 (by unfold Tryz.f264; rfl) (fun _=>⟨(),trivial⟩) ?_
 intro a _;obtain ⟨⟨x,i⟩,y,j⟩:=a;simp -implicitDefEqProofs [tS,nf,Con.fn,ag]
 try dsimp only
 cases i <;> cases j <;> simp -implicitDefEqProofs [c6,and_assoc]
theorem LH (o a b:List Str):(of3 o a b).length<=2 * (o.length+1) /\ ∀ q ∈ of3 o a b,q.lines.length<=o.length+a.length+b.length+3:=by
 obtain ⟨h1,h2,h3,h4,h5,h6,h7⟩:=nW o a b (o.length+1) (Nat.le_refl _);exact ⟨h6,fun q hq=>by have:=h7 q hq; omega⟩
def tQ:Con:=.fn 82 (List FileD × List FileD × List FileD × Str) (fun a=>[.sl true 2 (ac a.1),.sl true 2 (ac a.2.1),.sl true 2 (ac a.2.2.1),.str a.2.2.2]) (fun a=>(∀ f ∈ a.1,f.text.length<=64)/\(∀ f ∈ a.2.1,f.text.length<=64) /\ ∀ f ∈ a.2.2.1,f.text.length<=64) (fun a=>.tup [.sl false 1 (aa (ce a.1 a.2.1 a.2.2.1 a.2.2.2).1),.bool (ce a.1 a.2.1 a.2.2.1 a.2.2.2).2.1,.int .i64 (ce a.1 a.2.1 a.2.2.1 a.2.2.2).2.2]) (fun _=>[])
theorem Kj:Has Tryz.prog 230 tQ:=by
 refine ah mixed aw (HasL.cons wt (HasL.cons Kl (HasL.cons J6 (HasL.cons J9 HasL.nil)))) [0,1,2,3,8,9,10,11,12,13,14,15,16,17,18,37] ((fun a n (_:Nat)=>(fun _=>az) a n)) [] Tryz.func230 (by unfold Tryz.f230; rfl) (fun _=>⟨(),trivial⟩) ?_
 intro a ha;obtain ⟨o,a,b,p⟩:=a;obtain ⟨h1,h2,h3⟩:(∀ f ∈ o,f.text.length<=64)/\(∀ f ∈ a,f.text.length<=64) /\ ∀ f ∈ b,f.text.length<=64:=ha;have g1:=ii h1 p;have g2:=ii h2 p;have g3:=ii h3 p;simp (maxSteps:=8000000) -implicitDefEqProofs [-kStep_move,-Bool.exists_bool,tQ,lN,tS,tL,tN,Con.fn,ag]
 try dsimp only
 have so:∀ x y:List Str × Bool,c6 (x.1,x.2) (y.1,y.2)=c6 x y:=fun _ _=>rfl;have ob:=LH (au o p).1 (au a p).1 (au b p).1;generalize hO:au o p=O at *;generalize hA:au a p=A at *;generalize hB:au b p=B at *;have e1:(c6 A O=true \/ c6 A B=true)->ce o a b p=(B.1,B.2,0):=fun h=>by unfold ce; rw [hO,hA,hB]; rw [if_pos (by simpa using h)]
 have e2:c6 A O=false->c6 A B=false->c6 B O=true->ce o a b p=(A.1,A.2,0):=fun h h' h2=>by unfold ce; rw [hO,hA,hB]; rw [if_neg (by simp -implicitDefEqProofs [h,h']),if_pos h2]
 have e3:c6 A O=false->c6 A B=false->c6 B O=false->(A.2=false \/ B.2=false)->ce o a b p=(O.1,O.2,1):=fun h h' h2 h3=>by unfold ce; rw [hO,hA,hB]; rw [if_neg (by simp -implicitDefEqProofs [h,h']),if_neg (by simp -implicitDefEqProofs [h2]),if_pos (by simpa using h3)]
 have e4:c6 A O=false->c6 A B=false->c6 B O=false->A.2=true->B.2=true->O.2=false->ce o a b p=([],false,2):=fun h h' h2 h3 h4 h5=>by unfold ce; rw [hO,hA,hB]; rw [if_neg (by simp -implicitDefEqProofs [h,h']),if_neg (by simp -implicitDefEqProofs [h2]),if_neg (by simp -implicitDefEqProofs [h3,h4]),if_pos (by simp -implicitDefEqProofs [h5])]
 have e5:c6 A O=false->c6 A B=false->c6 B O=false->A.2=true->B.2=true->O.2=true->(dd (of3 O.1 A.1 B.1)).2=true->ce o a b p=((dd (of3 O.1 A.1 B.1)).1,true,0):=fun h h' h2 h3 h4 h5 h6=>by unfold ce; rw [hO,hA,hB]; rw [if_neg (by simp -implicitDefEqProofs [h,h']),if_neg (by simp -implicitDefEqProofs [h2]),if_neg (by simp -implicitDefEqProofs [h3,h4]),if_neg (by simp -implicitDefEqProofs [h5]),if_pos h6]
 have e6:c6 A O=false->c6 A B=false->c6 B O=false->A.2=true->B.2=true->O.2=true->(dd (of3 O.1 A.1 B.1)).2=false->ce o a b p=(O.1,true,3):=fun h h' h2 h3 h4 h5 h6=>by unfold ce; rw [hO,hA,hB]; rw [if_neg (by simp -implicitDefEqProofs [h,h']),if_neg (by simp -implicitDefEqProofs [h2]),if_neg (by simp -implicitDefEqProofs [h3,h4]),if_neg (by simp -implicitDefEqProofs [h5]),if_neg (by simp -implicitDefEqProofs [h6])]
 refine ⟨o,p,⟨rfl,rfl⟩,a,p,⟨rfl,rfl⟩,b,p,⟨rfl,rfl⟩,?_⟩;rw [hO,hA,hB];refine ⟨_,_,_,_,⟨rfl,rfl,rfl,rfl⟩,fun h=>⟨fun _=>?_,fun h'=>absurd (h.symm.trans h') (by decide)⟩,fun h=>⟨_,_,_,_,⟨rfl,rfl,rfl,rfl⟩,fun h2=>?_,fun h2=>⟨_,_,_,_,⟨rfl,rfl,rfl,rfl⟩,fun h3=>?_,fun h3=>⟨fun h4=>?_,fun h4 h5=>⟨fun h6=>?_,fun h6=>⟨_,_,_,⟨rfl,rfl,rfl⟩,⟨by omega,by omega,by omega⟩,⟨by omega,fun q hq=>by have:=ob.2 q hq; omega⟩,?_⟩⟩⟩⟩⟩⟩
 ·rw [e1 (.inl h)]; exact ⟨rfl,rfl,rfl⟩
 ·rw [e1 (.inr h2)]; exact ⟨rfl,rfl,rfl⟩
 ·rw [e2 h h2 h3]; exact ⟨rfl,rfl,rfl⟩
 ·rw [e3 h h2 h3 h4]; exact ⟨rfl,rfl,rfl⟩
 ·rw [e4 h h2 h3 h4 h5 h6]; exact ⟨rfl,rfl,rfl⟩
 ·exact ⟨fun h7=>by rw [e6 h h2 h3 h4 h5 h6 h7]; exact ⟨rfl,rfl,rfl⟩,fun h7=>by rw [e5 h h2 h3 h4 h5 h6 h7]; exact ⟨rfl,rfl,rfl⟩⟩
def tO:Con:=.fn 48 (List Str × Str) (fun a=>[.sl true 1 (aa a.1),.str a.2]) (fun a=>a.1.length<=1073741824) (fun a=>.sl false 1 (aa (bX a.1 a.2))) (fun _=>[])
theorem Kh:Has Tryz.prog 101 tO:=by
 refine ah mixed aw HasL.nil [0,1,4,5,6] ((fun a n (_:Nat)=>(fun a _=>⟨Nat,fun k=>⟨[(0,true,.sl true 1 (aa a.1)),(1,true,.str a.2),(4,true,.nil),(5,true,.int .i64 k)],[]⟩,fun k=>k<=a.1.length/\a.1.take k++bX (a.1.drop k) a.2=bX a.1 a.2,fun k=>a.1.length - k⟩) a n)) [] Tryz.func101 (by unfold Tryz.f101; rfl) (fun _=>⟨(),trivial⟩) ?_
 intro a ha;obtain ⟨l,s⟩:=a;replace ha:l.length<=1073741824:=ha;simp -implicitDefEqProofs [tO,Con.fn,ag]
 try dsimp only
 have f:∀ (t:List Str),∀ x ∈ aa t,∀ d ∈ x,match d with | .sl _ _ _=>False | _=>True:=fun t=>(eStrs_flat t).mpr trivial
 have f1:∀ t,∀ x ∈ List.take t (aa l),∀ d ∈ x,match d with | .sl _ _ _=>False | _=>True:=fun t=>by rw [bn]; exact f _
 have f2:∀ t,∀ x ∈ List.take (l.length - t) (List.drop t (aa l)),∀ d ∈ x,match d with | .sl _ _ _=>False | _=>True:=fun t=>by rw [bw,bn]; exact f _
 have fin:∀ t,bX l s=l.take t++[s]++l.drop t->aa (bX l s)=List.take t (aa l)++[D.str s] :: List.take (l.length - t) (List.drop t (aa l)):=fun t h=>by
  rw [h,bw,bn,bn,List.take_of_length_le (show (l.drop t).length<=l.length - t by simp)]
  simp -implicitDefEqProofs [aa,ar]
 refine fun t ht hp _=>⟨fun hlt=>⟨hlt,fun _=>?_⟩,fun hge _=>⟨fun hlt=>absurd hlt (by omega),fun _=>⟨ht,fun _=>⟨f1 t,⟨by omega,by omega⟩,⟨by omega,by omega⟩,ht,fun _=>⟨f2 t,⟨by omega,by omega⟩,fin t (Nr hge hp)⟩⟩⟩⟩⟩
 have qq:Option.map ar l[t]? = some (ar l[t]):=by simp -implicitDefEqProofs [hlt]
 rw [qq];have g1:=Nw hlt hp;have g2:=Ns hlt hp;have g3:=Nu hlt hp;generalize l[t]=y at *;simp -implicitDefEqProofs [ar,D.asStr];refine ⟨fun h=>⟨⟨by omega,by omega⟩,fun _ _=>⟨t+1,by omega,⟨by omega,g1 h⟩,by omega⟩⟩,fun h _=>⟨fun _=>⟨hlt,fun _=>⟨fun e=>g2 h e,fun e=>⟨ht,fun _=>⟨f1 t,⟨by omega,by omega⟩,⟨by omega,by omega⟩,ht,fun _=>⟨f2 t,⟨by omega,by omega⟩,fin t (g3 h e)⟩⟩⟩⟩⟩,fun hge=>absurd hlt (by omega)⟩⟩
def wy (o a b:List FileD):Inv:=⟨Nat,fun i=>⟨[(0,true,.sl true 2 (ac o)),(1,true,.sl true 2 (ac a)),(2,true,.sl true 2 (ac b)),(6,true,.nil),(7,true,.sl false 1 (aa (cf [] (o.take i)))),(8,true,.int .i64 i)],[]⟩,fun i=>i<=o.length,fun i=>o.length - i⟩
def wz (o a b:List FileD):Inv:=⟨Nat,fun i=>⟨[(0,true,.sl true 2 (ac o)),(1,true,.sl true 2 (ac a)),(2,true,.sl true 2 (ac b)),(6,true,.nil),(7,true,.sl false 1 (aa (cf (cf [] o) (a.take i)))),(9,true,.int .i64 i)],[]⟩,fun i=>i<=a.length,fun i=>a.length - i⟩
def wA (o a b:List FileD):Inv:=⟨Nat,fun i=>⟨[(0,true,.sl true 2 (ac o)),(1,true,.sl true 2 (ac a)),(2,true,.sl true 2 (ac b)),(6,true,.nil),(7,true,.sl false 1 (aa (cf (cf (cf [] o) a) (b.take i)))),(10,true,.int .i64 i)],[]⟩,fun i=>i<=b.length,fun i=>b.length - i⟩
def qO (o a b:List FileD) (n:Nat):Inv:=if n=3 then wy o a b else if n=7 then wz o a b else wA o a b
theorem Ko (o a b:List FileD):qO o a b 3=wy o a b:=rfl
theorem Kp (o a b:List FileD):qO o a b 7=wz o a b:=rfl
theorem Km (o a b:List FileD):qO o a b 11=wA o a b:=rfl
def tR:Con:=.fn 52 (List FileD × List FileD × List FileD) (fun a=>[.sl true 2 (ac a.1),.sl true 2 (ac a.2.1),.sl true 2 (ac a.2.2)]) (fun a=>a.1.length<=1048576/\a.2.1.length<=1048576/\a.2.2.length<=1048576) (fun a=>.sl false 1 (aa (aZ a.1 a.2.1 a.2.2))) (fun _=>[])
theorem Kk:Has Tryz.prog 229 tR:=by
 refine ah mixed aw (HasL.cons Kh HasL.nil) [0,1,2,6,7,8,9,10] ((fun a n (_:Nat)=>(fun a n=>qO a.1 a.2.1 a.2.2 n) a n)) [] Tryz.func229 (by unfold Tryz.f229; rfl) (fun _=>⟨(),trivial⟩) ?_
 intro a ha;obtain ⟨o,a,b⟩:=a;obtain ⟨h1,h2,h3⟩:o.length<=1048576/\a.length<=1048576/\b.length<=1048576:=ha;simp -implicitDefEqProofs [tR,tO,Con.fn,ag,Ko,Kp,Km,wy,wz,wA]
 try dsimp only
 have b1:=j6 o [];have b2:=j6 a (cf [] o);simp only [List.length_nil] at b1;have z:([]:List Str).length=0:=rfl;refine ⟨⟨0,⟨rfl,rfl⟩,Nat.zero_le _⟩,fun t ht _=>⟨fun hlt=>⟨hlt,fun _=>?_⟩,fun hge=>⟨⟨0,⟨by rw [List.take_of_length_le hge]; rfl,rfl⟩,Nat.zero_le _⟩,fun u hu _=>⟨fun hlt=>⟨hlt,fun _=>?_⟩,fun hge=>⟨⟨0,⟨by rw [List.take_of_length_le hge]; rfl,rfl⟩,Nat.zero_le _⟩,fun v hv _=>⟨fun hlt=>⟨hlt,fun _=>?_⟩,fun hge=>by rw [List.take_of_length_le hge]; rfl⟩⟩⟩⟩⟩⟩
 ·have hb:=j6 (o.take t) ([]);have hl:(o.take t).length<=o.length:=by simp; omega
  have qq:Option.map aq o[t]? = some (aq o[t]):=by simp -implicitDefEqProofs [hlt]
  have hs:=xm (l:=[]) hlt;rw [qq];simp -implicitDefEqProofs [aq,D.asStr];exact ⟨_,_,⟨rfl,rfl⟩,by omega,⟨by omega,by omega⟩,fun _ _=>⟨t+1,⟨hs,by omega⟩,by omega,by omega⟩⟩
 ·have hb:=j6 (a.take u) (cf [] o);have hl:(a.take u).length<=a.length:=by simp; omega
  have qq:Option.map aq a[u]? = some (aq a[u]):=by simp -implicitDefEqProofs [hlt]
  have hs:=xm (l:=cf [] o) hlt;rw [qq];simp -implicitDefEqProofs [aq,D.asStr];exact ⟨_,_,⟨rfl,rfl⟩,by omega,⟨by omega,by omega⟩,fun _ _=>⟨u+1,⟨hs,by omega⟩,by omega,by omega⟩⟩
 ·have hb:=j6 (b.take v) (cf (cf [] o) a);have hl:(b.take v).length<=b.length:=by simp; omega
  have qq:Option.map aq b[v]? = some (aq b[v]):=by simp -implicitDefEqProofs [hlt]
  have hs:=xm (l:=cf (cf [] o) a) hlt;rw [qq];simp -implicitDefEqProofs [aq,D.asStr];exact ⟨_,_,⟨rfl,rfl⟩,by omega,⟨by omega,by omega⟩,fun _ _=>⟨v+1,⟨hs,by omega⟩,by omega,by omega⟩⟩
abbrev L4 (h:Nat) (a:List HeadD):List (Nat × Blk):=[(h,.own 181 2 true (al a))]
def A1 (o a b:List FileD):Inv:=⟨Nat,fun i=>⟨[(0,true,.sl true 2 (ac o)),(1,true,.sl true 2 (ac a)),(2,true,.sl true 2 (ac b)),(6,true,.nil),(7,true,.nil),(8,true,.own 9 2 (ac (dv o a b ((aZ o a b).take i)).1)),(9,true,.own 10 2 (al (dv o a b ((aZ o a b).take i)).2)),(10,true,.sl false 1 (aa (aZ o a b))),(11,true,.int .i64 i)],[(9,.own 119 2 true (ac (dv o a b ((aZ o a b).take i)).1)),(10,.own 181 2 true (al (dv o a b ((aZ o a b).take i)).2))]⟩,fun i=>i<=(aZ o a b).length,fun i=>(aZ o a b).length - i⟩
def szT (t:List FileD):Prop:=t.length<=100000 /\ ∀ f ∈ t,f.text.length<=64
def tP:Con:=.fn 64 (List FileD × List FileD × List FileD) (fun a=>[.sl true 2 (ac a.1),.sl true 2 (ac a.2.1),.sl true 2 (ac a.2.2)]) (fun a=>szT a.1/\szT a.2.1/\szT a.2.2) (fun a=>.tup [.own 8 2 (ac (of6 a.1 a.2.1 a.2.2).1),.own 9 2 (al (of6 a.1 a.2.1 a.2.2).2)]) (fun a=>eO 8 (of6 a.1 a.2.1 a.2.2).1++L4 9 (of6 a.1 a.2.1 a.2.2).2)
theorem Ki:Has Tryz.prog 179 tP:=by
 refine ah mixed aw (HasL.cons Kk (HasL.cons Kj HasL.nil)) [0,1,2,6,7,8,9,10,11,12,13,14] ((fun a n (_:Nat)=>(fun a _=>A1 a.1 a.2.1 a.2.2) a n)) [60] Tryz.func179 (by unfold Tryz.f179; rfl) (fun _=>⟨(),trivial⟩) ?_
 intro a ha;obtain ⟨o,a,b⟩:=a;obtain ⟨⟨h1,h1'⟩,⟨h2,h2'⟩,h3,h3'⟩:szT o/\szT a/\szT b:=ha;simp -implicitDefEqProofs [tP,tR,tQ,Con.fn,ag,A1]
 try dsimp only
 have hp:=CB o a b;refine ⟨o,a,b,⟨rfl,rfl,rfl⟩,⟨by omega,by omega,by omega⟩,⟨0,⟨⟨rfl,rfl,rfl,rfl⟩,rfl,rfl⟩,Nat.zero_le _⟩,fun t ht _=>⟨fun hlt=>⟨hlt,fun _=>?_⟩,fun hge=>?_⟩⟩
 ·have qq:Option.map ar (aZ o a b)[t]? = some (ar (aZ o a b)[t]):=by simp -implicitDefEqProofs [hlt]
  have hs:=Dj (o:=o) (a:=a) (b:=b) hlt;have hb:=C9 o a b ((aZ o a b).take t);have hl:((aZ o a b).take t).length<=(aZ o a b).length:=by simp; omega
  have ho:=BM (p:=(aZ o a b)[t]) (show 10<=64 by omega) h1' h2' h3'
  rw [qq];generalize dv o a b ((aZ o a b).take t)=R at *;generalize (aZ o a b)[t]=y at *;obtain ⟨X,Y⟩:=R;simp only at hb;simp -implicitDefEqProofs [ar,D.asStr];refine ⟨o,a,b,y,⟨rfl,rfl,rfl,rfl⟩,⟨h1',h2',h3'⟩,?_⟩;generalize hone:ce o a b y=O at *;obtain ⟨x1,x2,x3⟩:=O;have f:∀ (t:List Str),∀ x ∈ aa t,∀ d ∈ x,match d with | .sl _ _ _=>False | _=>True:=fun t=>(eStrs_flat t).mpr trivial
  have st:dv o a b ((aZ o a b).take (t+1))=(if x2=true then X++[⟨y,x1⟩] else X,if 0 < x3 then Y++[⟨y,x3⟩] else Y):=by rw [hs]; unfold stepJ; rw [hone]
  have snF:ac X++[[D.str y,D.sl 9 1 (aa x1)]]=ac (X++[⟨y,x1⟩]):=bJ _ _ _;have snH:al Y++[[D.str y,D.int .i64 x3]]=al (Y++[⟨y,x3⟩]):=qh _ _ _;dsimp only at ho ⊢
  rw [snF,snH];refine ⟨fun h3=>⟨hlt,fun _=>⟨⟨by omega,by omega⟩,fun h2=>⟨hlt,fun _=>⟨f x1,⟨by omega,by omega⟩,⟨by omega,by omega⟩,⟨by omega,by omega⟩,fun _ _=>⟨t+1,?_⟩⟩⟩,fun h2=>⟨⟨by omega,by omega⟩,fun _ _=>⟨t+1,?_⟩⟩⟩⟩,fun h3=>⟨fun h2=>⟨hlt,fun _=>⟨f x1,⟨by omega,by omega⟩,⟨by omega,by omega⟩,⟨by omega,by omega⟩,fun _ _=>⟨t+1,?_⟩⟩⟩,fun h2=>⟨⟨by omega,by omega⟩,fun _ _=>⟨t+1,?_⟩⟩⟩⟩
  ·rw [st,if_pos h2,if_pos h3]; exact ⟨⟨⟨rfl,rfl,by omega⟩,rfl,rfl⟩,by omega,by omega⟩
  ·rw [st,if_neg (by simp -implicitDefEqProofs [h2]),if_pos h3]; exact ⟨⟨⟨rfl,rfl,by omega⟩,rfl,rfl⟩,by omega,by omega⟩
  ·rw [st,if_pos h2,if_neg (by omega)]; exact ⟨⟨⟨rfl,rfl,by omega⟩,rfl,rfl⟩,by omega,by omega⟩
  ·rw [st,if_neg (by simp -implicitDefEqProofs [h2]),if_neg (by omega)]; exact ⟨⟨⟨rfl,rfl,by omega⟩,rfl,rfl⟩,by omega,by omega⟩
 ·have e:(aZ o a b).take t=aZ o a b:=List.take_of_length_le hge;rw [e]; exact ⟨⟨rfl,rfl⟩,rfl,rfl⟩
def pK:Con:=.fn 31 (List FileD × List FileD × List FileD) (fun a=>[.sl true 2 (ac a.1),.sl true 2 (ac a.2.1),.sl true 2 (ac a.2.2)]) (fun a=>szT a.1/\szT a.2.1/\szT a.2.2) (fun a=>.tup [.sl false 2 (ac (bZ a.1 a.2.1 a.2.2).1),.sl false 2 (al (bZ a.1 a.2.1 a.2.2).2)]) (fun _=>[])
theorem A0:Has Tryz.prog 113 pK:=by
 refine ah mixed aw (HasL.cons Ki (HasL.cons nP (HasL.cons me HasL.nil))) [0,1,2,6,7,8,9] ((fun a n (_:Nat)=>(fun _=>az) a n)) [] Tryz.func113 (by unfold Tryz.f113; rfl) (fun _=>⟨(),trivial⟩) ?_
 intro a ha;obtain ⟨o,a,b⟩:=a;obtain ⟨h1,h2,h3⟩:szT o/\szT a/\szT b:=ha;simp -implicitDefEqProofs [pK,tP,kC,jH,Con.fn,ag]
 try dsimp only
 have e1:(of6 o a b).2=[]->aR (of6 o a b).1=false->bZ o a b=(o,[⟨[],4⟩]):=fun h h'=>by unfold bZ; rw [if_pos ⟨h,h'⟩]
 have e2:(of6 o a b).2=[]->aR (of6 o a b).1=true->bZ o a b=of6 o a b:=fun h h'=>by unfold bZ; rw [if_neg (by simp -implicitDefEqProofs [h'])]
 have e3:¬ (of6 o a b).2=[]->bZ o a b=of6 o a b:=fun h=>by unfold bZ; rw [if_neg (by simp -implicitDefEqProofs [h])]
 refine ⟨o,a,b,⟨rfl,rfl,rfl⟩,⟨h1,h2,h3⟩,fun _=>⟨fun h=>⟨fun h'=>⟨⟨by have:=h1.1; omega,fun f hf=>by have:=h1.2 f hf; omega⟩,?_⟩,fun h'=>?_⟩,fun h=>?_⟩⟩
 ·rw [e1 h h']; exact ⟨rfl,rfl⟩
 ·rw [e2 h h']; exact ⟨rfl,rfl⟩
 ·rw [e3 h]; exact ⟨rfl,rfl⟩
structure OpD where
 kind:Int
 branch:Str
 who:Str
 path:Str
 to_:Str
 at_:Int
 text:List Str
 deriving DecidableEq,Inhabited
def eOp (a:OpD):List D:=[.int .i64 a.kind,.str a.branch,.str a.who,.str a.path,.str a.to_,.int .i64 a.at_,.sl 9 1 (aa a.text)]
@[simp] theorem eOp_inj (a b:OpD):(eOp a=eOp b)=(a=b):=by cases a; cases b; simp -implicitDefEqProofs [eOp]
@[simp] theorem OpD.eta (a:OpD):(⟨a.kind,a.branch,a.who,a.path,a.to_,a.at_,a.text⟩:OpD)=a:=rfl
theorem OpD.eq_iff (a b:OpD):(a=b)=(a.kind=b.kind/\a.branch=b.branch/\a.who=b.who/\a.path=b.path/\a.to_=b.to_/\a.at_=b.at_/\a.text=b.text):=by cases a; cases b; simp
@[simp] theorem OpD.ex1 (x_kind:Int) (x_branch:Str) (x_who:Str) (x_path:Str) (x_to_:Str) (x_at_:Int) (x_text:List Str) (Q:OpD->Prop):(∃ a:OpD,a.kind=x_kind/\a.branch=x_branch/\a.who=x_who/\a.path=x_path/\a.to_=x_to_/\a.at_=x_at_/\a.text=x_text/\Q a)=Q ⟨x_kind,x_branch,x_who,x_path,x_to_,x_at_,x_text⟩:=by
 apply propext;constructor
 ·rintro ⟨⟨_,_,_,_,_,_,_⟩,rfl,rfl,rfl,rfl,rfl,rfl,rfl,h⟩; exact h
 ·intro h; exact ⟨⟨x_kind,x_branch,x_who,x_path,x_to_,x_at_,x_text⟩,rfl,rfl,rfl,rfl,rfl,rfl,rfl,h⟩
@[simp] theorem OpD.ex2 (x_kind:Int) (x_branch:Str) (x_who:Str) (x_path:Str) (x_to_:Str) (x_at_:Int) (x_text:List Str) (Q:OpD->Prop):(∃ a:OpD,(a.kind=x_kind/\a.branch=x_branch/\a.who=x_who/\a.path=x_path/\a.to_=x_to_/\a.at_=x_at_/\a.text=x_text)/\Q a)=Q ⟨x_kind,x_branch,x_who,x_path,x_to_,x_at_,x_text⟩:=by
 apply propext;constructor
 ·rintro ⟨⟨_,_,_,_,_,_,_⟩,⟨rfl,rfl,rfl,rfl,rfl,rfl,rfl⟩,h⟩; exact h
 ·intro h; exact ⟨⟨x_kind,x_branch,x_who,x_path,x_to_,x_at_,x_text⟩,⟨rfl,rfl,rfl,rfl,rfl,rfl,rfl⟩,h⟩
@[simp] theorem OpD.ex0 (x_kind:Int) (x_branch:Str) (x_who:Str) (x_path:Str) (x_to_:Str) (x_at_:Int) (x_text:List Str):(∃ a:OpD,a.kind=x_kind/\a.branch=x_branch/\a.who=x_who/\a.path=x_path/\a.to_=x_to_/\a.at_=x_at_/\a.text=x_text)=True:=by
 simp only [eq_iff_iff,iff_true];exact ⟨⟨x_kind,x_branch,x_who,x_path,x_to_,x_at_,x_text⟩,rfl,rfl,rfl,rfl,rfl,rfl,rfl⟩
def eV (l:List OpD):List (List D):=l.map eOp
@[simp] theorem eOps_length (l:List OpD):(eV l).length=l.length:=by simp -implicitDefEqProofs [eV]
@[simp] theorem eOps_nil:eV []=[]:=rfl
@[simp] theorem eOps_get (l:List OpD) (i:Nat):(eV l)[i]? = l[i]?.map eOp:=by simp -implicitDefEqProofs [eV]
@[simp] theorem eOps_getElem (l:List OpD) (i:Nat) (h:i < (eV l).length):(eV l)[i]=eOp (l[i]'(by simpa using h)):=by simp -implicitDefEqProofs [eV]
@[simp] theorem eOps_inj (a b:List OpD):(eV a=eV b)=(a=b):=by
 apply propext;constructor
 ·intro h;exact List.map_inj_right (fun x y h=>by simpa using h) |>.1 h
 ·rintro rfl; rfl
@[simp] theorem eOps_eq_nil (a:List OpD):(eV a=[])=(a=[]):=by simp -implicitDefEqProofs [eV]
@[simp] theorem nil_eq_eOps (a:List OpD):([]=eV a)=(a=[]):=by simp -implicitDefEqProofs [eV,eq_comm]
abbrev vOp (o:OpD):AV:=.agg [.int .i64 o.kind,.str o.branch,.str o.who,.str o.path,.str o.to_,.int .i64 o.at_,.sl true 1 (aa o.text)]
def bOp (o:OpD):Blk:=.box 70 [.int .i64 o.kind,.str o.branch,.str o.who,.str o.path,.str o.to_,.int .i64 o.at_,.sl true 1 (aa o.text)]
def fN (o:OpD) (p t a x:Bool):Bool:=(p || decide (o.path=[])) && (t || decide (o.to_=[])) && (a || decide (o.at_=0)) && (x || decide (o.text=[]))
def eB (s:Str):Bool:=s.all fun b=>decide (b ≠ 124)
def eZ (t:List Str):Bool:=t.all eB && bg t
def opB (o:OpD):Bool:=(aQ o.branch && aQ o.who) &&
 (if o.kind=1 then fN o true false false true && dg o.path && eZ o.text
 else if o.kind=2 then fN o true false false false && dg o.path
 else if o.kind=3 then fN o true true false false && dg o.path && dg o.to_
 else if o.kind=4 \/ o.kind=5 then fN o false true false false && aQ o.to_
 else if o.kind=6 \/ o.kind=7 then fN o false false true false && (decide (0<=o.at_) && decide (o.at_<=15))
 else false)
def dj (r:RepoD) (o:OpD) (x:List FileD × Bool):RepoD × Int:=if x.2 then (if (dz r o.branch o.who x.1).2 then ((dz r o.branch o.who x.1).1,0) else (r,5)) else (r,1)
def dR (r:RepoD) (n:Str):List FileD:=if 0<=atL r.heads n then aj r (atL r.heads n) else []
def aP (r:RepoD) (o:OpD):RepoD × Int :=
 if o.kind=1 then dj r o (iB (dR r o.branch) ⟨o.path,o.text⟩)
 else if o.kind=2 then dj r o (fX (dR r o.branch) o.path)
 else if o.kind=3 then dj r o (ep (dR r o.branch) o.path o.to_)
 else if o.kind=4 then (if (db r o.to_ (atL r.heads o.branch)).2 then ((db r o.to_ (atL r.heads o.branch)).1,0) else (r,1))
 else if o.kind=5 then cI r o.branch o.who (atL r.heads o.to_)
 else if o.kind=6 then ck false r o.branch o.who o.at_
 else ck true r o.branch o.who o.at_
def iV (r:RepoD) (o:OpD):RepoD × Int:=if an r then (if opB o then aP r o else (r,1)) else (noR,1)
def plR (r:RepoD):Prop:=an r=true/\(r.commits ≠ []->r.heads ≠ [])
theorem CF:plR noR:=⟨rfl,fun h=>absurd rfl h⟩
theorem NT {r:RepoD} {n w:Str} {t:List FileD} (h:(dz r n w t).2=true):plR (dz r n w t).1:=by
 unfold dz at h ⊢;split
 ·rename_i h1;rw [if_pos h1] at h;split
  ·rename_i h2; exact ⟨h2,fun _=>nL _ _ _⟩
  ·rename_i h2; rw [if_neg h2] at h; cases h
 ·rename_i h1; rw [if_neg h1] at h; cases h
theorem NO {r:RepoD} {n:Str} {a:Int} (h:(db r n a).2=true):plR (db r n a).1:=by
 unfold db at h ⊢;split
 ·rename_i h1;rw [if_pos h1] at h;split
  ·rename_i h2; rw [if_pos h2] at h; cases h
  ·rename_i h2;have:an ⟨r.commits,bv r.heads n a⟩=true:=by
    cases q:an ⟨r.commits,bv r.heads n a⟩ with
    | true=>rfl
    | false=>exact absurd (.inr q) h2
   exact ⟨this,fun _=>nL _ _ _⟩
 ·rename_i h1; rw [if_neg h1] at h; cases h
theorem xN {r:RepoD} {o:OpD} {x:List FileD × Bool} (h:plR r):plR (dj r o x).1:=by
 unfold dj;split
 ·split
  ·rename_i q; exact NT q
  ·exact h
 ·exact h
theorem zz {r:RepoD} {o:OpD} (h:plR r):plR (aP r o).1:=by
 unfold aP
 repeat' split
 ·exact xN h
 ·exact xN h
 ·exact xN h
 ·rename_i q; exact NO q
 ·exact h
 ·exact PW h.1 h.2
 ·exact CE h.1 h.2
 ·exact CE h.1 h.2
def tz:Con:=.fn 42 (OpD × Bool × Bool × Bool × Bool) (fun a=>[vOp a.1,.bool a.2.1,.bool a.2.2.1,.bool a.2.2.2.1,.bool a.2.2.2.2]) (fun a=>a.1.text.length<=1048576) (fun a=>.bool (fN a.1 a.2.1 a.2.2.1 a.2.2.2.1 a.2.2.2.2)) (fun _=>[])
theorem JN:Has Tryz.prog 160 tz:=by
 refine ah mixed aw HasL.nil [0,1,2,3,4,5,10] ((fun a n (_:Nat)=>(fun _=>az) a n)) [] Tryz.func160 (by unfold Tryz.f160; rfl) (fun _=>⟨(),trivial⟩) ?_
 intro a ha;obtain ⟨o,p,t,a,x⟩:=a;replace ha:o.text.length<=1048576:=ha;simp (maxSteps:=8000000) -implicitDefEqProofs [-kStep_move,-Bool.exists_bool,tz,Con.fn,ag];unfold fN;by_cases h1:o.path=[] <;> by_cases h2:o.to_=[] <;> by_cases h3:o.at_=0 <;> by_cases h4:o.text=[] <;> simp -implicitDefEqProofs [h1,h2,h3,h4] <;> cases p <;> cases t <;> cases a <;> cases x <;> simp -implicitDefEqProofs <;> omega
def wh (t:List Str):Inv:=⟨Nat,fun i=>⟨[(0,true,.sl true 1 (aa t)),(2,true,.bool false),(3,true,.int .i64 i)],[]⟩,fun i=>i<=t.length/\(t.take i).all eB=true,fun i=>t.length - i⟩
def we (t:List Str) (g:Nat):Inv:=⟨Nat,fun k=>⟨[(0,true,.sl true 1 (aa t)),(2,true,.bool false),(3,true,.int .i64 g),(4,true,.int .i64 k)],[]⟩,fun k=>g < t.length/\(t.take g).all eB=true/\k<=(t.getD g []).length/\((t.getD g []).take k).all (fun b=>decide (b ≠ 124))=true,fun k=>(t.getD g []).length - k⟩
def wg (t:List Str) (n g:Nat):Inv:=if n=2 then wh t else we t g
theorem JP (t g):wg t 2 g=wh t:=rfl
theorem JQ (t g):wg t 5 g=we t g:=rfl
def tD:Con:=.fn 29 (List Str) (fun t=>[.sl true 1 (aa t)]) (fun _=>True) (fun t=>.bool (eZ t)) (fun _=>[])
theorem JR:Has Tryz.prog 161 tD:=by
 refine ah mixed aw (HasL.cons wl HasL.nil) [0,2,3,4] (fun t=>wg t) [] Tryz.func161 (by unfold Tryz.f161; rfl) (fun _=>⟨(),trivial⟩) ?_
 intro (t:List Str) _;simp -implicitDefEqProofs [tD,nd,Con.fn,ag,JP,JQ,wh,we]
 try dsimp only
 have e0:∀ i (h:i < t.length),¬ eB t[i]=true->eZ t=false:=fun i h hb=>by
  unfold eZ;rw [Bool.and_eq_false_iff]; left
  rw [List.all_eq_false];exact ⟨_,List.getElem_mem h,hb⟩
 refine fun i hi hp _=>⟨fun hlt=>⟨i,⟨0,⟨rfl,rfl⟩,hlt,hp,Nat.zero_le _,by simp⟩,fun k _ _ hk hq=>?_⟩,fun hge=>?_⟩
 ·have e1:=e0 i hlt;have e2:t[i]?.getD []=t[i]:=by simp -implicitDefEqProofs [hlt]
  have qq:Option.map ar t[i]? = some (ar t[i]):=by simp -implicitDefEqProofs [hlt]
  have e3:(t.take (i+1)).all eB=((t.take i).all eB && eB t[i]):=cn hlt;rw [e2] at hk hq ⊢;rw [qq];generalize t[i]=s at *;simp -implicitDefEqProofs [ar,D.asStr];have hex:∀ h:k < List.length s,s[k]?.getD 0=s[k]:=fun h=>by simp -implicitDefEqProofs [h]
  refine ⟨hlt,fun _ _=>⟨fun hl=>⟨hlt,fun _=>⟨hl,fun _=>?_⟩⟩,fun hg=>⟨⟨by omega,by omega⟩,fun _ _=>⟨i+1,by omega,⟨by omega,?_⟩,by omega⟩⟩⟩⟩
  ·rw [hex hl];have hb:=List.getElem_mem hl;refine ⟨fun hc=>e1 (fun hb2=>?_),fun hc=>⟨⟨by omega,by omega⟩,fun _ _=>⟨k+1,by omega,⟨hlt,‹∀ x ∈ List.take i t,eB x=true›,by omega,fun x hx=>?_⟩,by omega⟩⟩⟩
   ·unfold eB at hb2;have:=List.all_eq_true.1 hb2 _ hb;simp only [ne_eq,decide_not,Bool.not_eq_true',decide_eq_false_iff_not] at this;exact this (UInt8.toNat_inj.1 (by simp; omega))
   ·rw [aX hl] at hx;rcases List.mem_append.1 hx with hx | hx
    ·exact hq x hx
    ·simp only [List.mem_singleton] at hx;subst hx;intro e; rw [e] at hc; exact hc rfl
  ·have hs:eB s=true:=by
    unfold eB;rw [List.all_eq_true];intro x hx;have:=hq x (by rw [List.take_of_length_le hg]; exact hx)
    simp -implicitDefEqProofs [this]
   rw [hs,Bool.and_true] at e3;have hp':(List.take i t).all eB=true:=List.all_eq_true.2 ‹∀ x ∈ List.take i t,eB x=true›;rw [hp'] at e3;exact List.all_eq_true.1 e3
 ·have e:t.take i=t:=List.take_of_length_le hge;rw [e] at hp;unfold eZ;rw [List.all_eq_true.2 hp,Bool.true_and]
def pA:Con:=.fn 72 OpD (fun o=>[vOp o]) (fun o=>o.text.length<=1048576) (fun o=>.bool (opB o)) (fun _=>[])
theorem AP:Has Tryz.prog 80 pA:=by
 refine ah mixed aw (HasL.cons mf (HasL.cons JN (HasL.cons wx (HasL.cons JR (HasL.cons jR HasL.nil))))) [0,1,2,14,52,62] ((fun a n (_:Nat)=>(fun _=>az) a n)) [] Tryz.func80 (by unfold Tryz.f80; rfl) (fun _=>⟨(),trivial⟩) ?_
 intro (o:OpD) (ha:o.text.length<=1048576);simp (maxSteps:=8000000) -implicitDefEqProofs [-kStep_move,-Bool.exists_bool,pA,jI,tz,ng,tD,iG,Con.fn,ag,bOp]
 try dsimp only
 simp -implicitDefEqProofs only [and_assoc,exists_eq_left,exists_and_left,OpD.ex1,OpD.eta];have hk:o.kind=1 \/ o.kind=2 \/ o.kind=3 \/ o.kind=4 \/ o.kind=5 \/ o.kind=6 \/ o.kind=7 \/ (¬ o.kind=1 /\ ¬ o.kind=2 /\ ¬ o.kind=3 /\ ¬ o.kind=4 /\ ¬ o.kind=5 /\ ¬ o.kind=6 /\ ¬ o.kind=7):=by omega
 unfold opB;generalize aQ o.branch=b1;generalize aQ o.who=b2;generalize dg o.path=b3;generalize dg o.to_=b4;generalize aQ o.to_=b5;generalize eZ o.text=b6;rcases hk with h | h | h | h | h | h | h | h <;> simp -implicitDefEqProofs [h,ha]
 all_goals grind
--TAB aB
def tT:Con:=.fn 66 (RepoD × Int) (fun a=>[aM a.1,.int .i64 a.2]) (fun a=>aF a.1=true/\0<=a.2/\a.2 < a.1.commits.length) (fun a=>.sl false 1 (ae (ak (anc a.1 a.2)))) (fun _=>[])
theorem Kq:Has Tryz.prog 111 tT:=by
 refine ah mixed aL HasL.nil [0,1,2,4,5,6,7,8,9] (fun a=>mP a.1 a.2) [] Tryz.func111 (by unfold Tryz.f111; rfl) (fun _=>⟨(),trivial⟩) ?_
 intro a ha;obtain ⟨r,n⟩:=a;obtain ⟨h1,h2,h3⟩:aF r=true/\0<=n/\n < r.commits.length:=ha;have h4:=fS h1;simp -implicitDefEqProofs [tT,Con.fn,aB,ag,ye,yf,yd,alO,alI,alT,aN]
 try dsimp only
 simp only [and_assoc,exists_eq_left,exists_and_left,RepoD.ex1,RepoD.eta];have hal:=ci r n;refine fun _=>⟨by omega,fun _=>⟨h2,h3,fun _ _=>⟨by omega,⟨(List.replicate r.commits.length false).set n.toNat true,by rw [gr]; exact (el _ _ _).symm,by rw [gr]; exact el _ _ _,by simp,by omega,h3,rfl⟩,fun l b g1 g2 g3 g4=>⟨fun hb=>⟨b.toNat,?_⟩,fun hb=>?_⟩⟩⟩⟩
 ·have hb1:b.toNat < l.length:=by omega
  have hb2:b.toNat < r.commits.length:=by omega
  obtain ⟨p1,p2,_⟩:=gI h1 hb2;have hgd:r.commits.getD b.toNat default=r.commits[b.toNat]:=by simp -implicitDefEqProofs [List.getD_eq_getElem?_getD,hb2]
  have hgo:r.commits[b.toNat]?.getD default=r.commits[b.toNat]:=by simp -implicitDefEqProofs [hb2]
  rw [show (b+1).toNat=b.toNat+1 by omega] at g4
  have g5:fx r b.toNat (fW r l b.toNat)=anc r n:=g4;unfold fW at g5;rw [hgd] at g5;have e3:Option.map bI r.commits[b.toNat]? = some (bI r.commits[b.toNat]):=by simp -implicitDefEqProofs [hb2]
  rw [hgo,e3];generalize r.commits[b.toNat]=c at *;refine ⟨by omega,trivial,g1,hb2,Nat.zero_le _,fun h=>?_,fun h=>?_,fun m k m1 m2 m3 m4 m5=>⟨hb2,fun _=>?_⟩⟩
  ·rw [if_pos h] at g5; exact g5
  ·rw [if_neg (by rw [h]; simp)] at g5; exact g5
  ·have hbm:b.toNat < m.length:=by omega
   have hT:isT m b.toNat=m[b.toNat]:=by simp -implicitDefEqProofs [isT,List.getD_eq_getElem?_getD,hbm]
   have e4:Option.map cz m[b.toNat]? = some (cz m[b.toNat]):=by simp -implicitDefEqProofs [hbm]
   have hmx:max b 0=b:=Int.max_eq_left hb;simp -implicitDefEqProofs [bI,D.asRows,e4,cz,hbm,hb2,hmx];refine fun _=>⟨fun hl2=>⟨fun hm=>⟨hl2,fun _=>?_⟩,fun hm=>⟨by omega,by omega,fun _ _=>⟨m1,by omega,by omega,m5 (hT.trans hm),by omega⟩⟩⟩,fun hge=>⟨by omega,by omega,fun _ _=>⟨m1,by omega,by omega,?_,by omega⟩⟩⟩
   ·have hp:=p2 c.parents[k] (List.getElem_mem hl2);have qt:Option.map ap c.parents[k]? = some (ap c.parents[k]):=by simp -implicitDefEqProofs [List.getElem?_eq_getElem hl2]
    simp -implicitDefEqProofs [qt,ap,D.asInt];have hst:isT (m.set c.parents[k].toNat true) b.toNat=true:=by rw [Aw _ (by omega)]; exact hT.trans hm
    refine ⟨hp.1,by omega,fun _ _=>⟨by omega,by omega,by omega,fun _ _=>⟨m.set c.parents[k].toNat true,(el _ _ _).symm,k+1,by omega,el _ _ _,by simp -implicitDefEqProofs [m1],by omega,fun _=>?_,fun h=>?_,by omega⟩⟩⟩
    ·have:=m4 (hT.trans hm);rw [List.drop_eq_getElem_cons hl2] at this;exact this
    ·rw [hst] at h; cases h
   ·cases hm:m[b.toNat] with
    | true =>
     have:=m4 (hT.trans hm);rw [List.drop_eq_nil_of_le hge] at this;exact this
    | false=>exact m5 (hT.trans hm)
 ·rw [show (b+1).toNat=0 by omega] at g4
  have g5:l=anc r n:=g4;refine ⟨g5.symm,⟨0,rfl,rfl,g5,rfl,Nat.zero_le _⟩,fun i hi _=>⟨fun hlt=>?_,fun hge=>?_⟩⟩
  ·have hl:=ik (anc r n) i;have hi:isT (anc r n) i=(anc r n)[i]:=by simp -implicitDefEqProofs [isT,List.getD_eq_getElem?_getD,hlt]
   rw [hal] at hlt;simp -implicitDefEqProofs [hal,hlt,cz,D.asBool,and_assoc];refine ⟨fun h=>?_,fun h=>?_⟩
   ·have e:=qU (hi.trans h);exact ⟨by omega,by omega,by omega,by omega,fun _ _=>⟨i+1,by rw [e]; simp -implicitDefEqProofs [ae,ap],by omega,by rw [e]; simp -implicitDefEqProofs [ae,ap],by omega,by omega⟩⟩
   ·have e:=qV (hi.trans h);exact ⟨by omega,by omega,fun _ _=>⟨i+1,e,by omega,e.symm,by omega,by omega⟩⟩
  ·rw [hal] at hge;have:i=r.commits.length:=by omega
   subst this;unfold ak;rw [hal]
def wD (r:RepoD) (a b:Int):Inv:=⟨Nat,fun i=>⟨[(3,true,.ptr 10 0),(6,true,.nil),(7,true,.sl false 1 (ae (ak (anc r a)))),(8,true,.sl false 1 (ae (ak (anc r b)))),(9,true,.own 9 1 (ae (cL r a b i))),(10,true,.int .i64 i)],[(10,bG r),(9,.own 3 1 true (ae (cL r a b i)))]⟩,fun i=>i<=(ak (anc r a)).length,fun i=>(ak (anc r a)).length - i⟩
def wE (r:RepoD) (L:List Int):Inv:=⟨Nat,fun i=>⟨[(3,true,.ptr 10 0),(6,true,.nil),(9,true,.own 9 1 (ae L)),(11,true,.own 11 1 (ae (ec r L i))),(12,true,.int .i64 i)],[(10,bG r),(9,.own 3 1 true (ae L)),(11,.own 3 1 true (ae (ec r L i)))]⟩,fun i=>i<=L.length,fun i=>L.length - i⟩
def wF (r:RepoD) (L:List Int) (g:Nat):Inv:=⟨Nat,fun k=>⟨[(3,true,.ptr 10 0),(6,true,.nil),(9,true,.own 9 1 (ae L)),(11,true,.own 11 1 (ae (ec r L g))),(12,true,.int .i64 g),(13,true,.bool (kw r L g k)),(14,true,.int .i64 k)],[(10,bG r),(9,.own 3 1 true (ae L)),(11,.own 3 1 true (ae (ec r L g)))]⟩,fun k=>k<=L.length/\g < L.length,fun k=>L.length - k⟩
def qQ (r:RepoD) (a b:Int) (n g:Nat):Inv:=if n=5 then wD r a b else if n=11 then wE r (cL r a b (ak (anc r a)).length) else wF r (cL r a b (ak (anc r a)).length) g
theorem Kt (r a b g):qQ r a b 5 g=wD r a b:=rfl
theorem Kr (r a b g):qQ r a b 11 g=wE r (cL r a b (ak (anc r a)).length):=rfl
theorem Ks (r a b g):qQ r a b 15 g=wF r (cL r a b (ak (anc r a)).length) g:=rfl
def nk:Con:=.fn 83 (RepoD × Int × Int) (fun a=>[aM a.1,.int .i64 a.2.1,.int .i64 a.2.2]) (fun a=>aF a.1=true/\(0<=a.2.1/\a.2.1 < a.1.commits.length)/\0<=a.2.2/\a.2.2 < a.1.commits.length) (fun a=>.own 8 1 (ae (eh a.1 a.2.1 a.2.2))) (fun a=>dY 8 (eh a.1 a.2.1 a.2.2))
theorem A5:Has Tryz.prog 137 nk:=by
 refine ah mixed aL (HasL.cons Kq (HasL.cons A6 HasL.nil)) [0,1,2,3,6,7,8,9,10,11,12,13,14] (fun a=>qQ a.1 a.2.1 a.2.2) [] Tryz.func137 (by unfold Tryz.f137; rfl) (fun _=>⟨(),trivial⟩) ?_
 intro a ha;obtain ⟨r,a,b⟩:=a;obtain ⟨h1,⟨h2,h3⟩,h4,h5⟩:aF r=true/\(0<=a/\a < r.commits.length)/\0<=b/\b < r.commits.length:=ha;simp (maxSteps:=8000000) -implicitDefEqProofs [-kStep_move,-kStepC_move,-Bool.exists_bool,nk,tT,pM,Con.fn,aB,ag,Kt,Kr,Ks,wD,wE,wF,aN]
 try dsimp only
 have hal:=ci r;have h6:=fS h1;have hmem:∀ c,∀ x ∈ ak (anc r c),0<=x/\x < r.commits.length:=fun c x hx=>by
  obtain ⟨i,q1,_,rfl⟩:=listT_mem.1 hx;rw [hal] at q1;omega
 have h16:∀ c,(ak (anc r c)).length<=16:=fun c=>by
  have:=ik (anc r c) (anc r c).length;rw [hal] at this;unfold ak; rw [hal]; omega
 refine ⟨r,a,⟨⟨rfl,rfl⟩,rfl⟩,⟨h1,h2,h3⟩,r,b,⟨⟨rfl,rfl⟩,rfl⟩,⟨h1,h4,h5⟩,?_⟩;have hLm:=hmem a;have hL16:=h16 a;have stepB:∀ t (h:t < (ak (anc r a)).length),cL r a b (t+1)=if (ak (anc r a))[t] ∈ ak (anc r b) then cL r a b t++[(ak (anc r a))[t]] else cL r a b t:=fun t h=>by
  unfold cL;rw [aX h,List.filter_append];split
  ·rename_i hq; rw [List.filter_cons_of_pos (by simpa using hq)]; simp
  ·rename_i hq; rw [List.filter_cons_of_neg (by simpa using hq)]; simp
 have bothL:∀ t,(cL r a b t).length<=(ak (anc r a)).length:=fun t=>by
  unfold cL;exact Nat.le_trans (List.length_filter_le _ _) (by simp; omega)
 have hBm:∀ x ∈ cL r a b (ak (anc r a)).length,0<=x/\x < r.commits.length:=fun x hx=>by
  unfold cL at hx;exact hLm x (List.mem_of_mem_take (List.mem_filter.1 hx).1)
 have hout:eh r a b=ec r (cL r a b (ak (anc r a)).length) (cL r a b (ak (anc r a)).length).length:=rfl;have hb0:cL r a b 0=[]:=by unfold cL; simp
 generalize ak (anc r a)=L at *;generalize hM:ak (anc r b)=M at *;have hB16:=bothL L.length;generalize hB:cL r a b L.length=B at *;have baseS:∀ u (h:u < B.length),ec r B (u+1)=if kw r B u B.length then ec r B u++[B[u]] else ec r B u:=fun u h=>by
  unfold ec;rw [List.range_succ,List.filter_append,List.map_append];split
  ·rename_i hq; simp -implicitDefEqProofs [hq,List.getD_eq_getElem?_getD,h]
  ·rename_i hq; simp -implicitDefEqProofs [hq]
 have baseL:∀ u,(ec r B u).length<=u:=fun u=>by
  unfold ec;rw [List.length_map];exact Nat.le_trans (List.length_filter_le _ _) (by simp)
 refine ⟨⟨0,⟨⟨rfl,rfl,hb0,rfl⟩,hb0⟩,Nat.zero_le _⟩,fun t ht _=>⟨fun hlt=>⟨hlt,fun _=>?_⟩,fun hge=>?_⟩⟩
 ·have qq:Option.map ap L[t]? = some (ap L[t]):=by simp -implicitDefEqProofs [hlt]
  have sB:=stepB t hlt;have bL:=bothL t;have sn:ae (cL r a b t)++[[D.int .i64 L[t]]]=ae (cL r a b t++[L[t]]):=kN _ _;rw [qq];generalize L[t]=y at *;simp -implicitDefEqProofs [ap,D.asInt];rw [sn];refine ⟨M,y,⟨rfl,rfl⟩,fun h=>⟨hlt,fun _=>⟨⟨by omega,by omega⟩,⟨by omega,by omega⟩,fun _ _=>⟨t+1,by rw [sB,if_pos h]; exact ⟨⟨⟨rfl,by omega⟩,rfl⟩,by omega,by omega⟩⟩⟩⟩,fun h=>⟨⟨by omega,by omega⟩,fun _ _=>⟨t+1,by rw [sB,if_neg h]; exact ⟨⟨⟨rfl,by omega⟩,rfl⟩,by omega,by omega⟩⟩⟩⟩
 ·have ht':t=L.length:=by omega
  subst ht';rw [hB];refine ⟨⟨0,⟨⟨rfl,rfl,rfl⟩,rfl,rfl⟩,Nat.zero_le _⟩,fun u hu _=>⟨fun hlu=>⟨u,⟨0,⟨⟨rfl,rfl,rfl,rfl⟩,rfl⟩,Nat.zero_le _,hlu⟩,fun k hk _ _=>?_⟩,fun hgu=>?_⟩⟩
  ·have q2:Option.map ap B[u]? = some (ap B[u]):=by simp -implicitDefEqProofs [hlu]
   have sS:=baseS u hlu;have bL:=baseL u;have gu:B.getD u 0=B[u]:=by simp -implicitDefEqProofs [List.getD_eq_getElem?_getD,hlu]
   have sn:ae (ec r B u)++[[D.int .i64 B[u]]]=ae (ec r B u++[B[u]]):=kN _ _;refine ⟨fun hkl=>?_,fun hge=>?_⟩
   ·have q1:Option.map ap B[k]? = some (ap B[k]):=by simp -implicitDefEqProofs [hkl]
    have gk:B.getD k 0=B[k]:=by simp -implicitDefEqProofs [List.getD_eq_getElem?_getD,hkl]
    have sb:kw r B u (k+1)=(kw r B u k && (decide ((k:Int)=(u:Int)) || !decide (B[u] ∈ ak (anc r B[k])))):=by
     have e:decide ((k:Int)=(u:Int))=decide (k=u):=by rw [Bool.eq_iff_iff,decide_eq_true_eq,decide_eq_true_eq]; omega
     rw [e];unfold kw;rw [List.range_succ,List.all_append,gu];simp -implicitDefEqProofs [List.getD_eq_getElem?_getD,hkl]
    have hm:=hBm B[k] (List.getElem_mem hkl);rw [q1,q2];generalize B[u]=y at *;generalize B[k]=x at *;simp -implicitDefEqProofs [ap,D.asInt,hkl,hlu];refine ⟨fun a b=>⟨a,b⟩,fun _=>⟨fun a b=>⟨a,b⟩,fun _=>⟨r,x,⟨⟨rfl,rfl⟩,rfl⟩,fun a b=>⟨⟨a,b⟩,h1,hm.1,hm.2⟩,fun a b=>⟨a,b⟩,fun _=>⟨fun a b=>⟨a,b⟩,fun _=>⟨_,y,⟨rfl,rfl⟩,fun a=>⟨a,?_⟩,fun _=>⟨⟨by omega,by omega⟩,fun _ _=>⟨k+1,⟨sb,by omega⟩,by omega,by omega⟩⟩⟩⟩⟩⟩⟩
    by_cases e:(k:Int)=u
    ·exact .inl e
    ·exact .inr ⟨a,e⟩
   ·have:k=B.length:=by omega
    subst this;rw [q2];generalize B[u]=y at *;simp -implicitDefEqProofs [ap,D.asInt,hlu];rw [sn];exact ⟨fun h=>⟨⟨by omega,by omega⟩,⟨by omega,by omega⟩,fun _ _=>⟨u+1,by rw [sS,if_pos h]; exact ⟨⟨⟨rfl,by omega⟩,rfl⟩,by omega,by omega⟩⟩⟩,fun h=>⟨⟨by omega,by omega⟩,fun _ _=>⟨u+1,by rw [sS,if_neg (by simp -implicitDefEqProofs [h])]; exact ⟨⟨⟨rfl,by omega⟩,rfl⟩,by omega,by omega⟩⟩⟩⟩
  ·have:u=B.length:=by omega
   subst this;rw [<- hout];exact ⟨rfl,rfl⟩
--TAB aB
theorem N1 {r:RepoD} (h:an r=true) (i:Nat):aR (r.commits.getD i default).tree=true:=by
 rcases Nat.lt_or_ge i r.commits.length with hi | hi
 ·have:=((be r).1 h).1 i hi;unfold dG fJ at this;simp only [Bool.and_eq_true] at this;exact this.2.2
 ·have:r.commits.getD i default=default:=by simp -implicitDefEqProofs [List.getD_eq_getElem?_getD,hi]
  rw [this]; rfl
theorem du {r:RepoD} (h:an r=true) (c:Int):aR (aj r c)=true:=N1 h _
theorem oC {r:RepoD} (h:an r=true):dI r:=by
 obtain ⟨h1,h2,h3⟩:=(be r).1 h;refine ⟨by omega,fun c hc=>?_,by have:=((eY _ _).1 h2).1; omega⟩
 obtain ⟨i,hi,rfl⟩:=List.getElem_of_mem hc;have h4:=h1 i hi;have e:r.commits.getD i default=r.commits[i]:=by simp -implicitDefEqProofs [List.getD_eq_getElem?_getD,hi]
 unfold dG fJ at h4;rw [e] at h4;simp only [Bool.and_eq_true,decide_eq_true_eq] at h4;obtain ⟨t1,t2⟩:=iA _ h4.2.2;exact ⟨by omega,by omega,fun g hg=>by have:=t2 g hg; omega⟩
theorem eU {r:RepoD} {c:Int} (h0:0<=c) (h1:c < r.commits.length):Option.map bI r.commits[c.toNat]? = some [D.sl 3 1 (ae (r.commits.getD c.toNat default).parents),D.str (r.commits.getD c.toNat default).who,D.sl 119 2 (ac (aj r c))]:=by
 have h:c.toNat < r.commits.length:=by omega
 have e:r.commits.getD c.toNat default=r.commits[c.toNat]:=by simp -implicitDefEqProofs [List.getD_eq_getElem?_getD,h]
 unfold aj;rw [e]; simp -implicitDefEqProofs [h,bI]
theorem FO {r:RepoD} {a b:Int} {i:Nat}:∀ x ∈ cL r a b i,0<=x/\x < r.commits.length:=fun x hx=>by
 unfold cL at hx;obtain ⟨j,q1,_,rfl⟩:=listT_mem.1 (List.mem_of_mem_take (List.mem_filter.1 hx).1);rw [ci] at q1;omega
theorem sy {r:RepoD} {a b:Int}:∀ x ∈ eh r a b,0<=x/\x < r.commits.length:=fun x hx=>by
 unfold eh ec at hx;obtain ⟨j,hj,rfl⟩:=List.mem_map.1 hx;have hj:=List.mem_range.1 (List.mem_filter.1 hj).1;rw [List.getD_eq_getElem?_getD,List.getElem?_eq_getElem hj,Option.getD_some];exact FO _ (List.getElem_mem hj)
theorem o7 {r:RepoD} (h:aF r=true) {a b:Int}:(eh r a b).length<=16:=by
 have h6:=fS h;have h1:=ik (anc r a) (anc r a).length;unfold eh ec;rw [List.length_map];refine Nat.le_trans (List.length_filter_le _ _) ?_;rw [List.length_range];unfold cL;refine Nat.le_trans (List.length_filter_le _ _) ?_;rw [ci] at h1;simp only [List.length_take,ak,ci]; omega
theorem Fp {r:RepoD} (h:an r=true) (a b:Int):aR (dk r a b)=true:=by
 unfold dk;split
 ·rfl
 ·exact du h _
theorem yc {r:RepoD} (h:an r=true) (c:Int):aR (er r c)=true:=by
 unfold er;split
 ·rfl
 ·exact du h _
theorem gO {t:List FileD} (h:aR t=true):szT t:=by
 obtain ⟨h1,h2⟩:=iA t h;exact ⟨by omega,h2⟩
def tU:Con:=.fn 26 (RepoD × Int × Int) (fun a=>[aM a.1,.int .i64 a.2.1,.int .i64 a.2.2]) (fun a=>an a.1=true/\(0<=a.2.1/\a.2.1 < a.1.commits.length)/\0<=a.2.2/\a.2.2 < a.1.commits.length) (fun a=>.sl true 2 (ac (dk a.1 a.2.1 a.2.2))) (fun _=>[])
theorem Ku:Has Tryz.prog 114 tU:=by
 refine ah mixed aL (HasL.cons A5 HasL.nil) [0,1,2,3,6,7] ((fun a n (_:Nat)=>(fun _=>az) a n)) [] Tryz.func114 (by unfold Tryz.f114; rfl) (fun _=>⟨(),trivial⟩) ?_
 intro a ha;obtain ⟨r,a,b⟩:=a;obtain ⟨h1,⟨h2,h3⟩,h4,h5⟩:an r=true/\(0<=a/\a < r.commits.length)/\0<=b/\b < r.commits.length:=ha;simp -implicitDefEqProofs [tU,nk,Con.fn,aB,ag,aN]
 try dsimp only
 simp -implicitDefEqProofs only [and_assoc,exists_eq_left,exists_and_left,RepoD.ex1,RepoD.eta];have hI:aF r=true:=by rw [b9]; exact h1
 have hl:=o7 hI (a:=a) (b:=b);have hmm:=sy (r:=r) (a:=a) (b:=b);have hb:dk r a b=match (eh r a b).getLast? with | none=>[] | some c=>aj r c:=rfl
 refine ⟨hI,h2,h3,h4,h5,fun _=>⟨fun h=>by rw [hb,h]; rfl,fun h=>?_⟩⟩
 rcases List.eq_nil_or_concat (eh r a b) with e | ⟨m,q,e⟩
 ·exact absurd e h
 ·rw [e] at hl hmm hb ⊢;have hq:=hmm q (by simp)
  have cg:=eU hq.1 hq.2;have hb:dk r a b=aj r q:=by rw [hb]; simp
  rw [hb];simp -implicitDefEqProofs [ap,D.asInt,cg,D.asRows];simp at hl;omega
def tV:Con:=.fn 70 (RepoD × Str × Str × Int) (fun a=>[aM a.1,.str a.2.1,.str a.2.2.1,.int .i64 a.2.2.2]) (fun a=>an a.1=true/\0<=atL a.1.heads a.2.1/\0<=a.2.2.2/\a.2.2.2 < a.1.commits.length) (fun a=>.tup [.agg [.sl false 3 (aD (dS a.1 a.2.1 a.2.2.1 a.2.2.2).1.commits),.sl false 2 (al (dS a.1 a.2.1 a.2.2.1 a.2.2.2).1.heads)],.int .i64 (dS a.1 a.2.1 a.2.2.1 a.2.2.2).2]) (fun _=>[])
theorem Kv:Has Tryz.prog 59 tV:=by
 refine ah mixed aL (HasL.cons jk (HasL.cons qP (HasL.cons A6 (HasL.cons wC (HasL.cons Ku (HasL.cons A0 (HasL.cons wB (HasL.cons jl HasL.nil)))))))) [0,1,2,3,4,8,9,10,11,12,13] ((fun a n (_:Nat)=>(fun _=>az) a n)) [] Tryz.func59 (by unfold Tryz.f59; rfl) (fun _=>⟨(),trivial⟩) ?_
 intro a ha;obtain ⟨r,n,w,b⟩:=a;obtain ⟨h1,h2,h3,h4⟩:an r=true/\0<=atL r.heads n/\0<=b/\b < r.commits.length:=ha;simp -implicitDefEqProofs [tV,gm,kE,pM,nj,tU,pK,ni,hD,Con.fn,aB,ag,aN]
 try dsimp only
 simp -implicitDefEqProofs only [and_assoc,exists_eq_left,exists_and_left,RepoD.ex1,RepoD.eta];have hI:aF r=true:=by rw [b9]; exact h1
 obtain ⟨k1,k2,k3⟩:=oC h1;have hat:=mS (n:=n) ((be r).1 h1).2.1;have ga:=eU (r:=r) (c:=atL r.heads n) h2 (by omega)
 have gb:=eU (r:=r) h3 h4;rw [ga,gb];simp -implicitDefEqProofs [D.asRows];have hlen:∀ c,(cq r n c).commits.length<=1073741824:=fun c=>by simp -implicitDefEqProofs [cq]; omega
 refine ⟨hI,h2,by omega,fun h=>?_,fun h=>⟨hI,h3,h4,fun h'=>⟨by omega,?_⟩,fun h'=>⟨h1,h2,by omega,h3,h4,h2,by omega,fun _ _=>⟨h3,h4,fun _ _=>⟨gO (Fp h1 _ _),gO (du h1 _),gO (du h1 _),fun _=>⟨fun hj=>?_,fun hj=>⟨⟨[atL r.heads n,b],w,(bZ (dk r (atL r.heads n) b) (aj r (atL r.heads n)) (aj r b)).1⟩,rfl,rfl,rfl,k1,k3,hlen _,fun hs=>?_,fun hs=>?_⟩⟩⟩⟩⟩⟩⟩
 ·unfold dS; rw [if_pos h]; exact ⟨rfl,rfl,rfl⟩
 ·unfold dS; rw [if_neg h,if_pos h']; exact ⟨rfl,rfl,rfl⟩
 ·unfold dS; rw [if_neg h,if_neg h',if_neg (by intro e; rw [e] at hj; simp at hj)]; exact ⟨rfl,rfl,rfl⟩
 ·unfold dS; rw [if_neg h,if_neg h',if_pos hj,if_neg (by simp -implicitDefEqProofs [hs])]; exact ⟨rfl,rfl,rfl⟩
 ·unfold dS; rw [if_neg h,if_neg h',if_pos hj,if_pos hs]; exact ⟨rfl,rfl,rfl⟩
def uT:Con:=.fn 42 (RepoD × Str × Str × Int) (fun a=>[aM a.1,.str a.2.1,.str a.2.2.1,.int .i64 a.2.2.2]) (fun a=>dI a.1) (fun a=>.tup [.agg [.sl false 3 (aD (cI a.1 a.2.1 a.2.2.1 a.2.2.2).1.commits),.sl false 2 (al (cI a.1 a.2.1 a.2.2.1 a.2.2.2).1.heads)],.int .i64 (cI a.1 a.2.1 a.2.2.1 a.2.2.2).2]) (fun _=>[])
theorem PU:Has Tryz.prog 127 uT:=by
 refine ah mixed aL (HasL.cons jl (HasL.cons jk (HasL.cons mf (HasL.cons jR (HasL.cons nQ (HasL.cons Kv HasL.nil)))))) [0,1,2,3,4,8,9] ((fun a n (_:Nat)=>(fun _=>az) a n)) [] Tryz.func127 (by unfold Tryz.f127; rfl) (fun _=>⟨(),trivial⟩) ?_
 intro a ha;obtain ⟨r,n,w,b⟩:=a;replace ha:dI r:=ha;simp -implicitDefEqProofs [uT,hD,gm,jI,iG,kD,tV,Con.fn,aB,ag,aN]
 try dsimp only
 simp -implicitDefEqProofs only [and_assoc,exists_eq_left,exists_and_left,RepoD.ex1,RepoD.eta];have e0:an r=false->cI r n w b=(noR,1):=fun h=>by unfold cI; rw [if_neg (by simp -implicitDefEqProofs [h])]
 have e1:an r=true->(atL r.heads n < 0 \/ aQ w=false \/ ¬ (0<=b/\b < r.commits.length))->cI r n w b=(r,1):=fun h h'=>by unfold cI; rw [if_pos h,if_pos h']
 have e2:an r=true -> ¬ (atL r.heads n < 0 \/ aQ w=false \/ ¬ (0<=b/\b < r.commits.length))->cI r n w b=dS r n w b:=fun h h'=>by unfold cI; rw [if_pos h,if_neg h']
 have hr1:r.commits.length<=1048576:=ha.1;refine ⟨by omega,fun h=>by rw [e0 h]; exact ⟨rfl,rfl,rfl⟩,fun h=>⟨fun hn=>⟨ha,by rw [e1 h (.inl hn)]; exact ⟨rfl,rfl,rfl⟩⟩,fun hn=>⟨fun hw=>⟨ha,by rw [e1 h (.inr (.inl hw))]; exact ⟨rfl,rfl,rfl⟩⟩,fun hw _=>⟨by omega,by omega,fun _ _=>⟨fun hb=>⟨ha,by rw [e1 h (.inr (.inr (by omega)))]; exact ⟨rfl,rfl,rfl⟩⟩,fun hb hb'=>⟨ha,h,hn,hb,by omega,?_⟩⟩⟩⟩⟩⟩
 rw [e2 h (by rintro (q | q | q); omega; rw [hw] at q; cases q; omega)]; exact ⟨rfl,rfl,rfl⟩
def px:Con:=.fn 26 (RepoD × Int) (fun a=>[aM a.1,.int .i64 a.2]) (fun a=>an a.1=true/\0<=a.2/\a.2 < a.1.commits.length) (fun a=>.sl true 2 (ac (er a.1 a.2))) (fun _=>[])
theorem AM:Has Tryz.prog 185 px:=by
 refine ah mixed aL HasL.nil [0,1,2,4] ((fun a n (_:Nat)=>(fun _=>az) a n)) [] Tryz.func185 (by unfold Tryz.f185; rfl) (fun _=>⟨(),trivial⟩) ?_
 intro a ha;obtain ⟨r,c⟩:=a;obtain ⟨h1,h2,h3⟩:an r=true/\0<=c/\c < r.commits.length:=ha;simp -implicitDefEqProofs [px,Con.fn,aB,ag,aN]
 try dsimp only
 simp -implicitDefEqProofs only [and_assoc,exists_eq_left,exists_and_left,RepoD.ex1,RepoD.eta];have cg:=eU (r:=r) h2 h3;have hp:er r c=match (r.commits.getD c.toNat default).parents with | []=>[] | p :: _=>aj r p:=rfl
 have hmem:∀ p ∈ (r.commits.getD c.toNat default).parents,0<=p/\p < r.commits.length:=fun p hp=>by
  have hc:c.toNat < r.commits.length:=by omega
  have:=(gI (r:=r) (by rw [b9]; exact h1) hc).2.1 p (by simpa [List.getD_eq_getElem?_getD,hc] using hp)
  omega
 have hl:(r.commits.getD c.toNat default).parents.length<=1000:=by
  have hc:c.toNat < r.commits.length:=by omega
  have:=(gI (r:=r) (by rw [b9]; exact h1) hc).1
  simpa [List.getD_eq_getElem?_getD,hc] using by omega
 rw [cg];generalize (r.commits.getD c.toNat default).parents=P at *;cases P with
 | nil=>simp -implicitDefEqProofs [D.asRows,hp]; omega
 | cons p P =>
  have hq:=hmem p (by simp)
  have cp:=eU hq.1 hq.2;have hp:er r c=aj r p:=hp;simp -implicitDefEqProofs [D.asRows,hp,ae,ap,D.asInt,cp];exact ⟨h2,h3,fun _ _ _=>⟨h2,h3,fun _ _=>hq⟩⟩
def pz:Con:=.fn 48 (RepoD × Str × Str × List FileD × List FileD) (fun a=>[aM a.1,.str a.2.1,.str a.2.2.1,.sl true 2 (ac a.2.2.2.1),.sl true 2 (ac a.2.2.2.2)]) (fun a=>an a.1=true/\0<=atL a.1.heads a.2.1/\aR a.2.2.2.1=true/\aR a.2.2.2.2=true) (fun a=>.tup [.agg [.sl false 3 (aD (dy a.1 a.2.1 a.2.2.1 a.2.2.2.1 a.2.2.2.2).1.commits),.sl false 2 (al (dy a.1 a.2.1 a.2.2.1 a.2.2.2.1 a.2.2.2.2).1.heads)],.int .i64 (dy a.1 a.2.1 a.2.2.1 a.2.2.2.1 a.2.2.2.2).2]) (fun _=>[])
theorem AN:Has Tryz.prog 184 pz:=by
 refine ah mixed aL (HasL.cons jk (HasL.cons A0 (HasL.cons wB (HasL.cons jl HasL.nil)))) [0,1,2,3,4,5,10,11,12,13,14,15] ((fun a n (_:Nat)=>(fun _=>az) a n)) [] Tryz.func184 (by unfold Tryz.f184; rfl) (fun _=>⟨(),trivial⟩) ?_
 intro a ha;obtain ⟨r,n,w,o,b⟩:=a;obtain ⟨h1,h2,h3,h4⟩:an r=true/\0<=atL r.heads n/\aR o=true/\aR b=true:=ha;simp -implicitDefEqProofs [pz,gm,pK,ni,hD,Con.fn,aB,ag,aN]
 try dsimp only
 simp -implicitDefEqProofs only [and_assoc,exists_eq_left,exists_and_left,RepoD.ex1,RepoD.eta];obtain ⟨k1,k2,k3⟩:=oC h1;have hat:=mS (n:=n) ((be r).1 h1).2.1;have ga:=eU (r:=r) (c:=atL r.heads n) h2 (by omega)
 rw [ga];simp -implicitDefEqProofs [D.asRows];have hlen:∀ c,(cq r n c).commits.length<=1073741824:=fun c=>by simp -implicitDefEqProofs [cq]; omega
 refine ⟨h2,by omega,fun _ _=>⟨gO h3,gO (du h1 _),gO h4,fun _=>⟨fun hj=>?_,fun hj=>⟨⟨[atL r.heads n],w,(bZ o (aj r (atL r.heads n)) b).1⟩,rfl,rfl,rfl,k1,k3,hlen _,fun hs=>?_,fun hs=>?_⟩⟩⟩⟩
 ·unfold dy; rw [if_neg (by intro e; rw [e] at hj; simp at hj)]; exact ⟨rfl,rfl,rfl⟩
 ·unfold dy; rw [if_pos hj,if_neg (by simp -implicitDefEqProofs [hs])]; exact ⟨rfl,rfl,rfl⟩
 ·unfold dy; rw [if_pos hj,if_pos hs]; exact ⟨rfl,rfl,rfl⟩
def ut:Con:=.fn 52 (RepoD × Str × Str × Int) (fun a=>[aM a.1,.str a.2.1,.str a.2.2.1,.int .i64 a.2.2.2]) (fun a=>dI a.1) (fun a=>.tup [.agg [.sl false 3 (aD (ck false a.1 a.2.1 a.2.2.1 a.2.2.2).1.commits),.sl false 2 (al (ck false a.1 a.2.1 a.2.2.1 a.2.2.2).1.heads)],.int .i64 (ck false a.1 a.2.1 a.2.2.1 a.2.2.2).2]) (fun _=>[])
theorem MM:Has Tryz.prog 128 ut:=by
 refine ah mixed aL (HasL.cons jl (HasL.cons jk (HasL.cons mf (HasL.cons jR (HasL.cons nQ (HasL.cons AM (HasL.cons AN HasL.nil))))))) [0,1,2,3,4,8,9,10] ((fun a n (_:Nat)=>(fun _=>az) a n)) [] Tryz.func128 (by unfold Tryz.f128; rfl) (fun _=>⟨(),trivial⟩) ?_
 intro a ha;obtain ⟨r,n,w,b⟩:=a;replace ha:dI r:=ha;simp -implicitDefEqProofs [ut,hD,gm,jI,iG,kD,px,pz,Con.fn,aB,ag,aN]
 try dsimp only
 simp -implicitDefEqProofs only [and_assoc,exists_eq_left,exists_and_left,RepoD.ex1,RepoD.eta];have e0:an r=false->ck false r n w b=(noR,1):=fun h=>by unfold ck; rw [if_neg (by simp -implicitDefEqProofs [h])]
 have e1:an r=true->(atL r.heads n < 0 \/ aQ w=false \/ ¬ (0<=b/\b < r.commits.length))->ck false r n w b=(r,1):=fun h h'=>by unfold ck; rw [if_pos h,if_pos h']
 have e2:an r=true -> ¬ (atL r.heads n < 0 \/ aQ w=false \/ ¬ (0<=b/\b < r.commits.length))->ck false r n w b=dy r n w (er r b) (aj r b):=fun h h'=>by unfold ck; rw [if_pos h,if_neg h']; rfl
 have hr1:r.commits.length<=1048576:=ha.1;refine ⟨by omega,fun h=>by rw [e0 h]; exact ⟨rfl,rfl,rfl⟩,fun h=>⟨fun hn=>⟨ha,by rw [e1 h (.inl hn)]; exact ⟨rfl,rfl,rfl⟩⟩,fun hn=>⟨fun hw=>⟨ha,by rw [e1 h (.inr (.inl hw))]; exact ⟨rfl,rfl,rfl⟩⟩,fun hw _=>⟨by omega,by omega,fun _ _=>⟨fun hb=>⟨ha,by rw [e1 h (.inr (.inr (by omega)))]; exact ⟨rfl,rfl,rfl⟩⟩,fun hb hb'=>?_⟩⟩⟩⟩⟩
 rw [e2 h (by rintro (q | q | q); omega; rw [hw] at q; cases q; omega)]
 have cb:=eU hb (show b < r.commits.length by omega)
 have s1:=du h b;have s2:=yc h b;rw [cb];simp -implicitDefEqProofs [D.asRows,h,hn,hb,s1,s2,show b < r.commits.length by omega,show dI r from ha]
def ur:Con:=.fn 52 (RepoD × Str × Str × Int) (fun a=>[aM a.1,.str a.2.1,.str a.2.2.1,.int .i64 a.2.2.2]) (fun a=>dI a.1) (fun a=>.tup [.agg [.sl false 3 (aD (ck true a.1 a.2.1 a.2.2.1 a.2.2.2).1.commits),.sl false 2 (al (ck true a.1 a.2.1 a.2.2.1 a.2.2.2).1.heads)],.int .i64 (ck true a.1 a.2.1 a.2.2.1 a.2.2.2).2]) (fun _=>[])
theorem MK:Has Tryz.prog 129 ur:=by
 refine ah mixed aL (HasL.cons jl (HasL.cons jk (HasL.cons mf (HasL.cons jR (HasL.cons nQ (HasL.cons AM (HasL.cons AN HasL.nil))))))) [0,1,2,3,4,8,9,10] ((fun a n (_:Nat)=>(fun _=>az) a n)) [] Tryz.func129 (by unfold Tryz.f129; rfl) (fun _=>⟨(),trivial⟩) ?_
 intro a ha;obtain ⟨r,n,w,b⟩:=a;replace ha:dI r:=ha;simp -implicitDefEqProofs [ur,hD,gm,jI,iG,kD,px,pz,Con.fn,aB,ag,aN]
 try dsimp only
 simp -implicitDefEqProofs only [and_assoc,exists_eq_left,exists_and_left,RepoD.ex1,RepoD.eta];have e0:an r=false->ck true r n w b=(noR,1):=fun h=>by unfold ck; rw [if_neg (by simp -implicitDefEqProofs [h])]
 have e1:an r=true->(atL r.heads n < 0 \/ aQ w=false \/ ¬ (0<=b/\b < r.commits.length))->ck true r n w b=(r,1):=fun h h'=>by unfold ck; rw [if_pos h,if_pos h']
 have e2:an r=true -> ¬ (atL r.heads n < 0 \/ aQ w=false \/ ¬ (0<=b/\b < r.commits.length))->ck true r n w b=dy r n w (aj r b) (er r b):=fun h h'=>by unfold ck; rw [if_pos h,if_neg h']; rfl
 have hr1:r.commits.length<=1048576:=ha.1;refine ⟨by omega,fun h=>by rw [e0 h]; exact ⟨rfl,rfl,rfl⟩,fun h=>⟨fun hn=>⟨ha,by rw [e1 h (.inl hn)]; exact ⟨rfl,rfl,rfl⟩⟩,fun hn=>⟨fun hw=>⟨ha,by rw [e1 h (.inr (.inl hw))]; exact ⟨rfl,rfl,rfl⟩⟩,fun hw _=>⟨by omega,by omega,fun _ _=>⟨fun hb=>⟨ha,by rw [e1 h (.inr (.inr (by omega)))]; exact ⟨rfl,rfl,rfl⟩⟩,fun hb hb'=>?_⟩⟩⟩⟩⟩
 rw [e2 h (by rintro (q | q | q); omega; rw [hw] at q; cases q; omega)]
 have cb:=eU hb (show b < r.commits.length by omega)
 have s1:=du h b;have s2:=yc h b;rw [cb];simp -implicitDefEqProofs [D.asRows,h,hn,hb,s1,s2,show b < r.commits.length by omega,show dI r from ha]
--TAB aB
def jW (m by_:List Int) (o:List Int) (i:Nat):List Int:=if 0<=m.getD i 0 then o.set (m.getD i 0).toNat (by_.getD i 0) else o
def kW (m by_ o:List Int) (k:Nat):List Int:=(List.range k).foldl (jW m by_) o
theorem rh (m b o:List Int) (k:Nat):kW m b o (k+1)=jW m b (kW m b o k) k:=by simp -implicitDefEqProofs [kW,List.range_succ]
theorem rg (m b o:List Int):∀ k,(kW m b o k).length=o.length
 | 0=>rfl
 | k+1=>by rw [rh]; unfold jW; split <;> simp -implicitDefEqProofs [rg m b o k]
theorem BU {m b o:List Int} {q:Int->Prop} (h0:q 0) (h1:∀ x ∈ b,q x) (h2:∀ x ∈ o,q x):∀ k,∀ x ∈ kW m b o k,q x
 | 0=>h2
 | k+1=>by
  rw [rh]; unfold jW
  have ih:=BU (m:=m) h0 h1 h2 k;split
  ·intro x hx;rcases List.mem_or_eq_of_mem_set hx with hx | rfl
   ·exact ih x hx
   ·rw [List.getD_eq_getElem?_getD];by_cases hk:k < b.length
    ·rw [List.getElem?_eq_getElem hk]; exact h1 _ (List.getElem_mem hk)
    ·rw [List.getElem?_eq_none (by omega)]; exact h0
  ·exact ih
theorem oZ:∀ {l:List Int} {k n:Int},asc k n l -> ∀ y ∈ l,y < 0 \/ y < n
 | [],_,_,_,y,h=>by cases h
 | x :: l,k,n,h,y,hy=>by
  rcases h with ⟨h1,h2⟩ | ⟨h1,h2,h3⟩ <;> rcases List.mem_cons.1 hy with rfl | hy
  ·exact .inl h1
  ·exact oZ h2 y hy
  ·exact .inr h2
  ·exact oZ h3 y hy
def aU (r:RepoD) (a:Int):List Int:=(r.commits.getD a.toNat default).parents
def blm (r:RepoD) (p:Str):Nat->Int->List Int
 | 0,_=>[]
 | k+1,a =>
  if (au (aj r a) p).2=false then [] else
  if aU r a=[] then List.replicate (au (aj r a) p).1.length a else
  if (au (aj r ((aU r a).headD 0)) p).2=false then List.replicate (au (aj r a) p).1.length a else
  kW (mt (au (aj r ((aU r a).headD 0)) p).1 (au (aj r a) p).1 0) (blm r p k ((aU r a).headD 0)) (List.replicate (au (aj r a) p).1.length a) (au (aj r ((aU r a).headD 0)) p).1.length
theorem HD {t:List FileD} {p:Str} (h:(au t p).2=false):(au t p).1=[]:=by
 induction t with
 | nil=>rfl
 | cons f t ih =>
  unfold au at h ⊢;split at h
  ·cases h
  ·rename_i q; rw [if_neg q]; exact ih h
theorem sF (r:RepoD) (p:Str) (k:Nat) (a:Int):(blm r p (k+1) a).length=(au (aj r a) p).1.length:=by
 unfold blm;split
 ·rename_i h; rw [HD h]; rfl
 ·split
  ·simp
  ·split
   ·simp
   ·rw [rg]; simp
theorem xc {r:RepoD} (h:an r=true) {a:Int} (ha:0<=a/\a < r.commits.length) (hp:aU r a ≠ []):0<=(aU r a).headD 0/\(aU r a).headD 0 < a:=by
 have:=j9 h a.toNat (by omega) ((aU r a).headD 0) (by
  unfold aU at hp ⊢;cases hq:(r.commits.getD a.toNat default).parents with
  | nil=>exact absurd hq hp
  | cons x l=>simp)
 omega
theorem sG {r:RepoD} (h:an r=true) (p:Str):∀ (k:Nat) (a:Int),0<=a/\a < r.commits.length -> ∀ x ∈ blm r p k a,0<=x/\x < r.commits.length
 | 0,_,_=>by simp -implicitDefEqProofs [blm]
 | k+1,a,ha=>by
  unfold blm;split
  ·simp
  ·split
   ·intro x hx; rw [List.mem_replicate] at hx; rw [hx.2]; exact ha
   ·rename_i hp;have hh:=xc h ha hp;split
    ·intro x hx; rw [List.mem_replicate] at hx; rw [hx.2]; exact ha
    ·exact BU (q:=fun x=>0<=x/\x < r.commits.length) (by omega) (sG h p k _ (by omega)) (fun x hx=>by rw [List.mem_replicate] at hx; rw [hx.2]; exact ha) _
def blX (r:RepoD) (a:Int) (p:Str):List Str:=(au (aj r a) p).1
def blF (r:RepoD) (a:Int):Int:=(aU r a).headD 0
def blM (r:RepoD) (a:Int) (p:Str):List Int:=mt (blX r (blF r a) p) (blX r a p) 0
def blA (r:RepoD) (a:Int) (p:Str):Inv:=⟨Nat,fun i=>⟨[(1,true,.int .i64 a),(2,true,.str p),(3,true,.ptr 10 0),(6,true,.nil),(7,true,.sl true 1 (aa (blX r a p))),(9,true,.own 9 1 (ae (List.replicate i a))),(10,true,.int .i64 i)],[(10,bG r),(9,.own 3 1 true (ae (List.replicate i a)))]⟩,fun i=>i<=(blX r a p).length,fun i=>(blX r a p).length - i⟩
def blO (r:RepoD) (a:Int) (p:Str) (k i:Nat):List Int:=kW (blM r a p) (blm r p k (blF r a)) (List.replicate (blX r a p).length a) i
def blB (r:RepoD) (a:Int) (p:Str) (k:Nat):Inv:=⟨Nat,fun i=>⟨[(6,true,.nil),(9,true,.own 9 1 (ae (blO r a p k i))),(14,true,.own 11 1 (ae (blm r p k (blF r a)))),(15,true,.own 12 1 (ae (blM r a p))),(16,true,.int .i64 i)],[(9,.own 3 1 true (ae (blO r a p k i))),(11,.own 3 1 true (ae (blm r p k (blF r a)))),(12,.own 3 1 true (ae (blM r a p)))]⟩,fun i=>i<=(blM r a p).length,fun i=>(blM r a p).length - i⟩
def sD (r:RepoD) (a:Int) (p:Str) (k n:Nat):Inv:=if n=6 then blA r a p else blB r a p k
theorem FB (r a p k):sD r a p k 6=blA r a p:=rfl
theorem FA (r a p k):sD r a p k 18=blB r a p k:=rfl
def m7 (k:Nat):Con:=.fn 102 (RepoD × Int × Str) (fun a=>[aM a.1,.int .i64 a.2.1,.str a.2.2]) (fun a=>an a.1=true/\(0<=a.2.1/\a.2.1 < a.1.commits.length)/\a.2.1 < k) (fun a=>.own 8 1 (ae (blm a.1 a.2.2 k a.2.1))) (fun a=>dY 8 (blm a.1 a.2.2 k a.2.1))
theorem JF:Has Tryz.prog 135 (m7 0) :=
 vP Tryz.func135 (by kernel_rfl) (code:=_) (by unfold Tryz.f135; rfl) (fun _=>⟨(),trivial⟩) (by intro _ _; rfl) (fun _ h=>absurd h.2.2 (by have:=h.2.1.1; omega))
theorem JH (k:Nat) (l11K_has:Has Tryz.prog 135 (m7 k)):Has Tryz.prog 135 (m7 (k+1)):=by
 refine ah mixed aL (HasL.cons wt (HasL.cons l11K_has (HasL.cons AW HasL.nil))) [0,1,2,3,6,7,8,9,10,11,12,13,14,15,16] (fun a n _=>sD a.1 a.2.1 a.2.2 k n) [] Tryz.func135 (by unfold Tryz.f135; rfl) (fun _=>⟨(),trivial⟩) ?_ (hpos:=Nat.succ_pos _)
 intro a ha;obtain ⟨r,c,p⟩:=a;obtain ⟨h1,⟨h2,h3⟩,h4⟩:an r=true/\(0<=c/\c < r.commits.length)/\c < ((k+1:Nat):Int):=ha;simp (maxSteps:=8000000) -implicitDefEqProofs [-kStep_move,-Bool.exists_bool,m7,lN,pD,Con.fn,aB,ag,aN,FB,FA,blA,blB]
 try dsimp only
 have gc:=eU (r:=r) h2 h3;have hP:(r.commits.getD c.toNat default).parents=aU r c:=rfl;rw [gc,hP];have hf:=fun q=>xc h1 ⟨h2,h3⟩ q;have hx:(au (aj r c) p).1=blX r c p:=rfl;have hb0:(au (aj r c) p).2=false->blm r p (k+1) c=[]:=fun h=>by unfold blm; rw [if_pos h]
 have hb1:(au (aj r c) p).2=true->aU r c=[]->blm r p (k+1) c=List.replicate (blX r c p).length c:=fun h q=>by unfold blm; rw [if_neg (by rw [h]; simp),if_pos q]; rfl
 have hb2:(au (aj r c) p).2=true->aU r c ≠ []->(au (aj r (blF r c)) p).2=false->blm r p (k+1) c=List.replicate (blX r c p).length c:=fun h q q2=>by unfold blm; rw [if_neg (by rw [h]; simp),if_neg q]; exact if_pos q2
 have hb3:(au (aj r c) p).2=true->aU r c ≠ []->(au (aj r (blF r c)) p).2=true->blm r p (k+1) c=blO r c p k (blX r (blF r c) p).length:=fun h q q2=>by unfold blm; rw [if_neg (by rw [h]; simp),if_neg q]; exact if_neg (by show ¬ (au (aj r (blF r c)) p).2=false; rw [q2]; simp)
 generalize blm r p (k+1) c=R at *;have eS:∀ t:Nat,ae (List.replicate t c)++[[D.int .i64 c]]=ae (List.replicate (t+1) c):=fun t=>by rw [List.replicate_succ']; simp -implicitDefEqProofs [ae,ap]
 have hxl:(blX r c p).length<=1048576:=by have:=ii (n:=64) (iA _ (du h1 c)).2 p; show (au (aj r c) p).1.length<=_; omega
 rcases hq:aU r c with _ | ⟨f,l⟩
 ·rw [hq] at hf hb1 hb2 hb3;simp -implicitDefEqProofs [D.asRows,D.asStr,D.asInt];refine ⟨⟨h2,h3⟩,fun _ _=>⟨_,_,⟨rfl,rfl⟩,hb0,fun ht=>⟨⟨0,⟨hx.symm,rfl⟩,Nat.zero_le _⟩,fun t htl _=>⟨fun hlt=>⟨⟨by omega,by omega⟩,⟨by omega,by omega⟩,fun _ _=>⟨t+1,⟨⟨(eS t).symm,by omega⟩,eS t⟩,by omega,by omega⟩⟩,fun hge=>⟨⟨h2,h3⟩,fun _ _=>?_⟩⟩⟩⟩⟩
  obtain rfl:t=(blX r c p).length:=by omega
  exact ⟨hb1 ht rfl,(hb1 ht rfl).symm⟩
 ·have hF:blF r c=f:=by unfold blF; rw [hq]; rfl
  rw [hq] at hf hb1 hb2 hb3;rw [hF] at hb2 hb3;obtain ⟨f1,f2⟩:=hf (by simp)
  simp only [List.headD_cons] at f1 f2;have gf:=eU (r:=r) (c:=f) f1 (by omega)
  simp -implicitDefEqProofs [D.asRows,D.asStr,D.asInt,ap,gf];refine ⟨⟨h2,h3⟩,fun _ _=>⟨_,_,⟨rfl,rfl⟩,hb0,fun ht=>⟨⟨0,⟨hx.symm,rfl⟩,Nat.zero_le _⟩,fun t htl _=>⟨fun hlt=>⟨⟨by omega,by omega⟩,⟨by omega,by omega⟩,fun _ _=>⟨t+1,⟨⟨(eS t).symm,by omega⟩,eS t⟩,by omega,by omega⟩⟩,fun hge=>⟨⟨h2,h3⟩,fun _ _ _=>⟨⟨h2,h3⟩,fun _ _=>⟨⟨f1,by omega⟩,fun _ _=>⟨_,_,⟨rfl,rfl⟩,fun hn=>?_,fun hy=>⟨r,f,p,⟨⟨rfl,rfl⟩,rfl,rfl⟩,⟨h1,⟨f1,by omega⟩,by omega⟩,blX r f p,blX r c p,⟨rfl,rfl⟩,⟨?_,hxl⟩,?_,fun t2 ht2=>?_⟩⟩⟩⟩⟩⟩⟩⟩⟩
  ·obtain rfl:t=(blX r c p).length:=by omega
   exact ⟨hb2 ht (by simp) hn,(hb2 ht (by simp) hn).symm⟩
  ·have:=ii (n:=64) (iA _ (du h1 f)).2 p; show (au (aj r f) p).1.length<=_; omega
  ·obtain rfl:t=(blX r c p).length:=by omega
   have e1:blM r c p=mt (blX r f p) (blX r c p) 0:=by unfold blM; rw [hF]
   exact ⟨0,⟨⟨rfl,by rw [hF],e1,rfl⟩,rfl,by rw [hF],e1.symm⟩,Nat.zero_le _⟩
  ·obtain rfl:t=(blX r c p).length:=by omega
   obtain ⟨k,rfl⟩:∃ k',k=k'+1:=⟨k - 1,by omega⟩
   have hbl:(blm r p (k+1) (blF r c)).length=(blX r f p).length:=by rw [sF,hF]; rfl
   have hml:(blM r c p).length=(blX r f p).length:=by unfold blM; rw [jm,hF]
   have hol:(blO r c p (k+1) t2).length=(blX r c p).length:=by unfold blO; rw [rg]; simp
   intro _;refine ⟨fun hlt=>?_,fun hge=>?_⟩
   ·have hlt2:t2 < (blm r p (k+1) (blF r c)).length:=by omega
    have qm:Option.map ap (blM r c p)[t2]? = some [D.int .i64 (blM r c p)[t2]]:=by simp -implicitDefEqProofs [hlt,ap]
    have qb:Option.map ap (blm r p (k+1) (blF r c))[t2]? = some [D.int .i64 (blm r p (k+1) (blF r c))[t2]]:=by simp -implicitDefEqProofs [hlt2,ap]
    have st:blO r c p (k+1) (t2+1)=jW (blM r c p) (blm r p (k+1) (blF r c)) (blO r c p (k+1) t2) t2:=rh _ _ _ _;have hm:=oZ (wV (blX r (blF r c) p) (blX r c p) 0) (blM r c p)[t2] (List.getElem_mem hlt);have g1:(blM r c p).getD t2 0=(blM r c p)[t2]:=by simp -implicitDefEqProofs [List.getD_eq_getElem?_getD,hlt]
    have g2:(blm r p (k+1) (blF r c)).getD t2 0=(blm r p (k+1) (blF r c))[t2]:=by simp -implicitDefEqProofs [List.getD_eq_getElem?_getD,hlt2]
    unfold jW at st;rw [g1,g2] at st;rw [qm,qb];generalize (blM r c p)[t2]=m at *;generalize (blm r p (k+1) (blF r c))[t2]=b at *;simp -implicitDefEqProofs;have hm2:0<=m->m.toNat < (blO r c p (k+1) t2).length:=fun h=>by omega
    have eset:(ae (blO r c p (k+1) t2)).set m.toNat [D.int .i64 b]=ae ((blO r c p (k+1) t2).set m.toNat b):=by rw [kM]
    rw [eset];refine ⟨hlt,fun _=>⟨fun h0=>⟨hlt,fun _=>⟨hlt2,fun _=>⟨⟨h0,by have:=hm2 h0; omega⟩,fun _ _=>⟨hm2 h0,⟨by omega,by omega⟩,fun _ _=>⟨t2+1,⟨⟨?_,by omega⟩,?_⟩,by omega,by omega⟩⟩⟩⟩⟩,fun h0=>⟨⟨by omega,by omega⟩,fun _ _=>⟨t2+1,⟨⟨?_,by omega⟩,?_⟩,by omega,by omega⟩⟩⟩⟩
    ·rw [st,if_pos h0]
    ·rw [st,if_pos h0]
    ·rw [st,if_neg (by omega)]
    ·rw [st,if_neg (by omega)]
   ·have:t2=(blX r f p).length:=by omega
    have e:=hb3 ht (by simp) hy
    rw [this];exact ⟨e,e.symm⟩
def tq:Con:=.fn 102 (RepoD × Int × Str) (fun a=>[aM a.1,.int .i64 a.2.1,.str a.2.2]) (fun a=>an a.1=true/\(0<=a.2.1/\a.2.1 < a.1.commits.length)/\a.2.1 < 16) (fun a=>.own 8 1 (ae (blm a.1 a.2.2 16 a.2.1))) (fun a=>dY 8 (blm a.1 a.2.2 16 a.2.1))
theorem AO:∀ k,Has Tryz.prog 135 (m7 k)
 | 0=>JF
 | k+1=>JH k (AO k)
theorem JG:Has Tryz.prog 135 tq:=AO 16
--TAB aB
def DP (r:RepoD) (a:Int):Str:=(r.commits.getD a.toNat default).who
theorem ns {r:RepoD} {c:Int} (h0:0<=c) (h1:c < r.commits.length):Option.map bI r.commits[c.toNat]? = some [D.sl 3 1 (ae (aU r c)),D.str (DP r c),D.sl 119 2 (ac (aj r c))]:=eU h0 h1
def bM (r:RepoD) (p:Str) (c:Int):List FileD:=aE (d7 p) (aj r c)
def dB (r:RepoD) (p:Str) (a:Int):Bool:=if aU r a=[] then decide (bM r p a ≠ []) else (aU r a).all fun q=>decide (¬ bM r p q=bM r p a)
theorem oI {t:List FileD} (h:aR t=true):t.length<=8:=(iA t h).1
def tu:Con:=.fn 47 (RepoD × Int × Str) (fun a=>[aM a.1,.int .i64 a.2.1,.str a.2.2]) (fun a=>an a.1=true/\0<=a.2.1/\a.2.1 < a.1.commits.length) (fun a=>.bool (dB a.1 a.2.2 a.2.1)) (fun _=>[])
theorem JJ:Has Tryz.prog 187 tu:=by
 refine ah mixed aL (HasL.cons JK (HasL.cons JI HasL.nil)) [0,1,2,3,6,7,8,9] ((fun a n (_:Nat)=>(fun a _=>⟨Nat,fun i=>⟨[(2,true,.str a.2.2),(3,true,.ptr 10 0),(6,true,.bool false),(7,true,.ptr 11 0),(8,true,.sl false 2 (ac (bM a.1 a.2.2 a.2.1))),(9,true,.int .i64 i)],[(10,bG a.1),(11,.box 94 [.sl true 1 (ae (aU a.1 a.2.1)),.str (DP a.1 a.2.1),.sl true 2 (ac (aj a.1 a.2.1))])]⟩,fun i=>i<=(aU a.1 a.2.1).length /\ ∀ q ∈ (aU a.1 a.2.1).take i,¬ bM a.1 a.2.2 q=bM a.1 a.2.2 a.2.1,fun i=>(aU a.1 a.2.1).length - i⟩) a n)) [] Tryz.func187 (by unfold Tryz.f187; rfl) (fun _=>⟨(),trivial⟩) ?_
 intro a ha;obtain ⟨r,c,p⟩:=a;obtain ⟨h1,h2,h3⟩:an r=true/\0<=c/\c < r.commits.length:=ha;simp (maxSteps:=8000000) [tu,tv,tr,Con.fn,aB,ag,aN]
 try dsimp only
 rw [ns h2 h3];have tl:∀ a,(aj r a).length<=8:=fun a=>oI (du h1 a);have hul:(bM r p c).length<=8:=Nat.le_trans (List.length_filter_le _ _) (tl c);have hpar:=j9 h1 c.toNat (by omega)
 have hP:(r.commits.getD c.toNat default).parents=aU r c:=rfl;rw [hP] at hpar;have hU:aE (d7 p) (aj r c)=bM r p c:=rfl;have t0:aU r c=[]->dB r p c=decide (0 < (bM r p c).length):=fun h=>by unfold dB; rw [if_pos h]; exact decide_eq_decide.2 List.length_pos_iff.symm
 have t1:∀ q ∈ aU r c,bM r p q=bM r p c->dB r p c=false:=fun q hq e=>by unfold dB; rw [if_neg (List.ne_nil_of_mem hq),List.all_eq_false]; exact ⟨q,hq,by simp -implicitDefEqProofs [e]⟩
 have t2:¬ aU r c=[]->(∀ q ∈ aU r c,¬ bM r p q=bM r p c)->dB r p c=true:=fun h e=>by unfold dB; rw [if_neg h,List.all_eq_true]; intro q hq; simp -implicitDefEqProofs [e q hq]
 have hpl:=(gI (by rw [b9]; exact h1) (i:=c.toNat) (by omega)).1
 have hpl2:(aU r c).length<=2:=by unfold aU; rw [List.getD_eq_getElem?_getD,List.getElem?_eq_getElem (by omega),Option.getD_some]; exact hpl
 generalize aU r c=P at *;simp -implicitDefEqProofs [D.asRows,D.asStr,D.asInt];refine ⟨⟨h2,h3⟩,fun _ _=>⟨aj r c,p,⟨rfl,rfl⟩,by have:=tl c; omega,fun _=>⟨fun h _=>by rw [hU]; exact t0 h,fun h=>⟨⟨0,⟨rfl,rfl⟩,Nat.zero_le _,by simp⟩,fun t ht hq _=>⟨fun hlt=>⟨hlt,fun _=>?_⟩,fun hge=>?_⟩⟩⟩⟩⟩
 ·have hm:=hpar _ (List.getElem_mem hlt);have q1:Option.map ap P[t]? = some [D.int .i64 P[t]]:=by simp -implicitDefEqProofs [hlt,ap]
  have u1:=t1 _ (List.getElem_mem hlt);have u2:¬ bM r p P[t]=bM r p c -> ∀ q ∈ P.take (t+1),¬ bM r p q=bM r p c:=fun h=>xH (q:=fun q=>¬ bM r p q=bM r p c) hlt hq h;have gq:=ns (r:=r) (c:=P[t]) hm.1 (by omega)
  have hU2:aE (d7 p) (aj r P[t])=bM r p P[t]:=rfl;rw [q1];generalize P[t]=y at *;simp -implicitDefEqProofs [D.asRows,D.asStr,D.asInt,gq];exact ⟨⟨hm.1,by omega⟩,fun _ _=>⟨aj r y,p,⟨rfl,rfl⟩,by have:=tl y; omega,bM r p y,bM r p c,⟨rfl,rfl⟩,u1,fun h=>⟨⟨by omega,by omega⟩,fun _ _=>⟨t+1,by omega,⟨by omega,u2 h⟩,by omega⟩⟩⟩⟩
 ·rw [List.take_of_length_le hge] at hq;exact t2 h hq
def e9 (r:RepoD) (a:Int) (p:Str) (k:Nat):List Int:=(((ak (anc r a)).drop k).reverse).filter (dB r p)
def fa (r:RepoD) (a:Int) (p:Str):List Int:=e9 r a p 0
theorem Bp (r a p):e9 r a p (ak (anc r a)).length=[]:=by simp -implicitDefEqProofs [e9]
theorem Bq (r a p k):(e9 r a p k).length<=(ak (anc r a)).length:=by
 unfold e9;refine Nat.le_trans (List.length_filter_le _ _) ?_;simp
theorem KW {r a p} {k:Nat} (h:k < (ak (anc r a)).length) (h2:dB r p (ak (anc r a))[k]=true):e9 r a p k=e9 r a p (k+1)++[(ak (anc r a))[k]]:=by unfold e9; rw [List.drop_eq_getElem_cons h,List.reverse_cons,List.filter_append]; simp -implicitDefEqProofs [h2]
theorem KX {r a p} {k:Nat} (h:k < (ak (anc r a)).length) (h2:dB r p (ak (anc r a))[k]=false):e9 r a p k=e9 r a p (k+1):=by unfold e9; rw [List.drop_eq_getElem_cons h,List.reverse_cons,List.filter_append]; simp -implicitDefEqProofs [h2]
def pP:Con:=.fn 48 (RepoD × Int × Str) (fun a=>[aM a.1,.int .i64 a.2.1,.str a.2.2]) (fun a=>an a.1=true/\0<=a.2.1/\a.2.1 < a.1.commits.length) (fun a=>.own 8 1 (ae (fa a.1 a.2.1 a.2.2))) (fun a=>dY 8 (fa a.1 a.2.1 a.2.2))
theorem KZ:Has Tryz.prog 136 pP:=by
 refine ah mixed aL (HasL.cons jl (HasL.cons jR (HasL.cons qP (HasL.cons JJ HasL.nil)))) [0,1,2,3,6,7,8,9] ((fun a n (_:Nat)=>(fun a _=>⟨Nat,fun k=>⟨[(2,true,.str a.2.2),(3,true,.ptr 10 0),(6,true,.nil),(7,true,.own 9 1 (ae (e9 a.1 a.2.1 a.2.2 k))),(8,true,.own 11 1 (ae (ak (anc a.1 a.2.1)))),(9,true,.int .i64 ((k:Int) - 1))],[(10,bG a.1),(9,.own 3 1 true (ae (e9 a.1 a.2.1 a.2.2 k))),(11,.own 3 1 true (ae (ak (anc a.1 a.2.1))))]⟩,fun k=>k<=(ak (anc a.1 a.2.1)).length,fun k=>k⟩) a n)) [] Tryz.func136 (by unfold Tryz.f136; rfl) (fun _=>⟨(),trivial⟩) ?_
 intro a ha;obtain ⟨r,c,p⟩:=a;obtain ⟨h1,h2,h3⟩:an r=true/\0<=c/\c < r.commits.length:=ha;have hn:=((be r).1 h1).2.2;simp (maxSteps:=8000000) -implicitDefEqProofs [-kStep_move,-Bool.exists_bool,pP,hD,iG,kE,tu,Con.fn,aB,ag,aN]
 try dsimp only
 have hRI:aF r=true:=by rw [b9]; exact h1
 have hL:(ak (anc r c)).length<=16:=by have:=ik (anc r c) (anc r c).length; rw [ci] at this; unfold ak; rw [ci]; omega
 refine ⟨by omega,fun _=>⟨fun _=>⟨h1,by omega,by omega⟩,fun _=>⟨c,0,_,⟨rfl,rfl,rfl⟩,?_,fun _ _ _=>⟨r,c,⟨⟨rfl,rfl⟩,rfl⟩,⟨hRI,h2,h3⟩,fun _=>⟨⟨by omega,by omega⟩,fun _ _=>⟨⟨_,⟨⟨Bp r c p,rfl,rfl⟩,Bp r c p,rfl⟩,Nat.le_refl _⟩,fun t ht=>⟨fun h1t=>⟨⟨h1t,by omega⟩,fun _ _=>?_⟩,fun h0t=>?_⟩⟩⟩⟩⟩⟩⟩
 ·rintro (h | h | h)
  ·rw [h1] at h; cases h
  ·omega
  ·omega
 ·obtain ⟨t,rfl⟩:∃ t',t=t'+1:=⟨t - 1,by omega⟩
  simp only [Nat.add_sub_cancel];have hlt:t < (ak (anc r c)).length:=by omega
  obtain ⟨m,hm,_,hm3⟩:=listT_mem.1 (List.getElem_mem hlt);rw [ci] at hm;have q1:Option.map ap (ak (anc r c))[t]? = some [D.int .i64 (ak (anc r c))[t]]:=by simp -implicitDefEqProofs [hlt,ap]
  have e1:=KW (r:=r) (a:=c) (p:=p) hlt;have e2:=KX (r:=r) (a:=c) (p:=p) hlt;have hl:=Bq r c p (t+1);rw [q1];generalize (ak (anc r c))[t]=y at *;simp -implicitDefEqProofs [D.asInt];refine ⟨r,y,p,⟨⟨rfl,rfl⟩,rfl,rfl⟩,⟨h1,by omega,by omega⟩,fun h=>⟨⟨by omega,hlt⟩,fun _ _=>⟨⟨by omega,by omega⟩,⟨by omega,by omega⟩,fun _ _=>⟨t,⟨⟨?_,rfl⟩,?_⟩,by omega,by omega⟩⟩⟩,fun h=>⟨⟨by omega,by omega⟩,fun _ _=>⟨t,⟨⟨e2 h,rfl⟩,(e2 h).symm⟩,by omega,by omega⟩⟩⟩
  ·rw [e1 h,kN]
  ·rw [e1 h,kN]
 ·have:t=0:=by omega
  subst this;exact ⟨rfl,rfl⟩
def bD (L:List Int) (n:Int):Int:=if n ∈ L then (L.idxOf n:Int) else -1
def cY (r:RepoD) (k:Nat):List Bool:=(r.heads.take k).foldl (fun l h=>cO l (ak (anc r h.at_))) (List.replicate r.commits.length false)
def da (r:RepoD):List Bool:=cY r r.heads.length
def am (r:RepoD):List Int:=ak (da r)
def jj (r:RepoD) (L:List Int) (i:Int):CommitD:=⟨(r.commits.getD i.toNat default).parents.map (bD L),(r.commits.getD i.toNat default).who,(r.commits.getD i.toNat default).tree⟩
def fE (L:List Int) (h:HeadD):HeadD:=⟨h.name,bD L h.at_⟩
def keepR (r:RepoD):RepoD:=⟨(am r).map (jj r (am r)),r.heads.map (fE (am r))⟩
def wb (r:RepoD):RepoD:=if an r then keepR r else noR
theorem qZ (r:RepoD):cY r 0=List.replicate r.commits.length false:=rfl
theorem Bk {r:RepoD} {k:Nat} (h:k < r.heads.length):cY r (k+1)=cO (cY r k) (ak (anc r r.heads[k].at_)):=by
 unfold cY;rw [aX h,List.foldl_append]; rfl
theorem wP (r:RepoD) (k:Nat):(cY r k).length=r.commits.length:=by
 unfold cY;generalize r.heads.take k=hs;have:∀ (hs:List HeadD) (l:List Bool),(hs.foldl (fun l h=>cO l (ak (anc r h.at_))) l).length=l.length:=by
  intro hs
  induction hs with
  | nil=>intro l; rfl
  | cons h hs ih=>intro l; rw [List.foldl_cons,ih,mB]
 rw [this]; simp
theorem jS (r:RepoD):(da r).length=r.commits.length:=wP r _
theorem Iy (n g:Nat):isT (List.replicate n false) g=false:=by
 simp -implicitDefEqProofs [isT,List.getD_eq_getElem?_getD,List.getElem?_replicate];split <;> rfl
theorem At (r:RepoD) (g:Nat):isT (da r) g=true ↔ g < r.commits.length /\ ∃ h ∈ r.heads,(g:Int) ∈ ak (anc r h.at_):=by
 unfold da cY;rw [List.take_length];have:∀ (hs:List HeadD) (l:List Bool),l.length=r.commits.length->(isT (hs.foldl (fun l h=>cO l (ak (anc r h.at_))) l) g=true ↔ isT l g=true \/ g < r.commits.length /\ ∃ h ∈ hs,(g:Int) ∈ ak (anc r h.at_)):=by
  intro hs
  induction hs with
  | nil=>intro l _; simp
  | cons h hs ih =>
   intro l hl;rw [List.foldl_cons,ih _ (by rw [mB,hl]),Au]
   simp only [Bool.or_eq_true,Bool.and_eq_true,decide_eq_true_eq,List.any_eq_true,List.mem_cons,hl];constructor
   ·rintro ((h1 | ⟨⟨p,hp,h2⟩,h3⟩) | ⟨h1,h2,h3,h4⟩)
    ·exact .inl h1
    ·have:=qX p hp;exact .inr ⟨h3,h,.inl rfl,by rw [show (g:Int)=p by omega]; exact hp⟩
    ·exact .inr ⟨h1,h2,.inr h3,h4⟩
   ·rintro (h1 | ⟨h1,h2,h3 | h3,h4⟩)
    ·exact .inl (.inl h1)
    ·subst h3; exact .inl (.inr ⟨⟨g,h4,by simp⟩,h1⟩)
    ·exact .inr ⟨h1,h2,h3,h4⟩
 rw [this r.heads _ (by simp),Iy]
 simp
theorem live_mem {r:RepoD} {x:Int}:x ∈ am r ↔ (0<=x/\x < r.commits.length) /\ ∃ h ∈ r.heads,x ∈ ak (anc r h.at_):=by
 unfold am;rw [listT_mem];constructor
 ·rintro ⟨i,_,h2,rfl⟩;obtain ⟨h3,h4⟩:=(At r i).1 h2;exact ⟨⟨by omega,by omega⟩,h4⟩
 ·rintro ⟨⟨h1,h2⟩,h3⟩;exact ⟨x.toNat,by rw [jS]; omega,(At r _).2 ⟨by omega,by rw [show (x.toNat:Int)=x by omega]; exact h3⟩,by omega⟩
theorem qW (l:List Bool):(ak l).Pairwise (· < ·):=by
 unfold ak dE;rw [List.pairwise_map];exact (List.pairwise_lt_range.filter _).imp fun h=>by omega
theorem nT (r:RepoD):(am r).length<=r.commits.length:=by
 have:=ik (da r) (da r).length;rw [jS] at this;unfold am ak;rw [jS]; exact this
theorem nM {r:RepoD} (h:dn r.commits.length r.heads=true) {g:HeadD} (hg:g ∈ r.heads):0<=g.at_/\g.at_ < r.commits.length:=by
 obtain ⟨i,hi,rfl⟩:=List.getElem_of_mem hg;have:=((eY _ _).1 h).2 i hi;simp only [dM,inN,Bool.and_eq_true,decide_eq_true_eq,List.getD_eq_getElem?_getD,List.getElem?_eq_getElem hi,Option.getD_some] at this;omega
theorem wQ {r:RepoD} (h:an r=true) {g:HeadD} (hg:g ∈ r.heads):g.at_ ∈ am r:=by
 have hh:=nM ((be r).1 h).2.1 hg;exact live_mem.2 ⟨hh,g,hg,(sk (j9 h) hh hh.1).2 .refl⟩
theorem Bl {r:RepoD} (h:an r=true) {x p:Int} (hx:x ∈ am r) (hp:p ∈ (r.commits.getD x.toNat default).parents):p ∈ am r/\p < x:=by
 obtain ⟨h1,g,hg,h2⟩:=live_mem.1 hx;have hh:=nM ((be r).1 h).2.1 hg;have hpp:=j9 h x.toNat (by omega) p hp
 refine ⟨live_mem.2 ⟨by omega,g,hg,(sk (j9 h) hh hpp.1).2 ?_⟩,by omega⟩
 exact .step ((sk (j9 h) hh h1.1).1 h2) hp
theorem od {L:List Int} (hL:L.Pairwise (· < ·)) {k:Nat} (h:k < L.length):bD L L[k]=k:=by
 unfold bD;rw [if_pos (List.getElem_mem h)];have:L.Nodup:=hL.imp fun h=>by omega
 rw [this.idxOf_getElem]
theorem xh {L:List Int} (hL:L.Pairwise (· < ·)) {x y:Int} (hx:x ∈ L) (hy:y ∈ L) (h:x < y):bD L x < bD L y:=by
 obtain ⟨i,hi,rfl⟩:=List.getElem_of_mem hx;obtain ⟨j,hj,rfl⟩:=List.getElem_of_mem hy;rw [od hL hi,od hL hj];have:=List.pairwise_iff_getElem.1 hL;by_cases e:i < j
 ·omega
 ·by_cases e2:i=j
  ·subst e2; omega
  ·have:=this j i hj hi (by omega); omega
theorem xi {L:List Int} {x:Int} (hx:x ∈ L):0<=bD L x/\bD L x < L.length:=by
 unfold bD;rw [if_pos hx];have:=List.idxOf_lt_length_iff.2 hx;omega
theorem CG {L:List Int} (hL:L.Pairwise (· < ·)) {x y:Int} (hx:x ∈ L) (hy:y ∈ L) (h:bD L x=bD L y):x=y:=by
 rcases Int.lt_trichotomy x y with q | q | q
 ·have:=xh hL hx hy q; omega
 ·exact q
 ·have:=xh hL hy hx q; omega
theorem AH {r:RepoD} {k:Nat} (hk:k < (am r).length):(keepR r).commits.getD k default=jj r (am r) (am r)[k]:=by simp -implicitDefEqProofs [keepR,List.getD_eq_getElem?_getD,hk]
theorem jP (r:RepoD):(keepR r).commits.length=(am r).length:=by simp -implicitDefEqProofs [keepR]
theorem kT (r:RepoD):(keepR r).heads=r.heads.map (fE (am r)):=rfl
theorem Jr {r:RepoD} (h:an r=true):an (keepR r)=true:=by
 obtain ⟨h1,h2,h3⟩:=(be r).1 h;have hlt:(am r).Pairwise (· < ·):=qW (da r);refine (be _).2 ⟨fun i hi=>?_,?_,?_⟩
 ·rw [jP] at hi;have hm:=List.getElem_mem hi;obtain ⟨⟨m1,m2⟩,_⟩:=live_mem.1 hm;have hc:=h1 (am r)[i].toNat (by omega)
  unfold dG at hc ⊢;rw [AH hi];generalize hx:(am r)[i]=x at *;have hpl:bD (am r) x=i:=by rw [<- hx]; exact od hlt hi
  have hpar:=fun p hp=>Bl h hm (p:=p) hp;unfold jj;generalize r.commits.getD x.toNat default=c at *;simp only [Bool.and_eq_true,List.all_eq_true,List.mem_range,List.length_map] at hc ⊢;refine ⟨fun k hk=>?_,?_⟩
  ·have:=hc.1 k hk;have hk0:0 < c.parents.length:=by omega
   have g1:(c.parents.map (bD (am r))).getD k 0=bD (am r) c.parents[k]:=by simp -implicitDefEqProofs [List.getD_eq_getElem?_getD,hk]
   have g2:(c.parents.map (bD (am r))).getD 0 0=bD (am r) c.parents[0]:=by simp -implicitDefEqProofs [List.getD_eq_getElem?_getD,hk0]
   have g3:c.parents.getD k 0=c.parents[k]:=by simp -implicitDefEqProofs [List.getD_eq_getElem?_getD,hk]
   have g4:c.parents.getD 0 0=c.parents[0]:=by simp -implicitDefEqProofs [List.getD_eq_getElem?_getD,hk0]
   have i1:=hpar _ (List.getElem_mem hk);have i2:=hpar _ (List.getElem_mem hk0);have n1:=xi i1.1;have n2:=xh hlt i1.1 hm i1.2;have n3:=CG hlt i1.1 i2.1;simp only [fM,g1,g2,g3,g4,inN,Bool.and_eq_true,decide_eq_true_eq,Bool.not_eq_true',Bool.and_eq_false_iff,decide_eq_false_iff_not] at this ⊢;rw [hpl] at n2;refine ⟨⟨n1.1,by omega⟩,?_⟩
   rcases this.2 with q | q
   ·exact .inl q
   ·exact .inr fun e=>q (n3 e)
  ·have:=hc.2;simp only [fJ,Bool.and_eq_true,decide_eq_true_eq,List.length_map] at this ⊢;exact this
 ·rw [jP,kT];obtain ⟨g1,g2⟩:=(eY _ _).1 h2;refine (eY _ _).2 ⟨by simpa using g1,fun i hi=>?_⟩
  rw [List.length_map] at hi;have:=g2 i hi;have hp:=xi (wQ h (List.getElem_mem hi));have e1:(r.heads.map (fE (am r))).getD i default=fE (am r) r.heads[i]:=by simp -implicitDefEqProofs [List.getD_eq_getElem?_getD,hi]
  have e3:r.heads.getD i default=r.heads[i]:=by simp -implicitDefEqProofs [List.getD_eq_getElem?_getD,hi]
  have e2:(r.heads.map (fE (am r))).getD (i - 1) default=fE (am r) r.heads[i - 1]:=by simp -implicitDefEqProofs [List.getD_eq_getElem?_getD,show i - 1 < r.heads.length by omega]
  have e4:r.heads.getD (i - 1) default=r.heads[i - 1]:=by simp -implicitDefEqProofs [List.getD_eq_getElem?_getD,show i - 1 < r.heads.length by omega]
  simp only [dM,e1,e2,e3,e4,inN,fE,Bool.and_eq_true,decide_eq_true_eq,Bool.or_eq_true] at this ⊢;exact ⟨⟨this.1.1,by omega,by omega⟩,this.2⟩
 ·rw [jP];have:=nT r;omega
theorem Js {r:RepoD} (h:plR r):plR (wb r):=by
 unfold wb;rw [if_pos h.1];refine ⟨Jr h.1,fun hc=>?_⟩;rw [kT];intro e;have e2:r.heads=[]:=by simpa using e
 apply hc;have:am r=[]:=by
  rw [List.eq_nil_iff_forall_not_mem];intro x hx;obtain ⟨_,g,hg,_⟩:=live_mem.1 hx;rw [e2] at hg; cases hg
 simp -implicitDefEqProofs [keepR,this]
theorem Jt {r:RepoD} (m:Str) (L:List Int):∀ hs:List HeadD,atL (hs.map (fE L)) m=if ∃ h ∈ hs,h.name=m then bD L (atL hs m) else -1:=by
 intro hs
 induction hs with
 | nil=>simp -implicitDefEqProofs [atL]
 | cons h hs ih =>
  simp only [List.map_cons,atL,fE,List.mem_cons,exists_eq_or_imp];by_cases e:h.name=m
  ·simp -implicitDefEqProofs [e]
  ·simp only [e,if_false,false_or];exact ih
theorem EW {m:Str}:∀ {hs:List HeadD},(∃ h ∈ hs,h.name=m) -> ∃ h ∈ hs,h.at_=atL hs m:=by
 intro hs
 induction hs with
 | nil=>simp
 | cons h hs ih =>
  rintro ⟨g,hg,e⟩;by_cases q:h.name=m
  ·exact ⟨h,by simp,by simp -implicitDefEqProofs [atL,q]⟩
  ·rcases List.mem_cons.1 hg with rfl | hg
   ·exact absurd e q
   ·obtain ⟨x,hx,h2⟩:=ih ⟨g,hg,e⟩;exact ⟨x,by simp -implicitDefEqProofs [hx],by simp -implicitDefEqProofs [atL,q,h2]⟩
theorem EY {m:Str}:∀ {hs:List HeadD},(¬ ∃ h ∈ hs,h.name=m)->atL hs m = -1:=by
 intro hs
 induction hs with
 | nil=>intro _; rfl
 | cons h hs ih =>
  intro hn;have q:¬ h.name=m:=fun e=>hn ⟨h,by simp,e⟩
  simp only [atL,q,if_false];exact ih fun ⟨g,hg,e⟩=>hn ⟨g,by simp -implicitDefEqProofs [hg],e⟩
theorem AJ {r:RepoD} (h:an r=true) (m:Str):(atL (keepR r).heads m < 0 ↔ atL r.heads m < 0)/\(0<=atL r.heads m->aj (keepR r) (atL (keepR r).heads m)=aj r (atL r.heads m)):=by
 rw [kT,Jt (r:=r)];by_cases e:∃ h ∈ r.heads,h.name=m
 ·rw [if_pos e];obtain ⟨g,hg,hga⟩:=EW e;have hl:=wQ h hg;rw [hga] at hl;have hh:=nM ((be r).1 h).2.1 hg;have hp:=xi hl;refine ⟨by omega,fun _=>?_⟩
  unfold aj;have hk:(bD (am r) (atL r.heads m)).toNat < (am r).length:=by omega
  rw [AH hk];have hlt:(am r).Pairwise (· < ·):=qW (da r);have:(am r)[(bD (am r) (atL r.heads m)).toNat]=atL r.heads m:=by
   apply CG hlt (List.getElem_mem hk) hl;rw [od hlt hk];omega
  rw [this]; rfl
 ·rw [if_neg e,EY e];exact ⟨by omega,fun h=>absurd h (by omega)⟩
def cZ (r:RepoD) (t:Nat):List Int:=(List.range r.commits.length).map fun k:Nat=>if (k:Int) ∈ (am r).take t then bD (am r) k else 0
theorem rf (r:RepoD) (t:Nat):(cZ r t).length=r.commits.length:=by simp -implicitDefEqProofs [cZ]
theorem LC (r:RepoD):cZ r 0=List.replicate r.commits.length 0:=by
 apply List.ext_getElem
 ·simp -implicitDefEqProofs [cZ]
 ·intro i h1 h2;simp -implicitDefEqProofs [cZ]
theorem LF {r:RepoD} {t:Nat} (h:t < (am r).length):(cZ r t).set (am r)[t].toNat (t:Int)=cZ r (t+1):=by
 have hlt:(am r).Pairwise (· < ·):=qW (da r);have h0:=(live_mem.1 (List.getElem_mem h)).1;apply List.ext_getElem
 ·simp -implicitDefEqProofs [cZ]
 ·intro i h1 h2;rw [List.getElem_set];simp only [cZ,List.getElem_map,List.getElem_range,aX h,List.mem_append,List.mem_singleton];by_cases e:(am r)[t].toNat=i
  ·have e2:(i:Int)=(am r)[t]:=by omega
   rw [if_pos e,if_pos (.inr e2),e2,od hlt h]
  ·have e2:¬ (i:Int)=(am r)[t]:=by omega
   simp only [e,if_false,e2,or_false]
theorem LE {r:RepoD} (h:an r=true) {t:Nat} (ht:t < (am r).length) {p:Int} (hp:p ∈ (r.commits.getD (am r)[t].toNat default).parents):0<=p/\p.toNat < (cZ r (t+1)).length/\(cZ r (t+1))[p.toNat]? = some (bD (am r) p):=by
 have hlt:(am r).Pairwise (· < ·):=qW (da r);obtain ⟨h1,h2⟩:=Bl h (List.getElem_mem ht) hp;have h0:=(live_mem.1 h1).1;have hm:p ∈ (am r).take (t+1):=by
  obtain ⟨j,hj,rfl⟩:=List.getElem_of_mem h1;have:j < t:=by
   rcases Nat.lt_or_ge j t with q | q
   ·exact q
   ·rcases Nat.eq_or_lt_of_le q with q | q
    ·subst q; omega
    ·have:=List.pairwise_iff_getElem.1 hlt t j ht hj q; omega
  exact List.mem_take_iff_getElem.2 ⟨j,by omega,rfl⟩
 refine ⟨h0.1,by rw [rf]; omega,?_⟩
 have hb:p.toNat < (cZ r (t+1)).length:=by rw [rf]; omega
 rw [List.getElem?_eq_getElem hb];simp -implicitDefEqProofs [cZ,show ((p.toNat:Nat):Int)=p by omega,hm]
theorem LD {r:RepoD} (h:an r=true) {g:HeadD} (hg:g ∈ r.heads):0<=g.at_/\g.at_.toNat < (cZ r (am r).length).length/\(cZ r (am r).length)[g.at_.toNat]? = some (bD (am r) g.at_):=by
 have h1:=wQ h hg;have h0:=(live_mem.1 h1).1;have hb:g.at_.toNat < (cZ r (am r).length).length:=by rw [rf]; omega
 refine ⟨h0.1,hb,?_⟩;rw [List.getElem?_eq_getElem hb];simp -implicitDefEqProofs [cZ,show ((g.at_.toNat:Nat):Int)=g.at_ by omega,h1]
def codeW:List Str:=[[111,107],[102,111,114,109],[115,97,109,101],[111,110],[99,108,97,115,104],[102,117,108,108],[119,97,105,116]]
def tI:Con:=.fn 8 Int (fun c=>[.int .i64 c]) (fun c=>0<=c/\c<=6) (fun c=>.str (codeW.getD c.toNat default++[10])) (fun _=>[])
theorem J1:Has Tryz.prog 67 tI:=by
 refine ah mixed aw HasL.nil [0,2] ((fun a n (_:Nat)=>(fun _=>az) a n)) [] Tryz.func67 (by unfold Tryz.f67; rfl) (fun _=>⟨(),trivial⟩) ?_
 intro (c:Int) ha;obtain ⟨h1,h2⟩:0<=c/\c<=6:=ha;simp -implicitDefEqProofs [tI,Con.fn,ag]
 try dsimp only
 have hc:c=0 \/ c=1 \/ c=2 \/ c=3 \/ c=4 \/ c=5 \/ c=6:=by omega
 rcases hc with rfl | rfl | rfl | rfl | rfl | rfl | rfl <;> simp -implicitDefEqProofs [codeW,D.asStr,maxLen]
def dU (l:List Str):Str:=l.flatMap fun x=>124 :: x
theorem Fk {l:List Str} {t:Nat} (h:t < l.length):dU (l.take (t+1))=dU (l.take t)++124 :: l[t]:=by
 unfold dU;rw [List.take_succ_eq_append_getElem h,List.flatMap_append]; simp
theorem Fj {l:List Str} (h:∀ x ∈ l,x.length<=1000):(dU l).length<=1001 * l.length:=by
 unfold dU
 induction l with
 | nil=>simp
 | cons x l ih =>
  have h1:=ih fun y hy=>h y (by simp -implicitDefEqProofs [hy])
  have h2:=h x (by simp)
  rw [List.flatMap_cons,List.length_append,List.length_cons,List.length_cons];omega
def DF (l:List Str):Str:=dU l++[10]
def pG:Con:=.fn 20 (List Str) (fun l=>[.sl true 1 (aa l)]) (fun l=>l.length<=1000 /\ ∀ x ∈ l,x.length<=1000) (fun l=>.str (DF l)) (fun _=>[])
theorem J4:Has Tryz.prog 134 pG:=by
 refine ah mixed aw HasL.nil [0,2,3,4] ((fun a n (_:Nat)=>(fun l _=>⟨Nat,fun i=>⟨[(0,true,.sl true 1 (aa l)),(2,true,.str []),(3,true,.str (dU (l.take i))),(4,true,.int .i64 i)],[]⟩,fun i=>i<=l.length,fun i=>l.length - i⟩) a n)) [] Tryz.func134 (by unfold Tryz.f134; rfl) (fun _=>⟨(),trivial⟩) ?_
 intro (l:List Str) ha;obtain ⟨h1,h2⟩:l.length<=1000 /\ ∀ x ∈ l,x.length<=1000:=ha;simp -implicitDefEqProofs [pG,Con.fn,ag]
 try dsimp only
 have bl:∀ t,(dU (l.take t)).length<=1001000:=fun t=>by
  have:=Fj (l:=l.take t) fun x hx=>h2 x (List.mem_of_mem_take hx);rw [List.length_take] at this;omega
 refine ⟨⟨0,⟨rfl,rfl⟩,Nat.zero_le _⟩,fun t ht _=>⟨fun hlt=>?_,fun hge=>?_⟩⟩
 ·have q1:Option.map ar l[t]? = some (ar l[t]):=by simp -implicitDefEqProofs [hlt]
  have st:=Fk hlt;have b1:=bl t;have k1:=h2 _ (List.getElem_mem hlt);rw [q1];generalize dU (l.take t)=B at *;simp -implicitDefEqProofs [ar,D.asStr,maxLen];exact ⟨by omega,fun _=>⟨hlt,fun _=>⟨by omega,fun _=>⟨⟨by omega,by omega⟩,fun _ _=>⟨t+1,⟨st,by omega⟩,by omega,by omega⟩⟩⟩⟩⟩
 ·have b1:=bl t;unfold DF;rw [List.take_of_length_le hge] at b1 ⊢;simp -implicitDefEqProofs [maxLen]; omega
def c7 (l:List Int):Str:=l.flatMap fun n=>aW n.toNat++[44]
theorem zv {l:List Int} {t:Nat} (h:t < l.length):c7 (l.take (t+1))=c7 (l.take t)++aW l[t].toNat++[44]:=by
 unfold c7;rw [List.take_succ_eq_append_getElem h,List.flatMap_append]; simp
theorem lX (l:List Int):(c7 l).length<=3 * l.length:=by
 unfold c7
 induction l with
 | nil=>simp
 | cons n l ih =>
  have:(aW n.toNat).length<=2:=by unfold aW; split <;> simp
  rw [List.flatMap_cons,List.length_append,List.length_append];simp only [List.length_cons,List.length_nil];omega
def Ar (l:List Int):Str:=c7 l++[10]
def pF:Con:=.fn 21 (List Int) (fun l=>[.sl true 1 (ae l)]) (fun l=>l.length<=1000 /\ ∀ n ∈ l,0<=n/\n < 100) (fun l=>.str (Ar l)) (fun _=>[])
theorem J2:Has Tryz.prog 132 pF:=by
 refine ah mixed aw (HasL.cons wj HasL.nil) [0,2,3,4] ((fun a n (_:Nat)=>(fun l _=>⟨Nat,fun i=>⟨[(0,true,.sl true 1 (ae l)),(2,true,.str []),(3,true,.str (c7 (l.take i))),(4,true,.int .i64 i)],[]⟩,fun i=>i<=l.length,fun i=>l.length - i⟩) a n)) [] Tryz.func132 (by unfold Tryz.f132; rfl) (fun _=>⟨(),trivial⟩) ?_
 intro (l:List Int) ha;obtain ⟨h1,h2⟩:l.length<=1000 /\ ∀ n ∈ l,0<=n/\n < 100:=ha;simp -implicitDefEqProofs [pF,na,Con.fn,ag]
 try dsimp only
 have bl:∀ t,(c7 (l.take t)).length<=3000:=fun t=>by
  have:=lX (l.take t);rw [List.length_take] at this;omega
 refine ⟨⟨0,⟨rfl,rfl⟩,Nat.zero_le _⟩,fun t ht _=>⟨fun hlt=>⟨hlt,fun _=>?_⟩,fun hge=>?_⟩⟩
 ·have q1:Option.map ap l[t]? = some (ap l[t]):=by simp -implicitDefEqProofs [hlt]
  have st:=zv hlt;have b1:=bl t;have k1:=h2 _ (List.getElem_mem hlt);have k2:(aW l[t].toNat).length<=2:=by unfold aW; split <;> simp
  rw [q1];generalize c7 (l.take t)=B at *;simp -implicitDefEqProofs [ap,D.asInt,maxLen];exact ⟨l[t].toNat,by omega,by omega,by omega,fun _=>⟨by omega,fun _=>⟨⟨by omega,by omega⟩,fun _ _=>⟨t+1,⟨by simpa using st,by omega⟩,by omega,by omega⟩⟩⟩⟩
 ·have b1:=bl t;unfold Ar;rw [List.take_of_length_le hge] at b1 ⊢;simp -implicitDefEqProofs [maxLen]; omega
theorem nw (n:Nat):(aW n).length<=2:=by unfold aW; split <;> simp
theorem OV {c:UInt8}:∀ {l r p:Str},c ∉ l->spl c (l++r) p=spl c r (p++l):=by
 intro l
 induction l with
 | nil=>intro r p _; simp
 | cons x l ih =>
  intro r p h;have hx:¬ x=c:=fun e=>h (by simp [e])
  simp only [List.cons_append,spl,hx,if_false];rw [ih (fun hm=>h (by simp [hm]))]
  simp
theorem OW {c:UInt8}:∀ {s p:Str},∀ q ∈ spl c s p,q.length<=p.length+s.length:=by
 intro s
 induction s with
 | nil=>intro p q hq; simp [spl] at hq; simp [hq]
 | cons x s ih =>
  intro p q hq;simp only [spl] at hq;split at hq
  ·rcases List.mem_cons.1 hq with rfl | hq
   ·simp
   ·have:=ih q hq; simp at this ⊢; omega
  ·have:=ih q hq; simp at this ⊢; omega
theorem OZ {c:UInt8}:∀ {s p:Str},((spl c s p).map fun q=>q.length+1).sum=p.length+s.length+1:=by
 intro s
 induction s with
 | nil=>intro p; simp [spl]
 | cons x s ih =>
  intro p;simp only [spl];split
  ·simp [ih]; omega
  ·rw [ih]; simp; omega
def CH (t:List FileD):Prop:=∀ f ∈ t,(∀ b ∈ f.path,32 < b.toNat)/\f.text.length < 100 /\ ∀ l ∈ f.text,(10:UInt8) ∉ l
def ir:Str->Nat->Int->Int
 | [],_,n=>n
 | x :: r,i,n=>if x.toNat < 48 \/ 57 < x.toNat \/ 6<=i then -1 else ir r (i+1) (n * 10+((x.toNat:Int) - 48))
def iQ (s:Str):Int:=if ir s 0 0 = -1 then -1 else if s.length=0 \/ (1 < s.length/\s.getD 0 0=48) then -1 else ir s 0 0
theorem BJ {n:Nat} (h:n < 100):iQ (aW n)=n:=by
 revert h;revert n
 decide
structure OkT (ok:List FileD->Bool):Prop where
 n:∀ {t},ok t=true->t.length<=8
 plain:∀ {t},ok t=true->CH t
 ten:∀ {t},ok t=true -> ∀ f ∈ t,f.text.length<=10
theorem OX {c:UInt8}:∀ {s p:Str},∀ b ∈ s,b=c \/ ∃ q ∈ spl c s p,b ∈ q:=by
 intro s
 induction s with
 | nil=>intro p b hb; cases hb
 | cons x s ih =>
  intro p b hb;have keep:∀ (s p:Str),∀ y ∈ p,∃ q ∈ spl c s p,y ∈ q:=by
   intro s
   induction s with
   | nil=>intro p y hy; exact ⟨p,by simp [spl],hy⟩
   | cons z s ih2 =>
    intro p y hy;simp only [spl];split
    ·exact ⟨p,by simp,hy⟩
    ·exact ih2 (p++[z]) y (by simp [hy])
  simp only [spl];split
  ·rename_i hx;rcases List.mem_cons.1 hb with rfl | hb
   ·exact .inl hx
   ·rcases ih (p:=[]) b hb with h | ⟨q,h1,h2⟩
    ·exact .inl h
    ·exact .inr ⟨q,by simp [h1],h2⟩
  ·rcases List.mem_cons.1 hb with rfl | hb
   ·exact .inr (keep s (p++[b]) b (by simp))
   ·exact ih b hb
theorem kY {s:Str} (h:dZ s=true):(∀ b ∈ s,32 < b.toNat)/\s.length<=20:=by
 simp only [dZ,Bool.and_eq_true,decide_eq_true_eq,List.all_eq_true] at h;obtain ⟨h1,h2⟩:=h;constructor
 ·intro b hb;rcases OX (c:=47) (p:=[]) b hb with rfl | ⟨q,hq,hbq⟩
  ·decide
  ·have h3:=h2 q hq;simp only [aQ,Bool.and_eq_true,List.all_eq_true] at h3;have h4:=h3.2 b hbq;simp only [kj,Bool.or_eq_true,Bool.and_eq_true,decide_eq_true_eq] at h4;omega
 ·have h3:=OZ (c:=47) (s:=s) (p:=[]);have h4:∀ (l:List Str),(∀ q ∈ l,aQ q=true)->((l.map fun q=>q.length+1).sum)<=7 * l.length:=by
   intro l
   induction l with
   | nil=>intro _; simp
   | cons q l ih =>
    intro h;have a:=ih fun x hx=>h x (by simp [hx])
    have b:=h q (by simp)
    simp only [aQ,Bool.and_eq_true,decide_eq_true_eq] at b;simp only [List.map_cons,List.sum_cons,List.length_cons];omega
  have h5:=h4 _ h2;rw [h3] at h5;simp at h5;omega
theorem mK {t:List FileD} (h:aC t=true):∀ f ∈ t,((∀ b ∈ f.path,32 < b.toNat)/\f.path.length<=20)/\f.text.length<=10 /\ ∀ l ∈ f.text,(10:UInt8) ∉ l:=by
 intro f hf;simp only [aC,Bool.and_eq_true,decide_eq_true_eq,List.all_eq_true,List.mem_range,dX] at h;obtain ⟨i,hi,rfl⟩:=List.getElem_of_mem hf;have h1:=(h.2 i hi).1.1;have hg:t.getD i default=t[i]:=by simp [List.getD_eq_getElem?_getD,hi]
 rw [hg] at h1;refine ⟨kY h1.2,?_⟩;have h2:=h1.1;simp only [bg,Bool.and_eq_true,decide_eq_true_eq,List.all_eq_true] at h2;refine ⟨h2.1,fun l hl h10=>?_⟩;have h3:=h2.2 l hl;simp only [fG,Bool.and_eq_true,List.all_eq_true,decide_eq_true_eq] at h3;have:=h3.2 10 h10;simp at this


end Vx
end Go.Proofs.YthgfdbfmnbgkaaaGreatDoor
