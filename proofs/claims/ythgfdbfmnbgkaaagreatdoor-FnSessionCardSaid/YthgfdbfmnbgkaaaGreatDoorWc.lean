/-
  Joined by program (merge.py): Bw, Ja, Ka, Kg, Np, Qa, Sr, Sa, Sc, Sd, Id, Nd, Ga, Gb, Gc, Nh, Ni, Ne, Ng, Nj, Nk, Nl, Crc, Nq, Mi, Xj, Vw, Oa, Ta, Tb, Xd, Xh, Ux, Yf, Xn, Xg, Xi, Ya, Yb, Qd, Ua. It shows what the single texts show; conditions: none but those of each lemma.
-/
import Derived.Test.YthgfdbfmnbgkaaaGreatDoorWb
import Derived.Lib.Walk
import Derived.Lib.Builder
import Derived.Lib.AppendStr
import Derived.Lib.AppendZeros
import Derived.Lib.UnsafeStr
import Derived.Laws.Externs
import Derived.Laws.NewBlocks
import Derived.Shelf.RegionOpenPlain
import Derived.WalkKit
import Derived.Lib.ItoaNum
set_option linter.unusedVariables false
set_option linter.unusedSimpArgs false
set_option linter.unusedSectionVars false
set_option linter.unusedVariables false
set_option linter.unusedSimpArgs false
namespace Go.Proofs.YthgfdbfmnbgkaaaGreatDoor
namespace Vx
open Go.RowKit Go.Lib
set_option maxHeartbeats 1000000 in
set_option maxRecDepth 100000 in
theorem FJ (b:Nat) (w:World) (h0:w.cell? ⟨b,0,none⟩=some (.pointer (some ⟨b,0,none⟩))) :
  Calls Tryz.prog 79 #[.pointer (some ⟨b,0,none⟩)] w fun e w'=>e = .returned (.tuple #[])/\w'=w:=by
 obtain ⟨j,hj,_⟩:=Option.map_eq_some_iff.1 (show (Tryz.prog.info? 58).map (·.size)=some 2 by kernel_rfl)
 have u1:Tryz.prog.underlying 56=some (.pointer 58):=by kernel_rfl
 go_enter Tryz.func79,Tryz.ntmps79
 go_wp2
 rw [Lib.run_neq_ptr_same w _ u1 hj]
 go_wp2
 go_end0
 exact ⟨rfl,rfl⟩
set_option maxHeartbeats 1000000 in
set_option maxRecDepth 100000 in
theorem FE (b:Nat) (w:World) (h0:w.cell? ⟨b,0,none⟩=some (.pointer none)) (hsh:w.shape? b=some (58,2)) (hfz:w.frozen? ⟨b,0,none⟩=false) :
  Calls Tryz.prog 79 #[.pointer (some ⟨b,0,none⟩)] w fun e w'=>e = .returned (.tuple #[])/\w'=w.setCell ⟨b,0,none⟩ (.pointer (some ⟨b,0,none⟩)):=by
 obtain ⟨j,hj,hjs⟩:=Option.map_eq_some_iff.1 (show (Tryz.prog.info? 58).map (·.size)=some 2 by kernel_rfl)
 have hlies:liesAt Tryz.prog Tryz.prog.depth 58 (2 / Tryz.prog.cellsOf 58) 0 58 1=true:=by kernel_rfl
 have u1:Tryz.prog.underlying 56=some (.pointer 58):=by kernel_rfl
 have u2:Tryz.prog.underlying 164=some .unsafePointer:=by kernel_rfl
 go_enter Tryz.func79,Tryz.ntmps79
 go_wp2
 rw [Lib.run_to_unsafe w ⟨b,0,none⟩ u1 u2 hj (by rw [hjs]; decide) hsh (Nat.zero_lt_succ 1)]
 simp only [Result.andThen];rw [Oper.upon_value]
 go_wp2
 rw [run_callFunc_extern Tryz.func159 (by kernel_rfl) (by kernel_rfl) (by kernel_rfl) (e:=Extern.AbiNoEscape.same) (by kernel_rfl)]
 rw [Lib.run_noEscape];simp only [Result.andThen];rw [Oper.upon_value]
 go_wp2
 rw [Lib.run_from_unsafe w ⟨b,0,none⟩ u2 u1 hj hsh hlies];simp only [Result.andThen];rw [Oper.upon_value]
 go_wp2
 go_end0
 exact ⟨rfl,rfl⟩
set_option maxHeartbeats 2000000 in
set_option maxRecDepth 100000 in
theorem FK (w w1 w2:World) (b:Nat) (pv v v' v2:Value) (s:ByteArray) (hb:w.heap[b]? = some (.cells #[pv,v] 58 (0,0)))
  (hw1:(pv = .pointer none/\w1=w.setCell ⟨b,0,none⟩ (.pointer (some ⟨b,0,none⟩))) \/ (pv = .pointer (some ⟨b,0,none⟩)/\w1=w)) (hb1:w1.heap[b]? = some (.cells #[.pointer (some ⟨b,0,none⟩),v] 58 (0,0)))
  (hap:(Builtin.append_ #[28,9] 28 #[v,.string s]).run Tryz.prog w1 = .ok v' w2) (hb2:w2.heap[b]? = some (.cells #[.pointer (some ⟨b,0,none⟩),v2] 58 (0,0))) (hv:∃ ao n cp,v = .slice ao n cp) (hv':∃ ao n cp,v' = .slice ao n cp) :
  Calls Tryz.prog 29 #[.pointer (some ⟨b,0,none⟩),.string s] w fun e w'=>e = .returned (.tuple #[.int .i64 s.size,.nilIface])/\w'=w2.setCell ⟨b,1,none⟩ v':=by
 obtain ⟨ao,n',cap,rfl⟩:=hv';obtain ⟨ao0,n0,cap0,rfl⟩:=hv;have e158:∀ args w,(callFunc 79 args).run Tryz.prog w = .ok (.enter 79 args) w:=fun args w=>Go.MuLone.run_callFunc_enter Tryz.func79 (by kernel_rfl) rfl args w
 have hcc:Calls Tryz.prog 79 #[.pointer (some ⟨b,0,none⟩)] w fun e w'=>e = .returned (.tuple #[])/\w'=w1:=by
  rcases hw1 with ⟨rfl,rfl⟩ | ⟨rfl,rfl⟩
  ·exact FE b w (by rw [Lib.cell_of_heap hb]; rfl) (by simp [World.shape?,hb]) (Lib.frozen_of_heap hb 0)
  ·exact FJ b w1 (by rw [Lib.cell_of_heap hb]; rfl)
 have c1:w1.cell? ⟨b,1,none⟩=some (.slice ao0 n0 cap0):=by rw [Lib.cell_of_heap hb1]; rfl
 have d1:w2.cell? ⟨b,1,none⟩=some v2:=by rw [Lib.cell_of_heap hb2]; rfl
 have f1:w2.frozen? ⟨b,1,none⟩=false:=Lib.frozen_of_heap hb2 1
 go_enter Tryz.func29,Tryz.ntmps29
 go_wp2_with (go_at_fn 79; refine hcc.mono ?_)
 rintro e w1' ⟨rfl,rfl⟩
 go_wp2_with (at_builtin; refine Lib.wpList_append_run _ rfl _ _ _ _ rfl _ _ rfl rfl _ _ hap ?_)
 go_wp2
 go_ret2
 exact ⟨rfl,rfl⟩
set_option maxHeartbeats 2000000 in
set_option maxRecDepth 100000 in
theorem FG (w:World) (b:Nat) (pv:Value) (hb:w.heap[b]? = some (.cells #[pv,.slice none 0 0] 58 (0,0))) :
  Calls Tryz.prog 30 #[.pointer (some ⟨b,0,none⟩)] w fun e w'=>e = .returned (.string ⟨#[]⟩)/\w'=w.drew:=by
 have hUS:∀ (W:World) (q:Option Addr),(Builtin.unsafeString_ #[109,3] 9 #[.pointer q,.int .i64 0]).run Tryz.prog W = .ok (.string .empty) W:=fun W q=>Lib.run_unsafeString_none W _ _ _ q;have c1:w.drew.cell? ⟨b,1,none⟩=some (.slice none 0 0):=by
  have:w.drew.heap[b]? = some (.cells #[pv,.slice none 0 0] 58 (0,0)):=hb;rw [Lib.cell_of_heap this]; rfl
 have hSD:(Builtin.unsafeSliceData_ #[28] 109 #[.slice none 0 0]).run Tryz.prog w.drew = .ok (.pointer none) w.drew:=rfl;have mixed:Tryz.prog.follows .mixedOrders=true:=mixed
 go_enter Tryz.func30,Tryz.ntmps30
 go_wp2
 go_region_o
 all_goals (go_wp2; go_ret; exact ⟨rfl,rfl⟩)
set_option maxHeartbeats 2000000 in
set_option maxRecDepth 100000 in
theorem FF (w:World) (b g cap:Nat) (pv:Value) (cs:Array Value) (l:List UInt8) (hb:w.heap[b]? = some (.cells #[pv,.slice (some ⟨g,0,none⟩) l.length cap] 58 (0,0))) (hg:w.heap[g]? = some (.cells cs 5 (0,0)))
  (hlc:l.length<=cs.size) (h63:l.length<=9223372036854775807) (h0:l ≠ []) (hcap:cap ≠ 0) (hcell:∀ (j:Nat) x,l[j]? = some x->cs[j]? = some (.int .u8 x.toNat)) :
  Calls Tryz.prog 30 #[.pointer (some ⟨b,0,none⟩)] w fun e w'=>e = .returned (.string ⟨l.toArray⟩)/\w'=w.drew.freeze ⟨g,0,none⟩ l.length:=by
 have c1:w.drew.cell? ⟨b,1,none⟩=some (.slice (some ⟨g,0,none⟩) l.length cap):=by
  have:w.drew.heap[b]? = some (.cells #[pv,.slice (some ⟨g,0,none⟩) l.length cap] 58 (0,0)):=hb;rw [Lib.cell_of_heap this]; rfl
 have hSD:(Builtin.unsafeSliceData_ #[28] 109 #[.slice (some ⟨g,0,none⟩) l.length cap]).run Tryz.prog w.drew = .ok (.pointer (some ⟨g,0,none⟩)) w.drew :=
  Lib.run_unsafeSliceData_row _ _ _ _ _ _ hcap
 have hUS:(Builtin.unsafeString_ #[109,3] 9 #[.pointer (some ⟨g,0,none⟩),.int .i64 l.length]).run Tryz.prog w.drew = .ok (.string ⟨l.toArray⟩) (w.drew.freeze ⟨g,0,none⟩ l.length):=by
  have hg':w.drew.heap[g]? = some (.cells cs 5 (0,0)):=hg;refine Lib.run_unsafeString_row w.drew 109 3 9 5 (by kernel_rfl) (by kernel_rfl) g cs.size (by simp [World.shape?,hg']) l h0 hlc h63 ?_
  intro j x hx;rw [Addr.add_lit];simp only [Nat.zero_add];rw [World.cell_of hg'];exact hcell j x hx
 have mixed:Tryz.prog.follows .mixedOrders=true:=mixed;clear hcap hcell h0
 go_enter Tryz.func30,Tryz.ntmps30
 go_wp2
 go_region_o
 all_goals (go_wp2; go_ret; exact ⟨rfl,rfl⟩)
set_option maxHeartbeats 2000000 in
set_option maxRecDepth 100000 in
theorem FI (w:World) (b g cap:Nat) (pv:Value) (hb:w.heap[b]? = some (.cells #[pv,.slice (some ⟨g,0,none⟩) 0 cap] 58 (0,0))) (hcap:cap ≠ 0) :
  Calls Tryz.prog 30 #[.pointer (some ⟨b,0,none⟩)] w fun e w'=>e = .returned (.string ⟨#[]⟩)/\w'=w.drew:=by
 have hUS:∀ (W:World) (q:Option Addr),(Builtin.unsafeString_ #[109,3] 9 #[.pointer q,.int .i64 0]).run Tryz.prog W = .ok (.string .empty) W:=fun W q=>Lib.run_unsafeString_none W _ _ _ q;have c1:w.drew.cell? ⟨b,1,none⟩=some (.slice (some ⟨g,0,none⟩) 0 cap):=by
  have:w.drew.heap[b]? = some (.cells #[pv,.slice (some ⟨g,0,none⟩) 0 cap] 58 (0,0)):=hb;rw [Lib.cell_of_heap this]; rfl
 have hSD:(Builtin.unsafeSliceData_ #[28] 109 #[.slice (some ⟨g,0,none⟩) 0 cap]).run Tryz.prog w.drew = .ok (.pointer (some ⟨g,0,none⟩)) w.drew :=
  Lib.run_unsafeSliceData_row _ _ _ _ _ _ hcap
 have mixed:Tryz.prog.follows .mixedOrders=true:=mixed;clear hcap
 go_enter Tryz.func30,Tryz.ntmps30
 go_wp2
 go_region_o
 all_goals (go_wp2; go_ret; exact ⟨rfl,rfl⟩)
set_option maxHeartbeats 2000000 in
set_option maxRecDepth 100000 in
theorem FH (w:World) (b g:Nat) (pv:Value) (cs:Array Value) (hb:w.heap[b]? = some (.cells #[pv,.slice (some ⟨g,0,none⟩) 0 0] 58 (0,0))) (hg:w.heap[g]? = some (.cells cs 5 (0,0))) :
  Calls Tryz.prog 30 #[.pointer (some ⟨b,0,none⟩)] w fun e w'=>e = .returned (.string ⟨#[]⟩)/\(w'=w.drew.alloc (.view ⟨g,0,none⟩ 5) \/ w'=(w.alloc (.view ⟨g,0,none⟩ 5)).drew):=by
 have hUS:∀ (W:World) (q:Option Addr),(Builtin.unsafeString_ #[109,3] 9 #[.pointer q,.int .i64 0]).run Tryz.prog W = .ok (.string .empty) W:=fun W q=>Lib.run_unsafeString_none W _ _ _ q;have hlt:b < w.heap.size:=by
  rcases Nat.lt_or_ge b w.heap.size with h' | h'
  ·exact h'
  ·simp [Array.getElem?_eq_none h'] at hb
 have c1:w.drew.cell? ⟨b,1,none⟩=some (.slice (some ⟨g,0,none⟩) 0 0):=by
  have:w.drew.heap[b]? = some (.cells #[pv,.slice (some ⟨g,0,none⟩) 0 0] 58 (0,0)):=hb;rw [Lib.cell_of_heap this]; rfl
 have hSD:(Builtin.unsafeSliceData_ #[28] 109 #[.slice (some ⟨g,0,none⟩) 0 0]).run Tryz.prog w.drew = .ok (.pointer (some ⟨w.drew.heap.size,0,none⟩)) (w.drew.alloc (.view ⟨g,0,none⟩ 5)) :=
  Lib.run_unsafeSliceData_zero w.drew _ _ 5 (by kernel_rfl) ⟨g,0,none⟩ 0 (5,cs.size) (by have hg':w.drew.heap[g]? = some (.cells cs 5 (0,0)):=hg; simp [World.shape?,hg'])
 have c2:(w.drew.alloc (.view ⟨g,0,none⟩ 5)).cell? ⟨b,1,none⟩=some (.slice (some ⟨g,0,none⟩) 0 0):=by
  have:(w.drew.alloc (.view ⟨g,0,none⟩ 5)).heap[b]? = _:=(Lib.alloc_old w.drew _ b hlt).trans hb;rw [Lib.cell_of_heap this]; rfl
 have c3:(w.alloc (.view ⟨g,0,none⟩ 5)).drew.cell? ⟨b,1,none⟩=some (.slice (some ⟨g,0,none⟩) 0 0):=c2;have c0:w.cell? ⟨b,1,none⟩=some (.slice (some ⟨g,0,none⟩) 0 0):=c1;have mixed:Tryz.prog.follows .mixedOrders=true:=mixed
 go_enter Tryz.func30,Tryz.ntmps30
 go_wp2
 go_region_o
 all_goals (go_wp2; go_ret; exact ⟨rfl,by first | exact .inl rfl | exact .inr rfl⟩)
end Vx
end Go.Proofs.YthgfdbfmnbgkaaaGreatDoor
namespace Go.Proofs.YthgfdbfmnbgkaaaGreatDoor
namespace Vx
open Go.RowKit
set_option maxRecDepth 8000
def oF:List (Nat × TI):=(58,⟨true,[.oth (.pointer none),.sl 5 1],32,[(56,0),(28,1)],0⟩) :: ag
theorem Pr:∀ t ti,ai oF t=some ti->TOk Tryz.prog t ti:=rJ (by kernel_rfl)
def za:Con:={ A:=Unit,X:=Unit,n:=19,args:=fun _=>[],boxes:=fun _=>[],pre:=fun _=>False,post:=fun _ _=>True,res:=fun _ _=>.junk,fin:=fun _ _=>[],mv:=true,bld:=(1,58,28,9) }
theorem QK:Has Tryz.prog 29 za :=
 ⟨fun args w=>Go.MuLone.run_callFunc_enter Tryz.func29 (by kernel_rfl) rfl args w,fun _=>⟨(),trivial⟩,fun _ _=>rfl,fun _ h=>h.elim,
  ⟨(by kernel_rfl),fun w w1 w2 b pv v v' v2 s h1 h2 h3 h4 h5 h6 h7=>FK w w1 w2 b pv v v' v2 s h1 h2 h3 h4 h5 h6 h7⟩,.inl rfl⟩
def yS:Con:={ A:=Unit,X:=Unit,n:=14,args:=fun _=>[],boxes:=fun _=>[],pre:=fun _=>False,post:=fun _ _=>True,res:=fun _ _=>.junk,fin:=fun _ _=>[],mv:=true,bld:=(2,58,5,0) }
theorem E3:Has Tryz.prog 30 yS:=by
 refine ⟨fun args w=>Go.MuLone.run_callFunc_enter Tryz.func30 (by kernel_rfl) rfl args w,fun _=>⟨(),trivial⟩,fun _ _=>rfl,fun _ h=>h.elim,?_,.inl rfl⟩
 intro w b pv v l hb hv;rcases hv with ⟨rfl,rfl⟩ | ⟨g,cap,cs,rfl,hg,h1,h2,h3,h4⟩
 ·refine (FG w b pv hb).mono ?_;rintro e w' ⟨rfl,rfl⟩;exact ⟨rfl,Nat.le_refl _,rfl,rfl,rfl,fun x _=>.inl rfl⟩
 ·have hgl:g < w.heap.size:=(Array.getElem?_eq_some_iff.1 hg).1;by_cases h0:l=[]
  ·subst h0;by_cases hc:cap=0
   ·subst hc;refine (FH w b g pv cs hb hg).mono ?_;rintro e w' ⟨rfl,hw⟩;have hw':w'.heap=w.heap.push (.view ⟨g,0,none⟩ 5)/\w'.os=w.os/\w'.tape=w.tape/\w'.output=w.output:=by rcases hw with rfl | rfl <;> exact ⟨rfl,rfl,rfl,rfl⟩
    obtain ⟨z1,z2,z3,z4⟩:=hw';exact ⟨rfl,by rw [z1]; simp,z2,z3,z4,fun x hx=>.inl (by rw [z1,Array.getElem?_push]; simp -implicitDefEqProofs [Nat.ne_of_lt hx])⟩
   ·refine (FI w b g cap pv hb hc).mono ?_;rintro e w' ⟨rfl,rfl⟩;exact ⟨rfl,Nat.le_refl _,rfl,rfl,rfl,fun x _=>.inl rfl⟩
  ·have hl:0 < l.length:=List.length_pos_iff.2 h0;refine (FF w b g cap pv cs l hb hg h1 (by unfold maxLen at h3; omega) h0 (by omega) h4).mono ?_
   rintro e w' ⟨rfl,rfl⟩;have hn:¬ l.length=0:=by omega
   have hh:(w.drew.freeze ⟨g,0,none⟩ l.length).heap.size=w.heap.size /\ ∀ x,(w.drew.freeze ⟨g,0,none⟩ l.length).heap[x]? = if g=x then (w.heap[x]?).map (fun o=>match o with | .cells c elem (lo,hi)=>.cells c elem (if lo == hi then (0,0+l.length) else (min lo 0,max hi (0+l.length))) | o=>o) else w.heap[x]?:=by
    unfold World.freeze;rw [if_neg hn];exact ⟨by simp only [Array.size_modify]; rfl,fun x=>by simp only [Array.getElem?_modify]; rfl⟩
   refine ⟨rfl,Nat.le_of_eq hh.1.symm,by unfold World.freeze; rw [if_neg hn]; rfl,by unfold World.freeze; rw [if_neg hn]; rfl,by unfold World.freeze; rw [if_neg hn]; rfl,fun x hx=>?_⟩
   rw [hh.2 x];by_cases e:g=x
   ·subst e;rw [if_pos rfl,hg];exact .inr ⟨_,_,_,_,rfl,rfl,rfl⟩
   ·rw [if_neg e]; exact .inl rfl
theorem Od (q:List UInt8):rowsOf q=cj q:=rfl
--TAB oF
--TAB oF
structure PlainR (r:RepoD):Prop where
 com:∀ c ∈ r.commits,(∀ b ∈ c.who,32 < b.toNat)/\c.parents.length<=2/\(∀ p ∈ c.parents,0<=p/\p < 100)/\CH c.tree/\c.tree.length<=8 /\ ∀ f ∈ c.tree,f.text.length<=10
 head:∀ h ∈ r.heads,(∀ b ∈ h.name,32 < b.toNat)/\0<=h.at_/\h.at_ < 100
 nc:r.commits.length<=16
 nh:r.heads.length<=5
theorem iO {s:Str} (h:aQ s=true):∀ b ∈ s,32 < b.toNat:=by
 intro b hb;simp only [aQ,Bool.and_eq_true,List.all_eq_true] at h;have:=h.2 b hb;simp only [kj,Bool.or_eq_true,Bool.and_eq_true,decide_eq_true_eq] at this;omega
def co (k:Int):Str:=if k=1 then [115,101,116] else if k=2 then [100,114,111,112] else if k=3 then [109,111,118,101] else if k=4 then [102,111,114,107] else if k=5 then [117,110,105,116,101] else if k=6 then [112,105,99,107] else if k=7 then [98,97,99,107] else []
def bQ (t:List Str):Str:=(t.map fun l=>124 :: l).flatten
def cH (o:OpD):Str:=if o.kind=1 then o.path++32 :: bQ o.text else if o.kind=2 then o.path else if o.kind=3 then o.path++32 :: o.to_ else if o.kind=4 \/ o.kind=5 then o.to_ else aW o.at_.toNat
def ba (o:OpD):Str:=co o.kind++32 :: (o.branch++32 :: (o.who++32 :: cH o))
theorem lW {c:UInt8} {m:Nat} {r:Str}:∀ {w acc:Str} {n:Nat},c ∉ w->n < m->aO (c.toNat:Int) m (w++c :: r) acc n=(acc++w) :: aO (c.toNat:Int) m r [] (n+1)
 | [],acc,n,_,hn=>by simp [aO,hn]
 | x :: w,acc,n,h,hn=>by
  have hx:¬ (x.toNat:Int)=c.toNat:=fun e=>h (by
   have:x=c:=UInt8.toNat_inj.1 (by omega)
   simp [this])
  rw [List.cons_append,aO,if_pos hn,if_neg hx,lW (w:=w) (fun q=>h (by simp [q])) hn]
  simp
theorem qf {c:UInt8} {m:Nat}:∀ {w acc:Str} {n:Nat},c ∉ w->aO (c.toNat:Int) m w acc n=[acc++w]
 | [],acc,n,_=>by simp [aO]
 | x :: w,acc,n,h=>by
  have hx:¬ (x.toNat:Int)=c.toNat:=fun e=>h (by
   have:x=c:=UInt8.toNat_inj.1 (by omega)
   simp [this])
  rw [aO];split
  ·rename_i hm
   first
    | rw [if_neg hx,qf (w:=w) (fun q=>h (by simp [q]))]; simp
    | rw [qf (w:=w) (fun q=>h (by simp [q]))]; simp
  ·simp
theorem kV {s:Str} (h:∀ b ∈ s,32 < b.toNat):(32:UInt8) ∉ s:=fun q=>by have:=h _ q; simp at this
theorem JA (k:Int):(32:UInt8) ∉ co k:=by
 unfold co
 repeat' split
 all_goals decide
theorem qg {n:Nat} (h:n < 100):(32:UInt8) ∉ aW n:=by revert h; revert n; decide
theorem sw:∀ {t:List Str},(∀ l ∈ t,(124:UInt8) ∉ l) -> ∀ p:Str,spl 124 (bQ t) p=p :: t
 | [],_,p=>rfl
 | l :: t,h,p=>by
  have e:bQ (l :: t)=124 :: (l++bQ t):=rfl;rw [e,spl,if_pos rfl,OV (h l (by simp)),sw (fun x hx=>h x (by simp [hx]))]
  simp
theorem Fo {t:List Str} (h:∀ l ∈ t,(124:UInt8) ∉ l) (hl:t.length<=11):aA (bQ t) 124 11=[] :: t:=by
 have h1:=sw h [];have h2:=rI 124 (bQ t) [];rw [h1] at h2;simp only [List.length_cons] at h2;have h3:aO ((124:UInt8).toNat:Int) 11 (bQ t) [] 0=spl 124 (bQ t) []:=vg (by omega)
 rw [h1] at h3;exact h3
def zO:OpD:=⟨0,[],[],[],[],0,[]⟩
def aK (p:List Str->OpD) (s:Str):OpD × Bool:=if (aA s 32 4).length < 4 then (zO,false) else if opB (p (aA s 32 4))=true/\ba (p (aA s 32 4))=s then (p (aA s 32 4),true) else (zO,false)
def nR (w:List Str):Str:=if w.length=5 then w.getD 4 [] else []
def kindOf (none_:Int) (w:Str):Int:=if w=co 1 then 1 else if w=co 2 then 2 else if w=co 3 then 3 else if w=co 4 then 4 else if w=co 5 then 5 else if w=co 6 then 6 else if w=co 7 then 7 else none_
def rdS (w:List Str):OpD :=
 let k:=kindOf 0 (w.getD 0 [])
 if k=1 then ⟨1,w.getD 1 [],w.getD 2 [],w.getD 3 [],[],0,(aA (nR w) 124 11).drop 1⟩
 else if k=2 then ⟨2,w.getD 1 [],w.getD 2 [],w.getD 3 [],[],0,[]⟩
 else if k=3 then ⟨3,w.getD 1 [],w.getD 2 [],w.getD 3 [],nR w,0,[]⟩
 else if k=4 \/ k=5 then ⟨k,w.getD 1 [],w.getD 2 [],[],w.getD 3 [],0,[]⟩
 else ⟨k,w.getD 1 [],w.getD 2 [],[],[],iQ (w.getD 3 []),[]⟩
def rdI (num:Str->Int) (w:List Str):OpD :=
 let k:=if w.getD 0 []=[] then 0 else kindOf (-1) (w.getD 0 [])
 if k=1 then ⟨1,w.getD 1 [],w.getD 2 [],w.getD 3 [],[],0,if nR w=[] then [] else (spl 124 (nR w) []).drop 1⟩
 else if k=2 then ⟨2,w.getD 1 [],w.getD 2 [],w.getD 3 [],[],0,[]⟩
 else if k=3 then ⟨3,w.getD 1 [],w.getD 2 [],w.getD 3 [],nR w,0,[]⟩
 else if k=4 \/ k=5 then ⟨k,w.getD 1 [],w.getD 2 [],[],w.getD 3 [],0,[]⟩
 else if k=6 \/ k=7 then ⟨k,w.getD 1 [],w.getD 2 [],[],[],num (w.getD 3 []),[]⟩
 else ⟨k,w.getD 1 [],w.getD 2 [],[],[],0,[]⟩
theorem mp {o:OpD} (h:opB o=true):(aQ o.branch=true/\aQ o.who=true) /\
    ((∃ b w p t,o=⟨1,b,w,p,[],0,t⟩/\dg p=true/\eZ t=true) \/ (∃ b w p,o=⟨2,b,w,p,[],0,[]⟩/\dg p=true) \/ (∃ b w p q,o=⟨3,b,w,p,q,0,[]⟩/\dg p=true/\dg q=true) \/
     (∃ b w q,o=⟨4,b,w,[],q,0,[]⟩/\aQ q=true) \/ (∃ b w q,o=⟨5,b,w,[],q,0,[]⟩/\aQ q=true) \/ (∃ b w a,o=⟨6,b,w,[],[],a,[]⟩/\0<=a/\a<=15) \/ ∃ b w a,o=⟨7,b,w,[],[],a,[]⟩/\0<=a/\a<=15):=by
  obtain ⟨k,b,w,p,q,a,t⟩:=o;unfold opB fN at h;simp only [Bool.and_eq_true] at h;refine ⟨h.1,?_⟩;obtain ⟨_,h⟩:=h;split at h
  · rename_i e; simp at e h; obtain ⟨⟨⟨h1,h2⟩,h3⟩,h4⟩:=h; subst e h1 h2; exact .inl ⟨_,_,_,_,rfl,h3,h4⟩
  · split at h
    · rename_i e; simp at e h; obtain ⟨⟨⟨h1,h2⟩,h3⟩,h4⟩:=h; subst e h1 h2 h3; exact .inr (.inl ⟨_,_,_,rfl,h4⟩)
    · split at h
      · rename_i e; simp at e h; obtain ⟨⟨⟨h1,h2⟩,h3⟩,h4⟩:=h; subst e h1 h2; exact .inr (.inr (.inl ⟨_,_,_,_,rfl,h3,h4⟩))
      · split at h
        · rename_i e; simp at e h; obtain ⟨⟨⟨h1,h2⟩,h3⟩,h4⟩:=h; subst h1 h2 h3; rcases e with rfl | rfl
          · exact .inr (.inr (.inr (.inl ⟨_,_,_,rfl,h4⟩)))
          · exact .inr (.inr (.inr (.inr (.inl ⟨_,_,_,rfl,h4⟩))))
        · split at h
          · rename_i e; simp at e h; obtain ⟨⟨⟨h1,h2⟩,h3⟩,h4⟩:=h; subst h1 h2 h3; rcases e with rfl | rfl
            · exact .inr (.inr (.inr (.inr (.inr (.inl ⟨_,_,_,rfl,h4⟩)))))
            · exact .inr (.inr (.inr (.inr (.inr (.inr ⟨_,_,_,rfl,h4⟩)))))
          · simp at h
theorem xW {o:OpD} (h:aQ o.branch=true/\aQ o.who=true):aA (ba o) 32 4=co o.kind :: o.branch :: o.who :: aO 32 4 (cH o) [] 3:=by
 have h1:=kV (iO h.1);have h2:=kV (iO h.2);have h0:=JA o.kind;unfold aA ba;have e:((32:UInt8).toNat:Int)=32:=rfl;have k1:=lW (c:=32) (m:=4) (r:=o.branch++32 :: (o.who++32 :: cH o)) (acc:=[]) (n:=0) h0 (by omega)
 have k2:=lW (c:=32) (m:=4) (r:=o.who++32 :: cH o) (acc:=[]) (n:=1) h1 (by omega)
 have k3:=lW (c:=32) (m:=4) (r:=cH o) (acc:=[]) (n:=2) h2 (by omega)
 rw [e] at k1 k2 k3;rw [k1,k2,k3]; rfl
theorem Bi {t:List Str} (h:eZ t=true):(∀ l ∈ t,(124:UInt8) ∉ l)/\t.length<=10:=by
 unfold eZ bg at h;simp only [Bool.and_eq_true,decide_eq_true_eq,List.all_eq_true] at h;refine ⟨fun l hl q=>?_,h.2.1⟩;have:=h.1 l hl;unfold eB at this;rw [List.all_eq_true] at this;have:=this _ q;simp at this
theorem iJ {s:Str} (h:(32:UInt8) ∉ s):aO 32 4 s [] 3=[s]:=qf (c:=32) h
theorem p9 {s r:Str} (h:(32:UInt8) ∉ s):aO 32 4 (s++32 :: r) [] 3=[s,r]:=by
 have k:=lW (c:=32) (m:=4) (r:=r) (acc:=[]) (n:=3) h (by omega)
 have e:((32:UInt8).toNat:Int)=32:=rfl;rw [e] at k;rw [k,qe (Nat.le_refl 4)]; rfl
theorem ms {p:Str} (h:dg p=true):(32:UInt8) ∉ p:=kV (kY (by rw [gF]; exact h)).1
theorem CS {o:OpD} (h:opB o=true):rdS (aA (ba o) 32 4)=o:=by
 obtain ⟨hn,h⟩:=mp h;rw [xW hn];rcases h with ⟨b,w,p,t,rfl,h1,h2⟩ | ⟨b,w,p,rfl,h1⟩ | ⟨b,w,p,q,rfl,h1,h2⟩ | ⟨b,w,q,rfl,h1⟩ | ⟨b,w,q,rfl,h1⟩ | ⟨b,w,a,rfl,h1,h2⟩ | ⟨b,w,a,rfl,h1,h2⟩
 ·have e:cH ⟨1,b,w,p,[],0,t⟩=p++32 :: bQ t:=rfl;rw [e,p9 (ms h1)];obtain ⟨g1,g2⟩:=Bi h2;have e2:=Fo g1 (by omega)
  show (⟨1,b,w,p,[],0,(aA (bQ t) 124 11).drop 1⟩:OpD)=_
  rw [e2]; rfl
 ·have e:cH ⟨2,b,w,p,[],0,[]⟩=p:=rfl;rw [e,iJ (ms h1)]; rfl
 ·have e:cH ⟨3,b,w,p,q,0,[]⟩=p++32 :: q:=rfl;rw [e,p9 (ms h1)]; rfl
 ·have e:cH ⟨4,b,w,[],q,0,[]⟩=q:=rfl;rw [e,iJ (kV (iO h1))]; rfl
 ·have e:cH ⟨5,b,w,[],q,0,[]⟩=q:=rfl;rw [e,iJ (kV (iO h1))]; rfl
 ·have e:cH ⟨6,b,w,[],[],a,[]⟩=aW a.toNat:=rfl;rw [e,iJ (qg (by omega))]
  show (⟨6,b,w,[],[],iQ (aW a.toNat),[]⟩:OpD)=_
  rw [BJ (by omega),show ((a.toNat:Nat):Int)=a by omega]
 ·have e:cH ⟨7,b,w,[],[],a,[]⟩=aW a.toNat:=rfl;rw [e,iJ (qg (by omega))]
  show (⟨7,b,w,[],[],iQ (aW a.toNat),[]⟩:OpD)=_
  rw [BJ (by omega),show ((a.toNat:Nat):Int)=a by omega]
theorem NC {num:Str->Int} (hnum:∀ n:Nat,n < 100->num (aW n)=n) {o:OpD} (h:opB o=true):rdI num (aA (ba o) 32 4)=o:=by
 obtain ⟨hn,h⟩:=mp h;rw [xW hn];rcases h with ⟨b,w,p,t,rfl,h1,h2⟩ | ⟨b,w,p,rfl,h1⟩ | ⟨b,w,p,q,rfl,h1,h2⟩ | ⟨b,w,q,rfl,h1⟩ | ⟨b,w,q,rfl,h1⟩ | ⟨b,w,a,rfl,h1,h2⟩ | ⟨b,w,a,rfl,h1,h2⟩
 ·have e:cH ⟨1,b,w,p,[],0,t⟩=p++32 :: bQ t:=rfl;rw [e,p9 (ms h1)];obtain ⟨g1,g2⟩:=Bi h2;have e2:=sw g1 []
  show (⟨1,b,w,p,[],0,if bQ t=[] then [] else (spl 124 (bQ t) []).drop 1⟩:OpD)=_
  rw [e2];cases t with
  | nil=>rfl
  | cons l t=>rw [if_neg (by simp [bQ])]; rfl
 ·have e:cH ⟨2,b,w,p,[],0,[]⟩=p:=rfl;rw [e,iJ (ms h1)]; rfl
 ·have e:cH ⟨3,b,w,p,q,0,[]⟩=p++32 :: q:=rfl;rw [e,p9 (ms h1)]; rfl
 ·have e:cH ⟨4,b,w,[],q,0,[]⟩=q:=rfl;rw [e,iJ (kV (iO h1))]; rfl
 ·have e:cH ⟨5,b,w,[],q,0,[]⟩=q:=rfl;rw [e,iJ (kV (iO h1))]; rfl
 ·have e:cH ⟨6,b,w,[],[],a,[]⟩=aW a.toNat:=rfl;rw [e,iJ (qg (by omega))]
  show (⟨6,b,w,[],[],num (aW a.toNat),[]⟩:OpD)=_
  rw [hnum _ (by omega),show ((a.toNat:Nat):Int)=a by omega]
 ·have e:cH ⟨7,b,w,[],[],a,[]⟩=aW a.toNat:=rfl;rw [e,iJ (qg (by omega))]
  show (⟨7,b,w,[],[],num (aW a.toNat),[]⟩:OpD)=_
  rw [hnum _ (by omega),show ((a.toNat:Nat):Int)=a by omega]
theorem QI {o:OpD} (h:opB o=true):¬ (aA (ba o) 32 4).length < 4:=by
 obtain ⟨hn,_⟩:=mp h;rw [xW hn];have:0 < (aO 32 4 (cH o) [] 3).length:=by
  cases cH o with
  | nil=>simp [aO]
  | cons x r =>
   rw [aO];split
   ·split
    ·simp
    ·have g:∀ (r c:Str) (n:Nat),0 < (aO 32 4 r c n).length:=by
      intro r
      induction r with
      | nil=>intro c n; simp [aO]
      | cons x r ih =>
       intro c n;rw [aO];split
       ·split
        ·simp
        ·exact ih _ _
       ·simp
     exact g _ _ _
   ·simp
 simp only [List.length_cons];omega
theorem vK {p:List Str->OpD} (hp:∀ o,opB o=true->p (aA (ba o) 32 4)=o) {o:OpD} (h:opB o=true):aK p (ba o)=(o,true):=by
 unfold aK;rw [if_neg (QI h),hp o h,if_pos ⟨h,rfl⟩]
theorem nJ {p:List Str->OpD} {s:Str} (h:(aK p s).2=true):opB (aK p s).1=true/\ba (aK p s).1=s:=by
 unfold aK at h ⊢;split at h
 ·cases h
 ·rename_i q;rw [if_neg q];split at h
  ·rename_i g; rw [if_pos g]; exact g
  ·cases h
theorem zU {p:List Str->OpD} {s:Str} (h:(aK p s).2=false):aK p s=(zO,false):=by
 unfold aK at h ⊢;split at h
 ·rename_i q; rw [if_pos q]
 ·rename_i q;rw [if_neg q];split at h
  ·cases h
  ·rename_i g; rw [if_neg g]
theorem HE {p q:List Str->OpD} (hp:∀ o,opB o=true->p (aA (ba o) 32 4)=o) (hq:∀ o,opB o=true->q (aA (ba o) 32 4)=o) (s:Str):aK p s=aK q s:=by
 cases h1:(aK p s).2 with
 | true =>
  obtain ⟨k1,k2⟩:=nJ h1;have:=vK hq k1;rw [k2] at this;rw [this,<- h1]
 | false =>
  cases h2:(aK q s).2 with
  | true =>
   obtain ⟨k1,k2⟩:=nJ h2;have:=vK hp k1;rw [k2] at this;rw [this] at h1; cases h1
  | false=>rw [zU h1,zU h2]
set_option maxHeartbeats 4000000
def fD (n w i:Nat):List (List Int):=List.replicate i (List.replicate w 0)++List.replicate (n - i) []
theorem vS {n w i:Nat} (h:i<=n):(fD n w i).length=n:=by simp -implicitDefEqProofs [fD]; omega
theorem Ai (n w:Nat):bh (fD n w 0)=List.replicate n [D.sl 3 1 []]:=by simp -implicitDefEqProofs [fD,bh,iK]
theorem Aj (n w:Nat):fD n w n=List.replicate n (List.replicate w 0):=by simp -implicitDefEqProofs [fD]
theorem Ak {n w i:Nat} (h:i < n):(bh (fD n w i)).set i [D.sl 3 1 (List.replicate w [D.int .i64 0])]=bh (fD n w (i+1)):=by
 have e:(fD n w i).set i (List.replicate w 0)=fD n w (i+1):=by
  apply List.ext_getElem
  ·rw [List.length_set,vS (by omega),vS (by omega)]
  ·intro k h1 h2;rw [List.getElem_set];simp only [fD,List.getElem_append,List.length_replicate,List.getElem_replicate];by_cases hk:i=k
   ·subst hk; simp
   ·rw [if_neg hk];by_cases h3:k < i
    ·rw [dif_pos h3,dif_pos (by omega)]
    ·rw [dif_neg h3,dif_neg (by omega)]
 rw [<- e];simp -implicitDefEqProofs [bh,List.map_set,iK,ae,ap]
def lcA (a b:List Str):Inv:=⟨Nat,fun i=>⟨[(0,true,.sl true 1 (aa a)),(1,true,.sl true 1 (aa b)),(4,true,.nil),(5,true,.own 9 1 (bh (fD (a.length+1) (b.length+1) i))),(14,true,.int .i64 (a.length+1:Nat)),(15,true,.int .i64 i)],[(9,.own 92 1 true (bh (fD (a.length+1) (b.length+1) i)))]⟩,fun i=>i<=a.length+1,fun i=>a.length+1 - i⟩
def lcB (a b:List Str):Inv:=⟨Nat,fun p=>⟨[(0,true,.sl true 1 (aa a)),(1,true,.sl true 1 (aa b)),(4,true,.nil),(5,true,.own 9 1 (bh (aS a b p (b.length+1)))),(7,true,.int .i64 ((p:Int) - 1))],[(9,.own 92 1 true (bh (aS a b p (b.length+1))))]⟩,fun p=>p<=a.length,fun p=>p⟩
def lcC (a b:List Str) (g:Nat):Inv:=⟨Nat,fun q=>⟨[(0,true,.sl true 1 (aa a)),(1,true,.sl true 1 (aa b)),(4,true,.nil),(5,true,.own 9 1 (bh (aS a b g q))),(7,true,.int .i64 ((g:Int) - 1)),(8,true,.int .i64 ((q:Int) - 1))],[(9,.own 92 1 true (bh (aS a b g q)))]⟩,fun q=>q<=b.length/\0 < g/\g<=a.length,fun q=>q⟩
def qR (a b:List Str) (n g:Nat):Inv:=if n=3 then lcA a b else if n=8 then lcB a b else lcC a b g
theorem Kx (a b g):qR a b 3 g=lcA a b:=rfl
theorem Ky (a b g):qR a b 8 g=lcB a b:=rfl
theorem Kw (a b g):qR a b 11 g=lcC a b g:=rfl
def tW:Con:=.fn 89 (List Str × List Str) (fun a=>[.sl true 1 (aa a.1),.sl true 1 (aa a.2)]) (fun a=>a.1.length<=1048576/\a.2.length<=1048576) (fun a=>.own 8 1 (bh (aS a.1 a.2 0 0))) (fun a=>[(8,.own 92 1 true (bh (aS a.1 a.2 0 0)))])
theorem Kz:Has Tryz.prog 218 tW:=by
 refine ah mixed aw HasL.nil [0,1,4,5,6,7,8,14,15] (fun a=>qR a.1 a.2) [] Tryz.func218 (by unfold Tryz.f218; rfl) (fun _=>⟨(),trivial⟩) ?_
 intro a ha;obtain ⟨a,b⟩:=a;obtain ⟨h1,h2⟩:a.length<=1048576/\b.length<=1048576:=ha;simp (maxSteps:=4000000) [tW,Con.fn,ag,Kx,Ky,Kw,lcA,lcB,lcC]
 try dsimp only
 refine fun _=>⟨by omega,fun _ _=>⟨by omega,fun _ _ _ _=>⟨⟨0,⟨⟨Ai _ _,rfl⟩,(Ai _ _).symm⟩,Nat.zero_le _⟩,fun i hi=>⟨fun hlt _=>⟨by omega,fun _ _=>⟨by omega,fun _ _ _=>⟨by rw [vS hi]; omega,fun hx=>⟨hx,by omega,fun _ _=>⟨i+1,⟨⟨(Ak (by omega)).symm,by omega⟩,Ak (by omega)⟩,by omega,by omega⟩⟩⟩⟩⟩,fun hge _=>⟨by omega,fun _ _=>⟨⟨a.length,⟨⟨?_,rfl⟩,?_⟩,Nat.le_refl _⟩,fun p hp=>⟨fun h1p _=>⟨by omega,fun _ _=>⟨p,⟨b.length,⟨⟨?_,rfl,rfl⟩,?_⟩,Nat.le_refl _,by omega,hp⟩,fun q hq hg hga=>⟨fun hq1=>?_,fun hq0=>⟨by omega,fun _ _=>⟨p - 1,⟨⟨?_,by omega⟩,?_⟩,by omega,by omega⟩⟩⟩⟩⟩,fun hp0=>?_⟩⟩⟩⟩⟩⟩⟩
 ·rw [show i=a.length+1 by omega,Aj,rM rfl]
 ·rw [show i=a.length+1 by omega,Aj,rM rfl]
 ·rw [rL]
 ·rw [rL]
 ·obtain ⟨T,hT⟩:∃ T,T=aS a b p q:=⟨_,rfl⟩;have t1:=@rN a b p q;have t2:=kf (a:=a) (b:=b) (p:=p) (q:=q) (r:=p) (by omega)
  have t3:=kf (a:=a) (b:=b) (p:=p) (q:=q) (r:=p - 1) (by omega)
  have t4:a[p - 1]? = some a[p - 1]:=List.getElem?_eq_getElem (by omega)
  have t5:b[q - 1]? = some b[q - 1]:=List.getElem?_eq_getElem (by omega)
  have u1:=@ke a b p q p;have u2:=@ke a b p q (p - 1);have u3:(cR a b p q p)[q]? = some (lcs (a.drop p) (b.drop q)):=by rw [iZ (by omega),if_pos (by omega)]
  have u4:(cR a b p q p)[q - 1]? = some (lcs (a.drop p) (b.drop (q - 1))):=by rw [iZ (by omega),if_pos (by omega)]
  have u5:(cR a b p q (p - 1))[q]? = some (lcs (a.drop (p - 1)) (b.drop q)):=by rw [iZ (by omega),if_pos (by omega)]
  have v1:=mg (a.drop p) (b.drop q);have v2:=mg (a.drop p) (b.drop (q - 1));have v3:=mg (a.drop (p - 1)) (b.drop q);have v4:(a.drop p).length<=a.length:=by simp
  have v5:(a.drop (p - 1)).length<=a.length:=by simp
  have w1:=DD (a:=a) (b:=b) (p:=p) (q:=q) hg hga (by omega) hq
  have w2:=A7 (a:=a) (b:=b) (p:=p) (q:=q) hg hga (by omega) hq
  rw [<- hT] at t1 t2 t3 w1 ⊢;clear hT;generalize lcs (a.drop p) (b.drop q)=L11 at *;generalize lcs (a.drop p) (b.drop (q - 1))=L10 at *;generalize lcs (a.drop (p - 1)) (b.drop q)=L01 at *;generalize cR a b p q p=rB at *;generalize cR a b p q (p - 1)=rA at *;simp -implicitDefEqProofs [t1,t2,t3,t4,t5,u1,u2,u3,u4,u5,ap,ar,D.asStr,iK,D.asRows,D.asInt,and_assoc];have fin:∀ v,v=lcs (a.drop (p - 1)) (b.drop (q - 1)) -> ∃ t',bh (aS a b p t')=(bh T).set (p - 1) [D.sl 3 1 ((ae rA).set (q - 1) [D.int .i64 v])]/\(t':Int)=q - 1/\(bh T).set (p - 1) [D.sl 3 1 ((ae rA).set (q - 1) [D.int .i64 v])]=bh (aS a b p t')/\t'<=b.length/\0 < p/\p<=a.length/\t' < q :=
   fun v hv=>⟨q - 1,(w1 v hv).symm,by omega,w1 v hv,by omega,hg,hga,by omega⟩
  have fin1:=fun h=>fin (L11+1) (by rw [w2,if_pos h])
  have fin2:=fun (h:¬ a[p - 1]=b[q - 1])=>fin (if L10 < L01 then L01 else L10) (by rw [w2,if_neg h]; split <;> split <;> omega)
  clear w1 w2 fin
  repeat' (first | intro _ | apply And.intro)
  all_goals first | omega | exact fin1 (by assumption) | exact fin2 (by assumption)
 ·rw [show q=0 by omega,rO (by omega)]
 ·rw [show q=0 by omega,rO (by omega)]
 ·rw [show p=0 by omega,DE]; exact ⟨rfl,rfl⟩
def maI (a b:List Str):Inv:=⟨Nat × Nat × List Int,fun t=>⟨[(0,true,.sl true 1 (aa a)),(1,true,.sl true 1 (aa b)),(4,true,.nil),(5,true,.own 9 1 (bh (aS a b 0 0))),(6,true,.own 10 1 (ae t.2.2)),(8,true,.int .i64 t.2.1),(7,true,.int .i64 t.1)],[(9,.own 92 1 true (bh (aS a b 0 0))),(10,.own 3 1 true (ae t.2.2))]⟩,
 fun t=>t.1<=a.length/\t.2.1<=b.length/\t.2.2.length=t.1/\t.2.2++mt (a.drop t.1) (b.drop t.2.1) t.2.1=mt a b 0,fun t=>(a.length - t.1)+(b.length - t.2.1)⟩
def pQ:Con:=.fn 72 (List Str × List Str) (fun a=>[.sl true 1 (aa a.1),.sl true 1 (aa a.2)]) (fun a=>a.1.length<=1048576/\a.2.length<=1048576) (fun a=>.own 8 1 (ae (mt a.1 a.2 0))) (fun a=>dY 8 (mt a.1 a.2 0))
theorem Br:Has Tryz.prog 168 pQ:=by
 refine ah mixed aw (HasL.cons Kz HasL.nil) [0,1,4,5,6,7,8] ((fun a n (_:Nat)=>(fun a _=>maI a.1 a.2) a n)) [] Tryz.func168 (by unfold Tryz.f168; rfl) (fun _=>⟨(),trivial⟩) ?_
 intro a ha;obtain ⟨a,b⟩:=a;obtain ⟨h1,h2⟩:a.length<=1048576/\b.length<=1048576:=ha;simp (maxSteps:=4000000) [pQ,tW,Con.fn,ag,maI]
 try dsimp only
 refine ⟨a,b,⟨rfl,rfl⟩,⟨h1,h2⟩,⟨0,0,[],⟨⟨rfl,rfl,rfl,rfl⟩,rfl,rfl⟩,Nat.zero_le _,Nat.zero_le _,rfl,by simp⟩,fun i k out hi hk hl hm _=>⟨fun hlt=>?_,fun hge=>?_⟩⟩
 ·have t1:=@rN a b 0 0;have t2:=kf (a:=a) (b:=b) (p:=0) (q:=0) (r:=i) (by omega)
  have t3:=kf (a:=a) (b:=b) (p:=0) (q:=0) (r:=i+1) (by omega)
  have u1:=@ke a b 0 0 i;have u2:=@ke a b 0 0 (i+1);have t4:a[i]? = some a[i]:=List.getElem?_eq_getElem hlt;have m0:=BC (a:=a) (b:=b) (i:=i) (k:=k) hlt;rcases Nat.lt_or_ge k b.length with hkb | hkb
  ·have t5:b[k]? = some b[k]:=List.getElem?_eq_getElem hkb;have u3:(cR a b 0 0 (i+1))[k]? = some (lcs (a.drop (i+1)) (b.drop k)):=by rw [iZ (by omega),if_pos (by omega)]
   have u4:(cR a b 0 0 i)[k+1]? = some (lcs (a.drop i) (b.drop (k+1))):=by rw [iZ (by omega),if_pos (by omega)]
   have m1:=BD (a:=a) (b:=b) (i:=i) (k:=k) hlt hkb;generalize aS a b 0 0=T at *;generalize cR a b 0 0 i=rA at *;generalize cR a b 0 0 (i+1)=rB at *;generalize lcs (a.drop (i+1)) (b.drop k)=L1 at *;generalize lcs (a.drop i) (b.drop (k+1))=L2 at *;have g1:¬ (k:Int)=b.length:=by omega
   have g3:¬ b.length<=k:=by omega
   obtain ⟨_,u6⟩:=List.getElem?_eq_some_iff.1 u4;simp -implicitDefEqProofs [hkb,g1,g3,t1,t2,t3,t4,t5,u1,u2,u3,u4,u6,ap,ar,D.asStr,iK,D.asRows,D.asInt,and_assoc];refine ⟨hlt,fun _=>⟨fun e=>⟨by omega,by omega,by omega,by omega,fun _ _=>⟨by omega,by omega,fun _ _=>⟨i+1,k+1,out++[(k:Int)],gL _ _,by omega,by omega,(gL _ _).symm,by omega,by omega,by simp -implicitDefEqProofs [hl],?_,by omega⟩⟩⟩,fun e=>⟨by omega,by omega,fun _ _=>⟨by omega,hlt,fun _ _=>⟨by omega,fun _=>⟨by omega,fun _=>⟨by omega,by omega,fun _ _=>⟨by omega,fun _=>⟨fun c=>⟨by omega,by omega,by omega,by omega,fun _ _=>⟨i+1,k,out++[-1],gL _ _,by omega,by omega,(gL _ _).symm,by omega,by omega,by simp -implicitDefEqProofs [hl],?_,by omega⟩⟩,fun c=>⟨by omega,by omega,fun _ _=>⟨i,k+1,by omega,by omega,by omega,by omega,hl,?_,by omega⟩⟩⟩⟩⟩⟩⟩⟩⟩⟩⟩
   ·rw [<- hm,m1,if_pos e]; simp
   ·rw [<- hm,m1,if_neg e,if_pos c]; simp
   ·rw [<- hm,m1,if_neg e,if_neg (by omega)]
  ·have g1:¬ k < b.length:=by omega
   have g2:(k:Int)=b.length:=by omega
   simp -implicitDefEqProofs [hkb,g1,g2,t4,ar,D.asStr,and_assoc];refine ⟨by omega,by omega,by omega,by omega,fun _ _=>⟨i+1,k,out++[-1],gL _ _,by omega,by omega,(gL _ _).symm,by omega,by omega,by simp -implicitDefEqProofs [hl],?_,by omega⟩⟩
   rw [<- hm,m0 (by omega)]; simp
 ·rw [List.drop_eq_nil_of_le hge,mt,List.append_nil] at hm;exact ⟨hm.symm,hm⟩
def lnP (l:List Str):PartD:=⟨false,l,[],[],[]⟩
def xr (a:List Str × List PartD):List (Nat × Blk):=[(0,.box 258 [.own 8 5 (aG (bE a.2 (lnP a.1)))]),(8,.own 278 5 true (aG (bE a.2 (lnP a.1))))]
def uB:Con:={ A:=List Str × List PartD,X:=Unit,n:=36,args:=fun a=>[.sl true 1 (aa a.1),.ptr 0 0],boxes:=fun a=>[(0,258,[.own 1 5 (aG a.2)])],pre:=fun a=>a.1.length<=1073741824/\a.2.length<=1048576 /\ ∀ q ∈ a.2,q.lines.length<=1073741824,post:=fun _ _=>True,res:=fun _ _=>.tup [],fin:=fun a _=>xr a,owns:=fun a=>[(1,278,5,aG a.2)],nob:=false,mv:=true }
theorem N4:Has Tryz.prog 303 uB:=by
 refine ah mixed aw HasL.nil [0,1,3] ((fun a n (_:Nat)=>(fun _=>az) a n)) [12287,12321,16409,16410] Tryz.func303 (by unfold Tryz.f303; rfl) (fun _=>⟨(),trivial⟩) ?_
 intro a ha;obtain ⟨x,l⟩:=a;obtain ⟨h1,h2,h3⟩:x.length<=1073741824/\l.length<=1048576 /\ ∀ q ∈ l,q.lines.length<=1073741824:=ha;simp -implicitDefEqProofs [uB,xr,Con.fn,ag]
 try dsimp only
 have f:∀ (t:List Str),∀ x ∈ aa t,∀ d ∈ x,match d with | .sl _ _ _=>False | _=>True:=fun t=>(eStrs_flat t).mpr trivial
 have sn:∀ k:List PartD,aG k++[[D.bool false,D.sl 9 1 (aa x),D.sl 9 1 [],D.sl 9 1 [],D.sl 9 1 []]]=aG (k++[lnP x]):=fun k=>by simp -implicitDefEqProofs [aG,cX,lnP]
 rw [sn];have hlc:(lnP x).clash=false:=rfl;have hll:(lnP x).lines=x:=rfl;have e0:x=[]->bE l (lnP x)=l:=fun h=>ju hlc (by rw [hll]; exact h)
 rcases List.eq_nil_or_concat l with rfl | ⟨m,q,rfl⟩
 ·have e4:¬ x=[]->bE [] (lnP x)=[lnP x]:=fun h=>jv (by rw [hll]; simp -implicitDefEqProofs [h])
  clear hll hlc;simp
  repeat' (first | intro _ | apply And.intro)
  all_goals first | omega | exact f _ | exact f _ _ (by assumption) _ (by assumption) | exact e0 (by assumption) | exact (e0 (by assumption)).symm | exact e4 (by assumption) | exact (e4 (by assumption)).symm
 ·have he:∀ r,(aG m++[r])[m.length]? = some r:=fun r=>by rw [List.getElem?_append_right (by simp)]; simp
  have hs:∀ r,(aG (m++[q])).set m.length r=aG m++[r]:=fun r=>by simp -implicitDefEqProofs [aG]
  have hq:(m++[q])[m.length]? = some q:=by simp
  have hql:=h3 q (by simp)
  have ee:∀ r r',(aG m++[r]=aG (m++[r']))=(r=cX r'):=fun r r'=>by simp -implicitDefEqProofs [aG]
  have h2:m.length+1<=1048576:=by simpa using h2
  have e1:q.clash=false -> ¬ x=[]->bE (m++[q]) (lnP x)=m++[⟨q.clash,q.lines++x,q.old,q.one,q.two⟩]:=fun h h'=>oe h hlc (by rw [hll]; exact h')
  have e2:q.clash=true -> ¬ x=[]->bE (m++[q]) (lnP x)=m++[q]++[lnP x]:=fun h h'=>og h (by rw [hll]; simp -implicitDefEqProofs [h'])
  clear hll hlc;rw [List.concat_eq_append] at e0;simp -implicitDefEqProofs [he,hs,cX,D.asBool,D.asRows]
  repeat' (first | intro _ | apply And.intro)
  all_goals first | omega | exact f _ | exact f _ _ (by assumption) _ (by assumption) | exact e0 (by assumption) | exact (e0 (by assumption)).symm | (rw [e1 (by assumption) (by assumption)]; simp -implicitDefEqProofs [aG,cX,aa]; done) | (rw [e2 (by assumption) (by assumption)]; simp; done)
def moI (o a b:List Str):Inv:=⟨Nat × S3,fun x=>⟨[(0,true,.sl true 1 (aa o)),(1,true,.sl true 1 (aa a)),(2,true,.sl true 1 (aa b)),(6,true,.nil),(7,true,.own 11 1 (ae (mtE o a))),(8,true,.own 12 1 (ae (mtE o b))),(9,true,.ptr 10 0),(10,true,.clo 303 [.ptr 10 0]),(11,true,.int .i64 x.2.io),(12,true,.int .i64 x.2.ia),(13,true,.int .i64 x.2.ib),(34,true,.int .i64 (o.length+1:Nat)),(35,true,.int .i64 x.1)],
 [(10,.box 258 [.own 9 5 (aG x.2.out)]),(9,.own 278 5 true (aG x.2.out)),(11,.own 3 1 true (ae (mtE o a))),(12,.own 3 1 true (ae (mtE o b)))]⟩,fun x=>x.1<=o.length+1/\x.2=cV o a b x.1,fun x=>o.length+1 - x.1⟩
def uc:Con:=.fn 122 (List Str × List Str × List Str) (fun a=>[.sl true 1 (aa a.1),.sl true 1 (aa a.2.1),.sl true 1 (aa a.2.2)]) (fun a=>a.1.length<=100000/\a.2.1.length<=100000/\a.2.2.length<=100000) (fun a=>.own 8 5 (aG (of3 a.1 a.2.1 a.2.2))) (fun a=>xa 8 (of3 a.1 a.2.1 a.2.2))
theorem Li:Has Tryz.prog 301 uc:=by
 refine ah mixed aw (HasL.cons Br (HasL.cons pY (HasL.cons vm (HasL.cons N4 HasL.nil)))) [0,1,2,6,7,8,9,10,11,12,13,14,15,16,17,34,35] ((fun a n (_:Nat)=>(fun a _=>moI a.1 a.2.1 a.2.2) a n)) [76] Tryz.func301 (by unfold Tryz.f301; rfl) (fun _=>⟨(),trivial⟩) ?_
 intro a ha;obtain ⟨o,a,b⟩:=a;obtain ⟨h1,h2,h3⟩:o.length<=100000/\a.length<=100000/\b.length<=100000:=ha;have sn:∀ x:List Str,ae (mt o x 0)++[[D.int .i64 x.length]]=ae (mtE o x):=fun x=>by simp -implicitDefEqProofs [mtE,ae,ap]
 simp (maxSteps:=8000000) [-kStep_move,-Bool.exists_bool,uc,pQ,lK,mX,uB,xr,Con.fn,ag,moI,sn]
 try dsimp only
 refine ⟨o,a,⟨rfl,rfl⟩,⟨by omega,by omega⟩,fun _=>⟨by rw [jm]; omega,o,b,⟨rfl,rfl⟩,⟨by omega,by omega⟩,fun _=>⟨by rw [jm]; omega,fun _=>⟨⟨0,⟨⟨(sn a).symm,(sn b).symm,rfl,rfl,rfl,by rw [jm],rfl⟩,rfl,sn a,sn b⟩,Nat.zero_le _⟩,fun i hi=>⟨fun hlt=>?_,fun hge=>?_⟩⟩⟩⟩⟩
 ·have hi2:i < o.length+1:=by omega
  have R:cV o a b (i+1)=jy o a b ((mtE o a).getD i 0) ((mtE o b).getD i 0) i (cV o a b i):=rfl;obtain ⟨k1,k2,k3,k4,k5,k6,k7⟩:=nW o a b i (by omega)
  have la:=mj o a;have lb:=mj o b;have ha1:i < (mtE o a).length:=by omega
  have hb1:i < (mtE o b).length:=by omega
  have ga:(mtE o a).getD i 0=(mtE o a)[i]:=by simp -implicitDefEqProofs [List.getD_eq_getElem?_getD,ha1]
  have gb:(mtE o b).getD i 0=(mtE o b)[i]:=by simp -implicitDefEqProofs [List.getD_eq_getElem?_getD,hb1]
  have e1:Option.map ap (mtE o a)[i]? = some (ap (mtE o a)[i]):=by simp -implicitDefEqProofs [ha1]
  have e2:Option.map ap (mtE o b)[i]? = some (ap (mtE o b)[i]):=by simp -implicitDefEqProofs [hb1]
  have k4:=lH (l:=mtE o a) ha1 k4;have k5:=lH (l:=mtE o b) hb1 k5;rw [ga,gb] at R;rw [e1,e2];generalize (mtE o a)[i]=x at *;generalize (mtE o b)[i]=y at *;have kx:0<=x->((cV o a b i).ia:Int)<=x/\x<=a.length:=fun h=>by rcases k4 with k4 | k4 <;> omega
  have ky:0<=y->((cV o a b i).ib:Int)<=y/\y<=b.length:=fun h=>by rcases k5 with k5 | k5 <;> omega
  clear k4 k5;generalize cV o a b i=s at *;have tk:∀ (l:List Str) (p q:Nat),List.take (q - p) (List.drop p (aa l))=aa ((l.take q).drop p):=fun l p q=>by rw [List.drop_take]; simp -implicitDefEqProofs [aa]
  have tk1:∀ (h:i < o.length),List.take 1 (List.drop i (aa o))=aa [o.getD i []]:=fun h=>by
   have:=tk o i (i+1);rw [show i+1 - i=1 by omega] at this
   rw [this]
   congr 1
   rw [aX h,List.drop_append_of_le_length (by simp; omega)]
   simp -implicitDefEqProofs [h,List.getD_eq_getElem?_getD]
  have ln:∀ (l:List Str) (p q:Nat),((l.take q).drop p).length<=l.length:=fun l p q=>by simp; omega
  generalize hO:(o.take i).drop s.io=O at *;generalize hA:(a.take x.toNat).drop s.ia=A at *;generalize hB:(b.take y.toNat).drop s.ib=B at *;have lO:O.length<=100000:=by rw [<- hO]; have:=ln o s.io i; omega
  have lA:A.length<=100000:=by rw [<- hA]; have:=ln a s.ia x.toNat; omega
  have lB:B.length<=100000:=by rw [<- hB]; have:=ln b s.ib y.toNat; omega
  have R0:(x < 0 \/ y < 0)->cV o a b (i+1)=s:=fun h=>by rw [R]; unfold jy; rw [if_pos h]
  have R1:0<=x->0<=y->cV o a b (i+1)=⟨i+1,x.toNat+1,y.toNat+1,if i < o.length then bE (bE s.out (bj O A B)) ⟨false,[o.getD i []],[],[],[]⟩ else bE s.out (bj O A B)⟩:=fun h h'=>by rw [R]; unfold jy; rw [if_neg (by omega),hO,hA,hB]
  clear R;have T:∀ (p:PartD),p.lines.length<=100000->(bE s.out p).length<=1048576 /\ ∀ q ∈ bE s.out p,q.lines.length<=1073741824:=fun p hp=>by
   have b1:=rt s.out p;exact ⟨by omega,fun q hq=>by have:=rq k7 q hq; omega⟩
  have k7':∀ q ∈ s.out,q.lines.length<=1073741824:=fun q hq=>by have:=k7 q hq; omega
  simp -implicitDefEqProofs [ap,D.asInt,ha1,hb1,tk];refine ⟨fun h=>⟨⟨by omega,by omega⟩,fun _ _=>⟨i+1,s,⟨⟨rfl,rfl,rfl,by omega⟩,rfl,rfl⟩,⟨by omega,(R0 h).symm⟩,by omega⟩⟩,fun hx hy=>⟨⟨k1,by omega⟩,fun _ hio=>⟨kx hx,fun _ _=>⟨ky hy,fun _ _=>?_⟩⟩⟩⟩
  have R1:=R1 hx hy;have F:∀ out',out'=(cV o a b (i+1)).out -> ∃ (n:Nat) (t:S3),(((t.io:Int)=i+1/\(t.ia:Int)=x+1/\(t.ib:Int)=y+1/\(n:Int)=i+1)/\t.out=out'/\out'=t.out)/\(n<=o.length+1/\t=cV o a b n)/\o.length+1 - n < o.length+1 - i:=fun out' h =>
   ⟨i+1,cV o a b (i+1),⟨⟨by rw [R1]; simp,by rw [R1]; simp; omega,by rw [R1]; simp; omega,by omega⟩,h.symm,h⟩,⟨by omega,rfl⟩,by omega⟩
  have R2:i < o.length->bE (bE s.out (bj O A B)) (lnP [o.getD i []])=(cV o a b (i+1)).out:=fun h=>by rw [R1]; simp only [if_pos h]; rfl
  have R3:o.length<=i->bE s.out (bj O A B)=(cV o a b (i+1)).out:=fun h=>by rw [R1]; simp only [if_neg (show ¬ i < o.length by omega)]
  clear R1 R0;rw [hO,hA,hB];refine ⟨A,O,⟨rfl,rfl⟩,A,B,⟨rfl,rfl⟩,fun hc=>?_,fun c1 c2=>⟨B,O,⟨rfl,rfl⟩,fun c3=>?_,fun c3=>?_⟩⟩
  ·have hp:bj O A B=lnP B:=by unfold bj; rw [if_pos hc]; rfl
   rw [hp] at R2 R3;have T:=T (lnP B) lB;exact ⟨⟨by omega,by omega,k7'⟩,fun _=>⟨fun h=>⟨⟨by omega,by omega⟩,fun _ _=>⟨⟨by omega,by omega⟩,fun _ _=>⟨[o.getD i []],(tk1 h).symm,⟨by simp,T.1,T.2⟩,⟨by omega,by omega⟩,fun _ _=>⟨⟨by omega,by omega⟩,fun _ _=>⟨⟨by omega,by omega⟩,fun _ _=>⟨⟨by omega,by omega⟩,fun _ _=>F _ (R2 h)⟩⟩⟩⟩⟩⟩,
    fun h=>⟨⟨by omega,by omega⟩,fun _ _=>⟨⟨by omega,by omega⟩,fun _ _=>⟨⟨by omega,by omega⟩,fun _ _=>⟨⟨by omega,by omega⟩,fun _ _=>F _ (R3 h)⟩⟩⟩⟩⟩⟩
  ·have hp:bj O A B=lnP A:=by unfold bj; rw [if_neg (by rintro (q | q); exact c1 q; exact c2 q),if_pos c3]; rfl
   rw [hp] at R2 R3;have T:=T (lnP A) lA;exact ⟨⟨by omega,by omega,k7'⟩,fun _=>⟨fun h=>⟨⟨by omega,by omega⟩,fun _ _=>⟨⟨by omega,by omega⟩,fun _ _=>⟨[o.getD i []],(tk1 h).symm,⟨by simp,T.1,T.2⟩,⟨by omega,by omega⟩,fun _ _=>⟨⟨by omega,by omega⟩,fun _ _=>⟨⟨by omega,by omega⟩,fun _ _=>⟨⟨by omega,by omega⟩,fun _ _=>F _ (R2 h)⟩⟩⟩⟩⟩⟩,
    fun h=>⟨⟨by omega,by omega⟩,fun _ _=>⟨⟨by omega,by omega⟩,fun _ _=>⟨⟨by omega,by omega⟩,fun _ _=>⟨⟨by omega,by omega⟩,fun _ _=>F _ (R3 h)⟩⟩⟩⟩⟩⟩
  ·have hp:bj O A B=⟨true,[],O,A,B⟩:=by unfold bj; rw [if_neg (by rintro (q | q); exact c1 q; exact c2 q),if_neg c3]
   have sn2:aG s.out++[[D.bool true,D.sl 9 1 [],D.sl 9 1 (aa O),D.sl 9 1 (aa A),D.sl 9 1 (aa B)]]=aG (bE s.out (bj O A B)):=by rw [hp,oh rfl,G0]; rfl
   have T:=T (bj O A B) (by rw [hp]; simp)
   exact ⟨by omega,by omega,by omega,⟨by omega,by omega⟩,fun _=>⟨fun h=>⟨⟨by omega,by omega⟩,fun _ _=>⟨⟨by omega,by omega⟩,fun _ _=>⟨[o.getD i []],(tk1 h).symm,bE s.out (bj O A B),sn2.symm,sn2,⟨by simp,T.1,T.2⟩,⟨by omega,by omega⟩,fun _ _=>⟨⟨by omega,by omega⟩,fun _ _=>⟨⟨by omega,by omega⟩,fun _ _=>⟨⟨by omega,by omega⟩,fun _ _=>F _ (R2 h)⟩⟩⟩⟩⟩⟩,
    fun h=>⟨⟨by omega,by omega⟩,fun _ _=>⟨⟨by omega,by omega⟩,fun _ _=>⟨⟨by omega,by omega⟩,fun _ _=>⟨⟨by omega,by omega⟩,fun _ _=>by
     obtain ⟨n,t,⟨q1,q2,q3⟩,q4⟩:=F _ (R3 h);exact ⟨n,t,⟨q1,by rw [sn2,q2],by rw [sn2,q2]⟩,q4⟩⟩⟩⟩⟩⟩⟩
 ·have:i=o.length+1:=by omega
  subst this;exact ⟨rfl,rfl⟩
--TAB dA
def uf:Con:=.fn 4 PartD (fun q=>[.agg [.bool q.clash,.sl true 1 (aa q.lines),.sl true 1 (aa q.old),.sl true 1 (aa q.one),.sl true 1 (aa q.two)]]) (fun _=>True) (fun _=>.tup [.sl true 1 [],.bool false]) (fun _=>[])
theorem Lo:Has Tryz.prog 288 uf:=by
 refine ah mixed fw HasL.nil [0,2,3] ((fun a n (_:Nat)=>(fun _=>az) a n)) [] Tryz.func288 (by unfold Tryz.f288; rfl) (fun _=>⟨(),trivial⟩) ?_
 intro (q:PartD) _;simp -implicitDefEqProofs [uf,Con.fn,dA,ag]
theorem LI {o a b:List Str} (h1:bg o=true) (h2:bg a=true) (h3:bg b=true):(of3 o a b).length<=22 /\ ∀ q ∈ of3 o a b,q.lines.length<=33:=by
 obtain ⟨k1,k2,k3,_,_,k6,k7⟩:=nW o a b (o.length+1) (Nat.le_refl _);have l1:=lq h1;have l2:=lq h2;have l3:=lq h3;refine ⟨?_,fun q hq=>?_⟩
 ·show (cV o a b (o.length+1)).out.length<=22
  omega
 ·have:=k7 q hq;omega
theorem Bg {l:List PartD} {n:Nat} (h:∀ q ∈ l,q.lines.length<=n):∀ i,i<=l.length->(cF l i).length<=i * n
 | 0,_=>by simp -implicitDefEqProofs [cF]
 | i+1,hi=>by
  have e:cF l (i+1)=cF l i++l[i].lines:=by unfold cF; rw [aX (show i < l.length by omega),List.flatMap_append]; simp
  have h1:=h l[i] (List.getElem_mem _);have h2:=Bg h i (by omega)
  rw [e,List.length_append,Nat.succ_mul]; omega
def fe (o a b:List Str):List Str × Bool:=if bg o && bg a && bg b then dd (of3 o a b) else ([],false)
def ue:Con:=.fn 51 (List Str × List Str × List Str) (fun a=>[.sl true 1 (aa a.1),.sl true 1 (aa a.2.1),.sl true 1 (aa a.2.2),.clo 288 []]) (fun a=>True) (fun a=>.tup [.own 8 1 (aa (fe a.1 a.2.1 a.2.2).1),.bool (fe a.1 a.2.1 a.2.2).2]) (fun a=>dN 8 (fe a.1 a.2.1 a.2.2).1)
theorem Lk:Has Tryz.prog 287 ue:=by
 refine ah mixed fw (HasL.cons ES (HasL.cons Li (HasL.cons Lo (HasL.cons rP HasL.nil)))) [0,1,2,3,8,9,10,12,13,14,15,24,25,26] ((fun a n (_:Nat)=>(fun a _=>⟨Nat,fun i=>⟨[(3,true,.clo 288 []),(8,true,.nil),(9,true,.bool false),(10,true,.own 9 1 (aa (cF (of3 a.1 a.2.1 a.2.2) i))),(24,true,.own 10 5 (aG (of3 a.1 a.2.1 a.2.2))),(25,true,.int .i64 (of3 a.1 a.2.1 a.2.2).length),(26,true,.int .i64 i)],[(9,.own 9 1 true (aa (cF (of3 a.1 a.2.1 a.2.2) i))),(10,.own 278 5 true (aG (of3 a.1 a.2.1 a.2.2)))]⟩,fun i=>i<=(of3 a.1 a.2.1 a.2.2).length/\((of3 a.1 a.2.1 a.2.2).take i).any (·.clash)=false/\bg a.1=true/\bg a.2.1=true/\bg a.2.2=true,fun i=>(of3 a.1 a.2.1 a.2.2).length - i⟩) a n)) [] Tryz.func287 (by unfold Tryz.f287; rfl) (fun _=>⟨(),trivial⟩) ?_
 intro a _;obtain ⟨o,a,b⟩:=a;simp (maxSteps:=8000000) -implicitDefEqProofs [-kStep_move,-Bool.exists_bool,ue,sM,uc,uf,lT,Con.fn,dA,ag]
 try dsimp only
 have f:∀ (t:List Str),∀ x ∈ aa t,∀ d ∈ x,match d with | .sl _ _ _=>False | _=>True:=fun t=>(eStrs_flat t).mpr trivial
 have m0:(bg o=false \/ bg a=false) \/ bg b=false->fe o a b=([],false):=fun h=>by unfold fe; rw [if_neg]; rcases h with (h | h) | h <;> simp -implicitDefEqProofs [h]
 refine ⟨o,a,b,⟨rfl,rfl,rfl⟩,fun h=>by rw [m0 h]; exact ⟨⟨rfl,rfl⟩,rfl⟩,fun b1 b2 b3=>?_⟩
 have m1:fe o a b=dd (of3 o a b):=by unfold fe; rw [b1,b2,b3]; rfl
 obtain ⟨d1,d2⟩:=LI b1 b2 b3;have l1:=lq b1;have l2:=lq b2;have l3:=lq b3;rw [m1];clear m0 m1;refine ⟨o,a,b,⟨rfl,rfl,rfl⟩,⟨by omega,by omega,by omega⟩,fun _=>?_⟩
 generalize of3 o a b=l at *;have ll:=Bg d2;have hn0:(∃ q ∈ l,q.clash=true)->dd l=([],false):=fun ⟨q,h,h'⟩=>by unfold dd; rw [if_pos (by simp; exact ⟨q,h,h'⟩)]
 have hn1:(∀ q ∈ l,q.clash=false)->bg (cF l l.length)=false->dd l=([],false):=fun h h'=>by unfold dd cF at *; rw [List.take_length] at h'; rw [if_neg (by simp; exact h),if_neg (by simp -implicitDefEqProofs [h'])]
 have hn2:(∀ q ∈ l,q.clash=false)->bg (cF l l.length)=true->dd l=(cF l l.length,true):=fun h h'=>by unfold dd cF at *; rw [List.take_length] at *; rw [if_neg (by simp; exact h),if_pos h']
 refine ⟨⟨0,⟨⟨rfl,rfl,rfl,rfl⟩,rfl,rfl⟩,Nat.zero_le _,by simp,b1,b2,b3⟩,fun t ht hc c1 c2 c3=>⟨fun hlt=>⟨hlt,fun _=>?_⟩,fun hge=>?_⟩⟩
 ·have e:cF l (t+1)=cF l t++l[t].lines:=by unfold cF; rw [aX hlt,List.flatMap_append]; simp
  have q1:=d2 l[t] (List.getElem_mem hlt);have q2:=ll t ht;have q3:l[t] ∈ l:=List.getElem_mem hlt;have q4:∀ x ∈ l.take (t+1),x ∈ l.take t \/ x=l[t]:=fun x hx=>by rw [aX hlt] at hx; exact (List.mem_append.1 hx).imp id (fun h=>List.mem_singleton.1 h)
  have qq:Option.map cX l[t]? = some (cX l[t]):=by simp -implicitDefEqProofs [hlt]
  rw [qq];generalize l[t]=q at *;simp -implicitDefEqProofs [cX];refine ⟨fun h=>(by rw [hn0 ⟨q,q3,h⟩]; exact ⟨⟨rfl,rfl⟩,rfl⟩),fun h=>⟨f _,⟨by omega,by omega⟩,⟨by omega,by omega⟩,fun _ _=>⟨t+1,⟨⟨by rw [e,br],by omega⟩,by rw [e,br]⟩,⟨by omega,fun x hx=>(q4 x hx).elim (hc x) (fun hx=>hx ▸ h),c1,c2,c3⟩,by omega⟩⟩⟩
 ·have:t=l.length:=by omega
  subst this;rw [List.take_length] at hc;exact ⟨fun h=>by rw [hn1 hc h]; exact ⟨⟨rfl,rfl⟩,rfl⟩,fun h=>by rw [hn2 hc h]; exact ⟨⟨rfl,rfl⟩,rfl⟩⟩
def ud:Con:=.fn 14 (List Str × List Str × List Str) (fun a=>[.sl true 1 (aa a.1),.sl true 1 (aa a.2.1),.sl true 1 (aa a.2.2)]) (fun a=>True) (fun a=>.tup [.own 8 1 (aa (fe a.1 a.2.1 a.2.2).1),.bool (fe a.1 a.2.1 a.2.2).2]) (fun a=>dN 8 (fe a.1 a.2.1 a.2.2).1)
theorem Lj:Has Tryz.prog 263 ud:=by
 refine ah mixed fw (HasL.cons Lk HasL.nil) [0,1,2,6,7] ((fun a n (_:Nat)=>(fun _=>az) a n)) [] Tryz.func263 (by unfold Tryz.f263; rfl) (fun _=>⟨(),trivial⟩) ?_
 intro a _;obtain ⟨o,a,b⟩:=a;simp (maxSteps:=8000000) -implicitDefEqProofs [ud,ue,Con.fn,dA,ag]
 try dsimp only
 exact ⟨o,a,b,⟨rfl,rfl,rfl⟩,⟨rfl,rfl⟩,rfl⟩
def fL (o a b:List Str × Bool):(List Str × Bool) × Int :=
 if mF a o || mF a b then (b,0) else if mF b o then (a,0) else if !a.2 || !b.2 then (o,1) else if !o.2 then (o,2)
 else if (fe o.1 a.1 b.1).2 then ((( fe o.1 a.1 b.1).1,true),0) else (o,3)
def vW (a:(List Str × Bool) × (List Str × Bool) × (List Str × Bool)):List (Nat × Nat × Nat × List (List D)):=[(0,9,1,aa a.1.1),(1,9,1,aa a.2.1.1),(2,9,1,aa a.2.2.1)]
def vV (a:(List Str × Bool) × (List Str × Bool) × (List Str × Bool)):List AV:=[.agg [.own 0 1 (aa a.1.1),.bool a.1.2],.agg [.own 1 1 (aa a.2.1.1),.bool a.2.1.2],.agg [.own 2 1 (aa a.2.2.1),.bool a.2.2.2]]
def tg:Con:={ A:=(List Str × Bool) × (List Str × Bool) × (List Str × Bool),X:=Unit,n:=55,args:=vV,boxes:=fun _=>[],pre:=fun _=>True,post:=fun _ _=>True,res:=fun a _=>.tup [.agg [.own 8 1 (aa (fL a.1 a.2.1 a.2.2).1.1),.bool (fL a.1 a.2.1 a.2.2).1.2],.int .i64 (fL a.1 a.2.1 a.2.2).2],fin:=fun a _=>[(8,.own 9 1 true (aa (fL a.1 a.2.1 a.2.2).1.1))],owns:=vW,mv:=true }
theorem IC:Has Tryz.prog 227 tg:=by
 refine ah mixed fw (HasL.cons HQ (HasL.cons Lj HasL.nil)) [0,1,2,3,4,5,6,7,8,9] ((fun a n (_:Nat)=>(fun _=>az) a n)) [] Tryz.func227 (by unfold Tryz.f227; rfl) (fun _=>⟨(),trivial⟩) ?_
 intro a _;obtain ⟨⟨o,p⟩,⟨a,q⟩,b,r⟩:=a;simp (maxSteps:=8000000) -implicitDefEqProofs [-kStep_move,-kStepC_move,-Bool.exists_bool,tg,vV,vW,s7,ud,Con.fn,dA,ag]
 try dsimp only
 have fin:∀ (x:(List Str × Bool) × Int) (t:List Str) (d:Bool) (n:Int),x=((t,d),n)->((x.1.1=t/\x.1.2=d)/\x.2=n)/\t=x.1.1:=fun x t d n h=>by subst h; exact ⟨⟨⟨rfl,rfl⟩,rfl⟩,rfl⟩
 refine ⟨a,q,o,p,⟨⟨rfl,rfl⟩,rfl,rfl⟩,a,q,b,r,⟨⟨rfl,rfl⟩,rfl,rfl⟩,fun h=>fin _ _ _ _ ?_,fun h1 h2=>⟨b,r,o,p,⟨⟨rfl,rfl⟩,rfl,rfl⟩,fun h3=>fin _ _ _ _ ?_,fun h3=>⟨fun h4=>fin _ _ _ _ ?_,fun h4 h5=>⟨fun h6=>fin _ _ _ _ ?_,fun h6=>⟨o,a,b,⟨rfl,rfl,rfl⟩,fun h7=>fin _ _ _ _ ?_,fun h7=>fin _ _ _ _ ?_⟩⟩⟩⟩⟩
 ·unfold fL; rw [if_pos (by simpa using h)]
 ·unfold fL; rw [if_neg (by simp -implicitDefEqProofs [h1,h2]),if_pos h3]
 ·unfold fL; rw [if_neg (by simp -implicitDefEqProofs [h1,h2]),if_neg (by simp -implicitDefEqProofs [h3]),if_pos (by simpa using h4)]
 ·unfold fL; rw [if_neg (by simp -implicitDefEqProofs [h1,h2]),if_neg (by simp -implicitDefEqProofs [h3]),if_neg (by simp -implicitDefEqProofs [h4,h5]),if_pos (by simpa using h6)]
 ·unfold fL; rw [if_neg (by simp -implicitDefEqProofs [h1,h2]),if_neg (by simp -implicitDefEqProofs [h3]),if_neg (by simp -implicitDefEqProofs [h4,h5]),if_neg (by simp -implicitDefEqProofs [h6]),if_neg (by simp -implicitDefEqProofs [h7])]
 ·unfold fL; rw [if_neg (by simp -implicitDefEqProofs [h1,h2]),if_neg (by simp -implicitDefEqProofs [h3]),if_neg (by simp -implicitDefEqProofs [h4,h5]),if_neg (by simp -implicitDefEqProofs [h6]),if_pos h7]
--TAB dA
theorem vI {t:List FileD} {p:Str} (h:(au t p).2=false):(au t p).1=[]:=by
 induction t with
 | nil=>rfl
 | cons f t ih =>
  unfold au at h ⊢;split
  ·rename_i e; rw [if_pos e] at h; cases h
  ·rename_i e; rw [if_neg e] at h; exact ih h
theorem same_eq {x y:List Str × Bool} (hx:x.2=false->x.1=[]) (hy:y.2=false->y.1=[]):mF x y=c6 x y:=by
 unfold mF c6;cases h:x.2 <;> cases h':y.2 <;> simp
 rw [hx h,hy h']
theorem qn {t:List FileD} (h:aC t=true) (p:Str):bg (au t p).1=true:=by
 simp only [aC,Bool.and_eq_true,decide_eq_true_eq,List.all_eq_true,List.mem_range] at h;have hf:∀ f ∈ t,bg f.text=true:=by
  intro f hf;obtain ⟨i,hi,rfl⟩:=List.getElem_of_mem hf;have:=(h.2 i hi).1;simp only [dX,Bool.and_eq_true] at this;have e:t.getD i default=t[i]:=by simp -implicitDefEqProofs [List.getD_eq_getElem?_getD,hi]
  rw [e] at this;exact this.1.1
 clear h
 induction t with
 | nil=>rfl
 | cons f t ih =>
  unfold au;split
  ·exact hf f (by simp)
  ·exact ih fun g hg=>hf g (by simp -implicitDefEqProofs [hg])
theorem LV {o a b:List FileD} (ho:aC o=true) (ha:aC a=true) (hb:aC b=true) (p:Str):fL (au o p) (au a p) (au b p)=(((ce o a b p).1,(ce o a b p).2.1),(ce o a b p).2.2):=by
 have m:fe (au o p).1 (au a p).1 (au b p).1=dd (of3 (au o p).1 (au a p).1 (au b p).1):=by unfold fe; rw [qn ho,qn ha,qn hb]; rfl
 have n1:=@vI o p;have n2:=@vI a p;have n3:=@vI b p;unfold fL ce;rw [same_eq n2 n1,same_eq n2 n3,same_eq n3 n1,m];split
 ·rfl
 ·split
  ·rfl
  ·split
   ·rfl
   ·split
    ·rename_i h;have h:(au o p).2=false:=by simpa using h
     rw [<- n1 h,<- h]
    ·rename_i h;have h:(au o p).2=true:=by simpa using h
     split
     ·rfl
     ·rw [<- h]
def iM (o a b:List FileD):List FileD × List HeadD:=if aC o && aC a && aC b then bZ o a b else ([],[])
theorem On (o a b:List FileD) (l:List Str):∀ f ∈ (dv o a b l).1,f.path ∈ l:=by
 have:∀ (l:List Str) (s:List FileD × List HeadD),∀ f ∈ (l.foldl (stepJ o a b) s).1,f ∈ s.1 \/ f.path ∈ l:=by
  intro l
  induction l with
  | nil=>intro s f hf; exact .inl hf
  | cons p l ih =>
   intro s f hf;rcases ih _ f hf with h | h
   ·have h:f ∈ (if (ce o a b p).2.1 then s.1++[⟨p,(ce o a b p).1⟩] else s.1):=h
    split at h
    ·rcases List.mem_append.1 h with h | h
     ·exact .inl h
     ·have:f=⟨p,(ce o a b p).1⟩:=by simpa using h
      subst this; exact .inr (by simp)
    ·exact .inl h
   ·exact .inr (by simp -implicitDefEqProofs [h])
 intro f hf;exact (this l ([],[]) f hf).resolve_left (by simp)
theorem Oo {o a b:List FileD} (h1:di o) (h2:di a) (h3:di b) (i:Nat):di (dv o a b ((aZ o a b).take i)).1:=by
 intro f hf;have h:=List.mem_of_mem_take (On o a b _ f hf);have h:=((CC o a b).2 f.path).1 h;simp only [List.map_append,List.mem_append,List.mem_map] at h;rcases h with (⟨g,hg,e⟩ | ⟨g,hg,e⟩) | ⟨g,hg,e⟩
 ·rw [<- e]; exact h1 g hg
 ·rw [<- e]; exact h2 g hg
 ·rw [<- e]; exact h3 g hg
theorem LU (o a b:List FileD) (p:Str):0<=(ce o a b p).2.2:=by
 unfold ce
 repeat' split
 all_goals simp
def joI (o a b:List FileD):Inv:=⟨Nat,fun i=>⟨[(0,true,.sl true 2 (ac o)),(1,true,.sl true 2 (ac a)),(2,true,.sl true 2 (ac b)),(6,true,.nil),(7,true,.nil),(8,true,.own 9 2 (ac (dv o a b ((aZ o a b).take i)).1)),(9,true,.own 10 2 (al (dv o a b ((aZ o a b).take i)).2)),(23,true,.own 11 1 (aa (aZ o a b))),(24,true,.int .i64 (aZ o a b).length),(25,true,.int .i64 i)],[(9,.own 119 2 true (ac (dv o a b ((aZ o a b).take i)).1)),(10,.own 181 2 true (al (dv o a b ((aZ o a b).take i)).2)),(11,.own 9 1 true (aa (aZ o a b)))]⟩,fun i=>i<=(aZ o a b).length/\aC o=true/\aC a=true/\aC b=true,fun i=>(aZ o a b).length - i⟩
def th:Con:=.fn 74 (List FileD × List FileD × List FileD) (fun a=>[.sl true 2 (ac a.1),.sl true 2 (ac a.2.1),.sl true 2 (ac a.2.2)]) (fun a=>di a.1/\di a.2.1/\di a.2.2) (fun a=>.tup [.own 8 2 (ac (iM a.1 a.2.1 a.2.2).1),.own 9 2 (al (iM a.1 a.2.1 a.2.2).2)]) (fun a=>eO 8 (iM a.1 a.2.1 a.2.2).1++[(9,.own 181 2 true (al (iM a.1 a.2.1 a.2.2).2))])
theorem ID:Has Tryz.prog 177 th:=by
 refine ah mixed fw (HasL.cons yl (HasL.cons EB (HasL.cons HP (HasL.cons IC (HasL.cons lr (HasL.cons jc HasL.nil)))))) [0,1,2,6,7,8,9,11,12,13,23,24,25] ((fun a n (_:Nat)=>(fun a _=>joI a.1 a.2.1 a.2.2) a n)) [] Tryz.func177 (by unfold Tryz.f177; rfl) (fun _=>⟨(),trivial⟩) ?_
 intro a ha;obtain ⟨o,a,b⟩:=a;obtain ⟨h1,h2,h3⟩:di o/\di a/\di b:=ha;simp (maxSteps:=8000000) -implicitDefEqProofs [-kStep_move,-Bool.exists_bool,th,ph,sK,s6,tg,vV,vW,jb,gY,Con.fn,dA,ag,joI]
 try dsimp only
 have j0:(aC o=false \/ aC a=false) \/ aC b=false->iM o a b=([],[]):=fun h=>by unfold iM; rw [if_neg]; rcases h with (h | h) | h <;> simp -implicitDefEqProofs [h]
 refine ⟨o,a,b,⟨rfl,rfl,rfl⟩,⟨h1,h2,h3⟩,fun h=>by rw [j0 h]; exact ⟨rfl,rfl⟩,fun b1 b2 b3=>?_⟩
 have o8:=rR o b1;have a8:=rR a b2;have b8:=rR b b3;have hp:=CB o a b;refine ⟨[o,a,b],rfl,⟨by simp; omega,by simp⟩,fun _=>⟨⟨0,⟨⟨rfl,rfl,(sg o a b).symm,by rw [sg],rfl⟩,rfl,rfl,sg o a b⟩,Nat.zero_le _,b1,b2,b3⟩,fun t ht c1 c2 c3=>⟨fun hlt=>⟨hlt,fun _=>?_⟩,fun hge=>?_⟩⟩⟩
 ·have qq:Option.map ar (aZ o a b)[t]? = some (ar (aZ o a b)[t]):=by simp -implicitDefEqProofs [hlt]
  have hs:=Dj (o:=o) (a:=a) (b:=b) hlt;have hb:=C9 o a b ((aZ o a b).take t);have hl:((aZ o a b).take t).length<=(aZ o a b).length:=by simp; omega
  have ho:=BM (p:=(aZ o a b)[t]) (show 10<=64 by omega) o8.2 a8.2 b8.2
  have he:=LV b1 b2 b3 (aZ o a b)[t];have hnn:=LU o a b (aZ o a b)[t];rw [qq];generalize dv o a b ((aZ o a b).take t)=R at *;generalize (aZ o a b)[t]=y at *;obtain ⟨X,Y⟩:=R;simp only at hb;simp -implicitDefEqProofs [-Bool.exists_bool,ar,D.asStr,vH];have z:∀ {t:List FileD},(∀ f ∈ t,f.text.length<=64) -> ∀ f ∈ t,f.text.length<=1048576:=fun h f hf=>by have:=h f hf; omega
  have he:fL ((au o y).1,(au o y).2) ((au a y).1,(au a y).2) ((au b y).1,(au b y).2)=(((ce o a b y).1,(ce o a b y).2.1),(ce o a b y).2.2):=he;refine ⟨o,y,⟨rfl,rfl⟩,z o8.2,a,y,⟨rfl,rfl⟩,z a8.2,b,y,⟨rfl,rfl⟩,z b8.2,_,_,_,_,_,_,⟨⟨rfl,rfl⟩,⟨rfl,rfl⟩,rfl,rfl⟩,⟨rfl,rfl,rfl⟩,?_⟩;rw [he];generalize hone:ce o a b y=O at *;obtain ⟨x1,x2,x3⟩:=O;have st:dv o a b ((aZ o a b).take (t+1))=(if x2=true then X++[⟨y,x1⟩] else X,if 0 < x3 then Y++[⟨y,x3⟩] else Y):=by rw [hs]; unfold stepJ; rw [hone]
  have snF:ac X++[[D.str y,D.sl 9 1 (aa x1)]]=ac (X++[⟨y,x1⟩]):=bJ _ _ _;have snH:al Y++[[D.str y,D.int .i64 x3]]=al (Y++[⟨y,x3⟩]):=qh _ _ _;simp only at ho hnn ⊢;rw [snF,snH];refine ⟨fun h3=>⟨⟨by omega,by omega⟩,fun h2=>⟨⟨by omega,by omega⟩,⟨by omega,by omega⟩,fun _ _=>⟨t+1,?_⟩⟩,fun h2=>⟨⟨by omega,by omega⟩,fun _ _=>⟨t+1,?_⟩⟩⟩,fun h3=>⟨fun h2=>⟨⟨by omega,by omega⟩,⟨by omega,by omega⟩,fun _ _=>⟨t+1,?_⟩⟩,fun h2=>⟨⟨by omega,by omega⟩,fun _ _=>⟨t+1,?_⟩⟩⟩⟩
  ·rw [st,if_pos h2,if_pos (by omega)]; exact ⟨⟨⟨rfl,rfl,by omega⟩,rfl,rfl⟩,⟨by omega,b1,b2,b3⟩,by omega⟩
  ·rw [st,if_neg (by simp -implicitDefEqProofs [h2]),if_pos (by omega)]; exact ⟨⟨⟨rfl,rfl,by omega⟩,rfl,rfl⟩,⟨by omega,b1,b2,b3⟩,by omega⟩
  ·rw [st,if_pos h2,if_neg (by omega)]; exact ⟨⟨⟨rfl,rfl,by omega⟩,rfl,rfl⟩,⟨by omega,b1,b2,b3⟩,by omega⟩
  ·rw [st,if_neg (by simp -implicitDefEqProofs [h2]),if_neg (by omega)]; exact ⟨⟨⟨rfl,rfl,by omega⟩,rfl,rfl⟩,⟨by omega,b1,b2,b3⟩,by omega⟩
 ·have:t=(aZ o a b).length:=by omega
  subst this;have hpt:=Oo h1 h2 h3 (aZ o a b).length;have hj:iM o a b=bZ o a b:=by unfold iM; rw [b1,b2,b3]; rfl
  rw [List.take_length] at hpt ⊢;have e6:dv o a b (aZ o a b)=of6 o a b:=rfl;rw [e6] at hpt ⊢;rw [hj];refine fun _=>⟨fun h=>⟨h,hpt⟩,fun h h'=>?_,fun h=>?_⟩
  ·have e:bZ o a b=(o,[⟨[],4⟩]):=by unfold bZ; rw [if_pos ⟨h,by rw [<- eI]; exact h'⟩]
   rw [e];exact ⟨⟨by omega,fun f hf=>by have:=o8.2 f hf; omega⟩,⟨rfl,rfl⟩,rfl,rfl⟩
  ·have e:bZ o a b=of6 o a b:=by unfold bZ; rw [if_neg]; rintro ⟨q1,q2⟩; rw [<- eI,h q1] at q2; cases q2
   rw [e];exact ⟨⟨rfl,rfl⟩,rfl,rfl⟩
def dK (o a b:List FileD):List FileD × Bool:=if aC o && aC a && aC b then (if (bZ o a b).2=[] then ((bZ o a b).1,true) else ([],false)) else ([],false)
def pw:Con:=.fn 26 (List FileD × List FileD × List FileD) (fun a=>[.sl true 2 (ac a.1),.sl true 2 (ac a.2.1),.sl true 2 (ac a.2.2)]) (fun a=>di a.1/\di a.2.1/\di a.2.2) (fun a=>.tup [.own 8 2 (ac (dK a.1 a.2.1 a.2.2).1),.bool (dK a.1 a.2.1 a.2.2).2]) (fun a=>eO 8 (dK a.1 a.2.1 a.2.2).1)
theorem AA:Has Tryz.prog 106 pw:=by
 refine ah mixed fw (HasL.cons yl (HasL.cons ID HasL.nil)) [0,1,2,6,7,8,9] ((fun a n (_:Nat)=>(fun _=>az) a n)) [] Tryz.func106 (by unfold Tryz.f106; rfl) (fun _=>⟨(),trivial⟩) ?_
 intro a ha;obtain ⟨o,a,b⟩:=a;obtain ⟨h1,h2,h3⟩:di o/\di a/\di b:=ha;simp (maxSteps:=8000000) -implicitDefEqProofs [-Bool.exists_bool,pw,ph,th,Con.fn,dA,ag]
 try dsimp only
 have j0:(aC o=false \/ aC a=false) \/ aC b=false->dK o a b=([],false):=fun h=>by unfold dK; rw [if_neg]; rcases h with (h | h) | h <;> simp -implicitDefEqProofs [h]
 refine ⟨o,a,b,⟨rfl,rfl,rfl⟩,⟨h1,h2,h3⟩,fun h=>by rw [j0 h]; exact ⟨⟨rfl,rfl⟩,rfl⟩,fun b1 b2 b3=>⟨o,a,b,⟨rfl,rfl,rfl⟩,⟨h1,h2,h3⟩,fun _=>?_⟩⟩
 have e:iM o a b=bZ o a b:=by unfold iM; rw [b1,b2,b3]; rfl
 have e2:dK o a b=if (bZ o a b).2=[] then ((bZ o a b).1,true) else ([],false):=by unfold dK; rw [b1,b2,b3]; rfl
 rw [e,e2];exact ⟨fun h=>by rw [if_neg (by intro q; rw [q] at h; simp at h)]; exact ⟨⟨rfl,rfl⟩,rfl⟩,fun h=>by rw [if_pos h]; exact ⟨⟨rfl,rfl⟩,rfl⟩⟩
theorem nN {l:List Bool} {x:Int} (h0:0<=x) (h1:x.toNat < l.length):isT l x.toNat=decide (x ∈ ak l):=by
 rw [Bool.eq_iff_iff,decide_eq_true_iff,listT_mem];constructor
 ·intro h; exact ⟨x.toNat,h1,h,by omega⟩
 ·rintro ⟨i,_,h2,rfl⟩
  simpa using h2
theorem jB {r:RepoD} (h:aF r=true) {a:Int} (ha:0<=a/\a < r.commits.length):aC (aj r a)=true:=by
 have hi:a.toNat < r.commits.length:=by omega
 have:=(gI h hi).2.2;unfold aj
 rwa [List.getD_eq_getElem?_getD,List.getElem?_eq_getElem hi]
theorem yL {r:RepoD} {a b c:Int} (h:c ∈ dh r a b):0<=c/\c < r.commits.length:=by
 unfold dh at h;obtain ⟨i,hi,_,rfl⟩:=listT_mem.1 h;rw [o9,pW] at hi;omega
theorem yI {r:RepoD} (h:aF r=true) (a b:Int):aC (dk r a b)=true:=by
 unfold dk;rw [<- sA];cases hq:(dh r a b).getLast? with
 | none=>rfl
 | some c=>exact jB h (yL (List.mem_of_getLast? hq))
section
variable {r:RepoD} {n w:Str} {b:Int}
theorem PN (h:aF r=true) (h2:atL r.heads n < 0 \/ aQ w=false \/ ¬ (0<=b/\b < r.commits.length)):cI r n w b=(r,1):=by unfold cI; rw [if_pos (by rw [<- b9,h]),if_pos h2]
theorem xR (h:aF r=true) (h1:0<=atL r.heads n) (h2:aQ w=true) (h3:0<=b/\b < r.commits.length):cI r n w b=dS r n w b:=by
 unfold cI; rw [if_pos (by rw [<- b9,h]),if_neg]
 rintro (q | q | q)
 ·omega
 ·rw [h2] at q; cases q
 ·exact q h3
theorem gU (h:aF r=true) (h1:0<=atL r.heads n):atL r.heads n < r.commits.length:=by
 rw [b9] at h;rcases mS (n:=n) ((be r).1 h).2.1 with q | q <;> omega
theorem PO (h:aF r=true) (h1:0<=atL r.heads n) (h2:aQ w=true) (h3:0<=b/\b < r.commits.length) (h4:isT (anc r (atL r.heads n)) b.toNat=true):cI r n w b=(r,2):=by
 rw [xR h h1 h2 h3];rw [nN h3.1 (by rw [ci]; omega),decide_eq_true_eq] at h4
 unfold dS;rw [if_pos h4]
theorem PP (h:aF r=true) (h1:0<=atL r.heads n) (h2:aQ w=true) (h3:0<=b/\b < r.commits.length) (h4:isT (anc r (atL r.heads n)) b.toNat=false) (h5:isT (anc r b) (atL r.heads n).toNat=true) :
  cI r n w b=(⟨r.commits,ptL r.heads n b⟩,3):=by
 have hlt:=gU h h1;rw [xR h h1 h2 h3];rw [nN h3.1 (by rw [ci]; omega),decide_eq_false_iff_not] at h4
 rw [nN h1 (by rw [ci]; omega),decide_eq_true_eq] at h5
 unfold dS;rw [if_neg h4,if_pos h5];rw [b9] at h;rw [xj ((be r).1 h).2.1]
theorem u7 (h:dn r.commits.length r.heads=true) {c:CommitD}:cmL r n c=cq r n c:=by
 unfold cmL cq;rw [xj h]
theorem Ay {o a b:List FileD} (ho:aC o=true) (ha:aC a=true) (hb:aC b=true):dK o a b=if (bZ o a b).2=[] then ((bZ o a b).1,true) else ([],false):=by
 unfold dK;rw [ho,ha,hb];rfl
theorem PQ (h:aF r=true) (h1:0<=atL r.heads n) (h2:aQ w=true) (h3:0<=b/\b < r.commits.length) (h4:isT (anc r (atL r.heads n)) b.toNat=false) (h5:isT (anc r b) (atL r.heads n).toNat=false) :
  cI r n w b=if (dK (dk r (atL r.heads n) b) (aj r (atL r.heads n)) (aj r b)).2 then
   (if aF (cmL r n ⟨[atL r.heads n,b],w,(dK (dk r (atL r.heads n) b) (aj r (atL r.heads n)) (aj r b)).1⟩) then (cmL r n ⟨[atL r.heads n,b],w,(dK (dk r (atL r.heads n) b) (aj r (atL r.heads n)) (aj r b)).1⟩,0) else (r,5))
   else (r,4):=by
 have hlt:=gU h h1;rw [xR h h1 h2 h3];rw [nN h3.1 (by rw [ci]; omega),decide_eq_false_iff_not] at h4
 rw [nN h1 (by rw [ci]; omega),decide_eq_false_iff_not] at h5
 unfold dS;rw [if_neg h4,if_neg h5,Ay (yI h _ _) (jB h ⟨h1,hlt⟩) (jB h h3)];rw [b9] at h;have hH:=((be r).1 h).2.1;by_cases hj:(bZ (dk r (atL r.heads n) b) (aj r (atL r.heads n)) (aj r b)).2=[]
 ·rw [if_pos hj,if_pos hj];simp only [if_true];rw [u7 hH,b9]
 ·rw [if_neg hj,if_neg hj];simp
end
inductive Uni (r:RepoD) (n w:Str) (b:Int):RepoD × Int->Prop
 | form:Uni r n w b (r,1)
 | same:0<=atL r.heads n->atL r.heads n < r.commits.length->0<=b->b < r.commits.length->Rch r (atL r.heads n).toNat b.toNat->Uni r n w b (r,2)
 | on:0<=atL r.heads n->atL r.heads n < r.commits.length->0<=b->b < r.commits.length -> ¬ Rch r (atL r.heads n).toNat b.toNat->Rch r b.toNat (atL r.heads n).toNat->an ⟨r.commits,bv r.heads n b⟩=true->Uni r n w b (⟨r.commits,bv r.heads n b⟩,3)
 | clash:0<=atL r.heads n->atL r.heads n < r.commits.length->0<=b->b < r.commits.length->(bZ (dk r (atL r.heads n) b) (aj r (atL r.heads n)) (aj r b)).2 ≠ []->Uni r n w b (r,4)
 | full:Uni r n w b (r,5)
 | made (t:List FileD):0<=atL r.heads n->atL r.heads n < r.commits.length->0<=b->b < r.commits.length -> ¬ Rch r (atL r.heads n).toNat b.toNat -> ¬ Rch r b.toNat (atL r.heads n).toNat->bZ (dk r (atL r.heads n) b) (aj r (atL r.heads n)) (aj r b)=(t,[]) ->
   an (cq r n ⟨[atL r.heads n,b],w,t⟩)=true->Uni r n w b (cq r n ⟨[atL r.heads n,b],w,t⟩,0)
theorem oQ {r:RepoD} (h:an r=true) (n:Str) (c:CommitD) (m:Str):atL (cq r n c).heads m=if n=m then (r.commits.length:Int) else atL r.heads m:=by
 show atL (bv r.heads n r.commits.length) m=_
 exact mT ((be r).1 h).2.1
theorem Ev (r:RepoD) (n:Str) (c:CommitD):(cq r n c).commits.getD r.commits.length default=c:=by simp -implicitDefEqProofs [cq,List.getD_eq_getElem?_getD]
theorem ya {r:RepoD} (n:Str) (c:CommitD) {p:Int} (h:p ∈ c.parents):Rch (cq r n c) r.commits.length p.toNat:=by
 refine Rch.refl.step (p:=p) ?_;rw [Ev]; exact h
def dP (t:List FileD) (p:Str):Nat->Nat
 | 0=>0
 | k+1=>if Go.Op.bytesLess (t.getD k default).path p then k+1 else dP t p k
def fo (t:List FileD) (p:Str):Nat:=dP t p t.length
def cm (t:List FileD) (f:FileD):List FileD × Bool :=
 if fo t f.path < t.length/\(t.getD (fo t f.path) default).path=f.path then (t.set (fo t f.path) f,false) else (en t (fo t f.path) f,true)
theorem M9 (t:List FileD) (p:Str):∀ k,dP t p k<=k:=by
 intro k
 induction k with
 | zero=>exact Nat.le_refl _
 | succ k ih=>unfold dP; split <;> omega
theorem xn (t:List FileD) (p:Str):fo t p<=t.length:=M9 t p _
theorem M8 (t:List FileD) (f:FileD):(cm t f).1.length<=t.length+1:=by
 have:=xn t f.path;unfold cm;split <;> simp [en] <;> omega
theorem CN (t:List FileD) (f:FileD):∀ g ∈ (cm t f).1,g ∈ t \/ g=f:=by
 intro g hg;unfold cm at hg;split at hg
 ·exact List.mem_or_eq_of_mem_set hg
 ·simp only [en,List.mem_append,List.mem_cons] at hg;rcases hg with h | h | h
  ·exact .inl (List.mem_of_mem_take h)
  ·exact .inr h
  ·exact .inl (List.mem_of_mem_drop h)
theorem zC (b:FileD) (p:Str) (x:List Str):(ac [b]=[[D.str p,D.sl 9 1 (aa x)]])=(b=⟨p,x⟩):=by
 obtain ⟨q,y⟩:=b;simp [ac,aq]
theorem GV (b:FileD) (p:Str) (x:List Str):([[D.str p,D.sl 9 1 (aa x)]]=ac [b])=(b=⟨p,x⟩):=by rw [<- zC]; exact propext ⟨Eq.symm,Eq.symm⟩
def pU:Con:=.fn 58 (List FileD × FileD) (fun a=>[.sl true 2 (ac a.1),.agg [.str a.2.path,.sl true 1 (aa a.2.text)]]) (fun a=>(a.1.length<=1048576 /\ ∀ f ∈ a.1,f.text.length<=1048576)/\a.2.text.length<=1048576) (fun a=>.tup [.own 8 2 (ac (cm a.1 a.2).1),.bool (cm a.1 a.2).2]) (fun a=>eO 8 (cm a.1 a.2).1)
theorem CR:Has Tryz.prog 192 pU:=by
 refine ah mixed aw (HasL.cons jc (HasL.cons pY (HasL.cons Im HasL.nil))) [0,1,3,4,5,6,7,8] ((fun a n (_:Nat)=>(fun a _=>⟨Nat,fun k=>⟨[(3,true,.ptr 10 0),(4,true,.nil),(5,true,.bool false),(6,true,.own 9 2 (ac a.1)),(7,true,.int .i64 k)],[(10,.box 119 [.str a.2.path,.sl true 1 (aa a.2.text)]),(9,.own 119 2 true (ac a.1))]⟩,fun k=>k<=a.1.length/\dP a.1 a.2.path k=fo a.1 a.2.path,fun k=>k⟩) a n)) [] Tryz.func192 (by unfold Tryz.f192; rfl) (fun _=>⟨(),trivial⟩) ?_
 intro a ha;obtain ⟨t,f⟩:=a;obtain ⟨⟨q1,q2⟩,q3⟩:(t.length<=1048576 /\ ∀ f ∈ t,f.text.length<=1048576)/\f.text.length<=1048576:=ha;have g0:dP t f.path 0=0:=rfl;have g1:∀ k,0 < k->(h:k - 1 < t.length)->Go.Op.bytesLess t[k - 1].path f.path=false->dP t f.path (k - 1)=dP t f.path k:=fun k h0 h hb=>by
  obtain ⟨j,rfl⟩:∃ j,k=j+1:=⟨k - 1,by omega⟩
  simp only [Nat.add_sub_cancel] at h hb ⊢;rw [dP,if_neg (by simp [List.getD_eq_getElem?_getD,h,hb])]
 have g2:∀ k,0 < k->(h:k - 1 < t.length)->Go.Op.bytesLess t[k - 1].path f.path=true->dP t f.path k=k:=fun k h0 h hb=>by
  obtain ⟨j,rfl⟩:∃ j,k=j+1:=⟨k - 1,by omega⟩
  simp only [Nat.add_sub_cancel] at h hb;rw [dP,if_pos (by simp [List.getD_eq_getElem?_getD,h,hb])]
 have g3:∀ k (h:k < t.length),k=fo t f.path->t[k].path=f.path->cm t f=(t.set k f,false):=fun k h hk hp=>by
  unfold cm;rw [<- hk,if_pos (by simp [List.getD_eq_getElem?_getD,h,hp])]
 have g4:∀ k,k=fo t f.path->(∀ h:k < t.length,¬ t[k].path=f.path)->cm t f=(en t k f,true):=fun k hk hp=>by
  unfold cm;rw [<- hk,if_neg];rintro ⟨h,h2⟩;exact hp h (by simpa [List.getD_eq_getElem?_getD,h] using h2)
 simp -implicitDefEqProofs [pU,gY,lK,cInsF,Con.fn,ag,zC,GV]
 try dsimp only
 have tl:∀ k,k<=t.length->k=fo t f.path -> ∀ P:Prop,(∀ (e3:∀ h:k < t.length,t[k].path=f.path->cm t f=(t.set k f,false)) (e4:(∀ h:k < t.length,¬ t[k].path=f.path)->cm t f=(en t k f,true)),P)->P:=fun k hk kk P h=>h (fun h=>g3 k h kk) (g4 k kk);refine ⟨⟨q1,q2⟩,fun _=>⟨⟨t.length,rfl,Nat.le_refl _,rfl⟩,fun k hk hp=>⟨fun h0=>⟨⟨by omega,by omega⟩,fun _ _=>⟨⟨by omega,by omega⟩,fun _ _=>⟨?_,fun _ _=>⟨fun hb=>⟨⟨by omega,by omega⟩,fun _ _=>⟨k - 1,by omega,⟨by omega,?_⟩,by omega⟩⟩,fun hb=>?_⟩⟩⟩⟩,fun h0=>?_⟩⟩⟩
 ·have hlt:k - 1 < t.length:=by omega
  simp [hlt,aq]
 ·have hlt:k - 1 < t.length:=by omega
  rw [g1 k h0 hlt (by simpa [hlt,aq] using hb),hp]
 ·have hlt:k - 1 < t.length:=by omega
  have kk:k=fo t f.path:=by rw [<- hp]; exact (g2 k h0 hlt (by simpa [hlt,aq] using hb)).symm
  refine tl k hk kk _ fun e3 e4=>?_;refine ⟨q3,fun hlt=>⟨hlt,fun _=>⟨by simp [hlt,aq],fun _ _=>⟨fun hpp=>?_,fun hpp=>?_⟩⟩⟩,fun hge=>?_⟩
  ·rw [e3 hlt (by simpa [hlt,aq] using hpp)]
   exact ⟨hlt,fun _=>⟨hlt,⟨(bp t k f.path f.text).symm,rfl⟩,bp t k f.path f.text⟩⟩
  ·rw [e4 fun h=>by simpa [hlt,aq] using hpp]
   exact ⟨t,k,f,⟨rfl,rfl,rfl⟩,⟨rfl,rfl⟩,⟨hk,q1⟩,⟨rfl,rfl⟩,rfl⟩
  ·rw [e4 fun h=>absurd h (by omega)]
   exact ⟨t,k,f,⟨rfl,rfl,rfl⟩,⟨rfl,rfl⟩,⟨hk,q1⟩,⟨rfl,rfl⟩,rfl⟩
 ·have kk:k=fo t f.path:=by rw [<- hp,h0]; exact g0.symm
  refine tl k hk kk _ fun e3 e4=>?_;refine ⟨q3,fun hlt=>⟨hlt,fun _=>⟨by simp [hlt,aq],fun _ _=>⟨fun hpp=>?_,fun hpp=>?_⟩⟩⟩,fun hge=>?_⟩
  ·rw [e3 hlt (by simpa [hlt,aq] using hpp)]
   exact ⟨hlt,fun _=>⟨hlt,⟨(bp t k f.path f.text).symm,rfl⟩,bp t k f.path f.text⟩⟩
  ·rw [e4 fun h=>by simpa [hlt,aq] using hpp]
   exact ⟨t,k,f,⟨rfl,rfl,rfl⟩,⟨rfl,rfl⟩,⟨hk,q1⟩,⟨rfl,rfl⟩,rfl⟩
  ·rw [e4 fun h=>absurd h (by omega)]
   exact ⟨t,k,f,⟨rfl,rfl,rfl⟩,⟨rfl,rfl⟩,⟨hk,q1⟩,⟨rfl,rfl⟩,rfl⟩
def po:Con:={ A:=List FileD × List FileD,X:=Unit,n:=12,args:=fun a=>[.sl true 2 (ac a.1),.own 0 2 (ac a.2)],boxes:=fun _=>[],pre:=fun a=>(a.1.length<=1048576 /\ ∀ f ∈ a.1,f.text.length<=1048576) /\ ∀ f ∈ a.2,f.path.length<=536870912,post:=fun _ _=>True,res:=fun a _=>.tup [.own 8 2 (ac (if aC a.2 then a.2 else a.1)),.bool (aC a.2)],fin:=fun a _=>eO 8 (if aC a.2 then a.2 else a.1),owns:=fun a=>[(0,119,2,ac a.2)],mv:=true }
theorem ze:Has Tryz.prog 193 po:=by
 refine ah mixed aw (HasL.cons lr (HasL.cons jc HasL.nil)) [0,1,4,5] ((fun a n (_:Nat)=>(fun _=>az) a n)) [] Tryz.func193 (by unfold Tryz.f193; rfl) (fun _=>⟨(),trivial⟩) ?_
 intro a ha;obtain ⟨t,o⟩:=a;obtain ⟨⟨q1,q2⟩,q3⟩:(t.length<=1048576 /\ ∀ f ∈ t,f.text.length<=1048576) /\ ∀ f ∈ o,f.path.length<=536870912:=ha;simp -implicitDefEqProofs [po,Con.fn,ag,jb,gY]
 try dsimp only
 try simp +contextual [ar,aq,bR,bm,bS,List.getElem?_eq_getElem,bW,bp,bK,bU,<- br,<- bN,bn,bw,bV,bT,bu,bJ,and_assoc]
 repeat' (first | intro _ | apply And.intro)
 all_goals first | omega | grind [cn]
def inP (o:List FileD) (l:List FileD):List FileD:=l.foldl (fun o f=>(cm o f).1) o

abbrev Srt (t:List FileD):Prop:=t.Pairwise fun a b=>a.path < b.path
def ins (o:List FileD) (f:FileD):List FileD:=o.filter (fun g=>decide (g.path < f.path))++f :: o.filter (fun g=>decide (f.path < g.path))
theorem xP {t:List FileD} (h:aC t=true):Srt t:=by
 refine List.pairwise_iff_getElem.2 fun i j hi hj hij=>?_;have:=PL h j i hij hj;rw [fF,decide_eq_true_eq] at this;exact this
theorem Dy {o:List FileD} {f:FileD} (h:Srt o):Srt (ins o f):=by
 unfold ins;refine List.pairwise_append.2 ⟨h.filter _,List.pairwise_cons.2 ⟨fun g hg=>?_,h.filter _⟩,fun a ha b hb=>?_⟩
 ·simpa using (List.mem_filter.1 hg).2
 ·have h1:a.path < f.path:=by simpa using (List.mem_filter.1 ha).2
  rcases List.mem_cons.1 hb with rfl | hb
  ·exact h1
  ·have h2:f.path < b.path:=by simpa using (List.mem_filter.1 hb).2
   exact lm h1 h2
theorem Iv {o:List FileD} {f:FileD} (h:Srt o) {k:Nat} (hk:k<=o.length) (h1:∀ j (hj:j < o.length),j < k->o[j].path < f.path) (h2:∀ j (hj:j < o.length),k<=j -> ¬ o[j].path < f.path) :
  o.filter (fun g=>decide (g.path < f.path))=o.take k/\o.filter (fun g=>decide (f.path < g.path))=(o.drop k).filter (fun g=>decide (f.path < g.path)):=by
 have e:o=o.take k++o.drop k:=(List.take_append_drop k o).symm;have a1:(o.take k).filter (fun g=>decide (g.path < f.path))=o.take k:=List.filter_eq_self.2 fun g hg=>by
  obtain ⟨j,hj,rfl⟩:=List.getElem_of_mem hg;simp only [List.length_take] at hj;rw [List.getElem_take];exact decide_eq_true (h1 j (by omega) (by omega))
 have a2:(o.drop k).filter (fun g=>decide (g.path < f.path))=[]:=List.filter_eq_nil_iff.2 fun g hg=>by
  obtain ⟨j,hj,rfl⟩:=List.getElem_of_mem hg;simp only [List.length_drop] at hj;rw [List.getElem_drop]
  simpa using h2 (k+j) (by omega) (by omega)
 have a3:(o.take k).filter (fun g=>decide (f.path < g.path))=[]:=List.filter_eq_nil_iff.2 fun g hg=>by
  obtain ⟨j,hj,rfl⟩:=List.getElem_of_mem hg;simp only [List.length_take] at hj;rw [List.getElem_take]
  simpa using lk (h1 j (by omega) (by omega))
 constructor
 ·conv=>lhs; rw [e]
  rw [List.filter_append,a1,a2,List.append_nil]
 ·conv=>lhs; rw [e]
  rw [List.filter_append,a3,List.nil_append]
theorem Nf {o:List FileD} {p:Str} (h:Srt o):∀ k,k<=o.length->(∀ j (hj:j < o.length),k<=j -> ¬ o[j].path < p) ->
  (∀ j (hj:j < o.length),j < dP o p k->o[j].path < p)/\(∀ j (hj:j < o.length),dP o p k<=j -> ¬ o[j].path < p):=by
 intro k
 induction k with
 | zero=>intro _ h2; exact ⟨fun j _ hj=>by simp [dP] at hj,fun j hj _=>h2 j hj (Nat.zero_le _)⟩
 | succ k ih =>
  intro hk h2;have hlt:k < o.length:=by omega
  have hd:o.getD k default=o[k]:=by simp [List.getD_eq_getElem?_getD,hlt]
  by_cases hb:o[k].path < p
  ·have e:dP o p (k+1)=k+1:=by rw [dP,if_pos]; rw [hd,fF]; exact decide_eq_true hb
   rw [e];refine ⟨fun j hj hjk=>?_,h2⟩;by_cases ejk:j=k
   ·subst ejk; exact hb
   ·exact lm (List.pairwise_iff_getElem.1 h j k hj hlt (by omega)) hb
  ·have e:dP o p (k+1)=dP o p k:=by rw [dP,if_neg]; rw [hd,fF]; simpa using hb
   rw [e];refine ih (by omega) fun j hj hjk=>?_
   by_cases ejk:j=k
   ·subst ejk; exact hb
   ·exact h2 j hj (by omega)
theorem ol {o:List FileD} {f:FileD} (h:Srt o):(cm o f).1=ins o f:=by
 obtain ⟨h1,h2⟩:=Nf (p:=f.path) h o.length (Nat.le_refl _) (fun j hj hjk=>by omega)
 have hk:=xn o f.path
 change ∀ j (hj:j < o.length),j < fo o f.path->_ at h1
 change ∀ j (hj:j < o.length),fo o f.path<=j->_ at h2
 generalize hkk:fo o f.path=k at h1 h2 hk;obtain ⟨a1,a2⟩:=Iv h hk h1 h2;unfold ins cm;rw [a1,a2,hkk];split
 ·rename_i hp;obtain ⟨hlt,hp⟩:=hp;rw [List.getD_eq_getElem?_getD,List.getElem?_eq_getElem hlt] at hp;simp only [Option.getD_some] at hp
  change o.set k f=_
  rw [List.set_eq_take_append_cons_drop,if_pos hlt]
  congr 2
  rw [List.drop_eq_getElem_cons hlt,List.filter_cons,if_neg (by simp [hp,jz])]
  symm
  refine List.filter_eq_self.2 fun g hg=>?_;obtain ⟨j,hj,rfl⟩:=List.getElem_of_mem hg;simp only [List.length_drop] at hj;rw [List.getElem_drop];have:=List.pairwise_iff_getElem.1 h k (k+1+j) hlt (by omega) (by omega)
  rw [hp] at this;exact decide_eq_true this
 ·rename_i hp
  change en o k f=_
  unfold en
  congr 2
  symm
  refine List.filter_eq_self.2 fun g hg=>?_;obtain ⟨j,hj,rfl⟩:=List.getElem_of_mem hg;simp only [List.length_drop] at hj;rw [List.getElem_drop];have hlt:k < o.length:=by omega
  have hne:¬ o[k].path=f.path:=fun e=>hp ⟨hlt,by rw [List.getD_eq_getElem?_getD,List.getElem?_eq_getElem hlt]; exact e⟩
  have hgt:=mI _ _ (h2 k hlt (Nat.le_refl _)) hne;by_cases hj0:j=0
  ·subst hj0; exact decide_eq_true hgt
  ·exact decide_eq_true (lm hgt (List.pairwise_iff_getElem.1 h k (k+j) hlt (by omega) (by omega)))
theorem Ds (f:FileD):∀ (l acc:List FileD),l.foldl (cQ f) (acc,true)=(acc++l.filter (fun g=>!decide (g.path=f.path)),true):=by
 intro l
 induction l with
 | nil=>intro acc; simp
 | cons g r ih =>
  intro acc;rw [List.foldl_cons];by_cases hp:g.path=f.path
  ·have:cQ f (acc,true) g=(acc,true):=by simp [cQ,hp]
   rw [this,ih,List.filter_cons,if_neg (by simp [hp])]
  ·have:cQ f (acc,true) g=(acc++[g],true):=by simp [cQ,hp]
   rw [this,ih,List.filter_cons,if_pos (by simp [hp])]
   simp
theorem Oz (f:FileD):∀ (l acc:List FileD),Srt l->(if (l.foldl (cQ f) (acc,false)).2 then (l.foldl (cQ f) (acc,false)).1 else (l.foldl (cQ f) (acc,false)).1++[f])=acc++ins l f:=by
 intro l
 induction l with
 | nil=>intro acc _; simp [ins]
 | cons g r ih =>
  intro acc h;obtain ⟨h1,h2⟩:=List.pairwise_cons.1 h;rw [List.foldl_cons];by_cases hb:g.path < f.path
  ·have hlb:Go.Op.bytesLess g.path f.path=true:=by rw [fF]; exact decide_eq_true hb
   have hne:¬ g.path=f.path:=fun e=>by rw [e] at hb; exact jz _ hb
   have:cQ f (acc,false) g=(acc++[g],false):=by simp [cQ,hlb,hne]
   rw [this,ih _ h2];unfold ins;rw [List.filter_cons,if_pos (decide_eq_true hb),List.filter_cons,if_neg (by simpa using lk hb)]
   simp
  ·have hlb:Go.Op.bytesLess g.path f.path=false:=by rw [fF]; exact decide_eq_false hb
   have hgr:∀ x ∈ r,f.path < x.path:=fun x hx=>by
    by_cases e:g.path=f.path
    ·rw [<- e]; exact h1 x hx
    ·exact lm (mI _ _ hb e) (h1 x hx)
   have b1:r.filter (fun x=>decide (x.path < f.path))=[]:=List.filter_eq_nil_iff.2 fun x hx=>by simpa using lk (hgr x hx)
   have b2:r.filter (fun x=>decide (f.path < x.path))=r:=List.filter_eq_self.2 fun x hx=>decide_eq_true (hgr x hx);have b3:r.filter (fun x=>!decide (x.path=f.path))=r:=List.filter_eq_self.2 fun x hx=>by
    have:=hgr x hx;simp only [Bool.not_eq_true',decide_eq_false_iff_not];intro e; rw [e] at this; exact jz _ this
   by_cases e:g.path=f.path
   ·have:cQ f (acc,false) g=(acc++[f],true):=by
     rw [e] at hlb;simp [cQ,hlb,e]
    rw [this,Ds,b3];simp only [if_true];unfold ins;rw [List.filter_cons,if_neg (by simpa using hb),List.filter_cons,if_neg (by simp [e,jz]),b1,b2]
    simp
   ·have:cQ f (acc,false) g=(acc++[f]++[g],true):=by simp [cQ,hlb,e]
    rw [this,Ds,b3];simp only [if_true];unfold ins;rw [List.filter_cons,if_neg (by simpa using hb),List.filter_cons,if_pos (decide_eq_true (mI _ _ hb e)),b1,b2]
    simp
theorem xz {o:List FileD} {f:FileD} (h:Srt o):fU o f=ins o f:=by
 have:=Oz f o [] h;rw [List.nil_append] at this;exact this
theorem H9:∀ {l o:List FileD},Srt (o++l)->inP o l=o++l:=by
 intro l
 induction l with
 | nil=>intro o _; simp [inP]
 | cons f r ih =>
  intro o h;have ho:Srt o:=(List.pairwise_append.1 h).1;have hlt:∀ g ∈ o,g.path < f.path:=fun g hg=>(List.pairwise_append.1 h).2.2 g hg f (by simp)
  have e:(cm o f).1=o++[f]:=by
   rw [ol ho];unfold ins;rw [List.filter_eq_self.2 fun g hg=>decide_eq_true (hlt g hg),List.filter_eq_nil_iff.2 fun g hg=>by simpa using lk (hlt g hg)]
  have:inP o (f :: r)=inP (o++[f]) r:=by simp only [inP,List.foldl_cons,e]
  rw [this,ih (by simpa using h)]
  simp
def lv (t:List FileD) (f:FileD):List FileD × Bool:=if aC t then (if aC (cm t f).1 then ((cm t f).1,true) else (t,false)) else ([],false)
theorem PK (t:List FileD) (f:FileD):lv t f=iB t f:=by
 unfold lv iB;by_cases h:aC t=true
 ·have hs:=xP h;have e:(cm t f).1=fU t f:=by rw [ol hs,xz hs]
  rw [e,eI,eI]
 ·rw [if_neg h,if_neg (by rw [<- eI]; exact h)]
def cy (p:Str) (f:FileD):Bool:=!atB f.path p
theorem vh (p:Str):cy p=bH p:=by
 funext f
 unfold cy bH;rw [su];by_cases h:p=f.path
 ·subst h; simp
 ·have:¬ f.path=p:=fun e=>h e.symm;simp -implicitDefEqProofs [h,this]
def jC (t:List FileD) (p:Str):List FileD × Bool:=if aC t then (aE (cy p) t,decide ((aE (cy p) t).length < t.length)) else ([],false)
theorem PE (t:List FileD) (p:Str):jC t p=fX t p:=by
 unfold jC fX;rw [vh,eI]
def mvI (p to:Str):List FileD->List FileD->Option (List FileD)
 | [],o=>some o
 | f :: l,o=>if atB f.path p then (if (cm o ⟨to++f.path.drop p.length,f.text⟩).2 then mvI p to l (cm o ⟨to++f.path.drop p.length,f.text⟩).1 else none) else mvI p to l o
theorem mn (p:Str) (f:FileD):jo p f=atB f.path p:=by
 unfold jo;rw [su]
 congr 1
 by_cases h:f.path=p
 ·simp -implicitDefEqProofs [h]
 ·have:¬ p=f.path:=fun e=>h e.symm;simp -implicitDefEqProofs [h,this]
theorem CL (o:List FileD) (f:FileD):(cm o f).1.length=o.length+(if (cm o f).2 then 1 else 0):=by
 have hk:=xn o f.path;unfold cm;split
 ·simp
 ·simp -implicitDefEqProofs [en]; omega
def hits (p:Str) (l:List FileD):Nat:=(l.filter (jo p)).length
theorem wW (p to:Str):∀ (l o:List FileD),Srt o->(cU p to o l).length<=o.length+hits p l
 | [],o,_=>by simp -implicitDefEqProofs [cU,hits]
 | f :: l,o,h=>by
  have e:cU p to o (f :: l)=cU p to (gA p to o f) l:=rfl;rw [e];unfold gA;by_cases hh:jo p f=true
  ·rw [if_pos hh,xz h];have ih:=wW p to l _ (Dy (f:=⟨to++f.path.drop p.length,f.text⟩) h);have hl:=CL o ⟨to++f.path.drop p.length,f.text⟩;rw [ol h] at hl;have:hits p (f :: l)=hits p l+1:=by simp -implicitDefEqProofs [hits,hh]
   split at hl <;> omega
  ·rw [if_neg hh];have ih:=wW p to l o h;have:hits p (f :: l)=hits p l:=by simp -implicitDefEqProofs [hits,hh]
   omega
theorem wX (p to:Str):∀ (l o:List FileD),Srt o->match mvI p to l o with
  | some x=>x=cU p to o l/\x.length=o.length+hits p l
  | none=>(cU p to o l).length < o.length+hits p l
 | [],o,_=>by simp -implicitDefEqProofs [mvI,cU,hits]
 | f :: l,o,h=>by
  have e:cU p to o (f :: l)=cU p to (gA p to o f) l:=rfl;rw [e];unfold gA mvI;rw [mn];by_cases hh:atB f.path p=true
  ·rw [if_pos hh,if_pos hh];have hit:hits p (f :: l)=hits p l+1:=by simp -implicitDefEqProofs [hits,mn,hh]
   have hl:=CL o ⟨to++f.path.drop p.length,f.text⟩;have hs:=Dy (f:=⟨to++f.path.drop p.length,f.text⟩) h;have e2:fU o ⟨to++f.path.drop p.length,f.text⟩=(cm o ⟨to++f.path.drop p.length,f.text⟩).1:=by rw [ol h,xz h]
   rw [e2];rw [<- ol h] at hs;cases hp:(cm o ⟨to++f.path.drop p.length,f.text⟩).2 with
   | true =>
    rw [hp] at hl;simp only [if_true] at hl ⊢;have ih:=wX p to l _ hs;cases hm:mvI p to l (cm o ⟨to++f.path.drop p.length,f.text⟩).1 with
    | some x =>
     rw [hm] at ih;simp only at ih ⊢;exact ⟨ih.1,by rw [ih.2,hl,hit]; omega⟩
    | none =>
     rw [hm] at ih;simp only at ih ⊢;rw [hit]; omega
   | false =>
    rw [hp] at hl;simp only [Bool.false_eq_true,if_false] at hl ⊢;have:=wW p to l _ hs;rw [hit]; omega
  ·rw [if_neg hh,if_neg hh];have hit:hits p (f :: l)=hits p l:=by simp -implicitDefEqProofs [hits,mn,hh]
   rw [hit];exact wX p to l o h
theorem HZ (p:Str) (t:List FileD):(aE (cy p) t).length+hits p t=t.length:=by
 unfold hits aE
 induction t with
 | nil=>rfl
 | cons f t ih =>
  have e:jo p f = !cy p f:=by unfold cy; rw [mn]; simp
  cases hd:cy p f with
  | true=>simp -implicitDefEqProofs [hd,e]; omega
  | false=>simp -implicitDefEqProofs [hd,e]; omega
def iz (t:List FileD) (p to:Str):List FileD × Bool :=
 if aC t then match mvI p to t (aE (cy p) t) with
  | some x=>if t.any (fun f=>atB f.path p)=false \/ dZ to=false then (t,false) else if aC x then (x,true) else (t,false)
  | none=>(t,false)
 else ([],false)
theorem PH (t:List FileD) (p to:Str):iz t p to=ep t p to:=by
 unfold iz ep;by_cases h:aC t=true
 ·rw [if_pos h,if_pos (by rw [<- eI]; exact h)]
  have hs:Srt (aE (cy p) t):=(xP h).filter _;have hm:=wX p to t _ hs;have ha:=HZ p t;have hany:(t.any (fun f=>atB f.path p)=false) ↔ hits p t=0:=by
   unfold hits;rw [List.length_eq_zero_iff,List.filter_eq_nil_iff,List.any_eq_false];constructor
   ·intro q f hf; rw [mn]; exact q f hf
   ·intro q f hf; have:=q f hf; rwa [mn] at this
  have hc:((aE (bH p) t).length=t.length \/ dg to=false) ↔ (t.any (fun f=>atB f.path p)=false \/ dZ to=false):=by
   rw [hany,<- vh,gF];constructor
   ·rintro (q | q)
    ·exact .inl (by omega)
    ·exact .inr q
   ·rintro (q | q)
    ·exact .inl (by omega)
    ·exact .inr q
  rw [<- vh] at hc ⊢;by_cases hq:t.any (fun f=>atB f.path p)=false \/ dZ to=false
  ·rw [if_pos (hc.2 hq)];split
   ·rw [if_pos hq]
   ·rfl
  ·rw [if_neg (fun x=>hq (hc.1 x))];cases hr:mvI p to t (aE (cy p) t) with
   | some x =>
    rw [hr] at hm;simp only at hm ⊢;obtain ⟨m1,m2⟩:=hm;rw [if_neg hq,<- m1];have ml:x.length=t.length:=by omega
    by_cases hx:aC x=true
    ·rw [if_pos hx,if_neg];rintro (q | q)
     ·rw [<- eI,hx] at q; cases q
     ·exact q ml
    ·rw [if_neg hx,if_pos]
     left; rw [<- eI]; simpa using hx
   | none =>
    rw [hr] at hm;simp only at hm ⊢;rw [if_pos]
    right; omega
 ·rw [if_neg h,if_neg (by rw [<- eI]; exact h)]
theorem Ls {p to:Str} {t o:List FileD} {i:Nat} (h:i < t.length):mvI p to (t.drop i) o=if atB t[i].path p then (if (cm o ⟨to++t[i].path.drop p.length,t[i].text⟩).2 then mvI p to (t.drop (i+1)) (cm o ⟨to++t[i].path.drop p.length,t[i].text⟩).1 else none) else mvI p to (t.drop (i+1)) o:=by rw [List.drop_eq_getElem_cons h]; rfl
theorem Lr {p to:Str} {t o:List FileD} {i:Nat} (h:t.length<=i):mvI p to (t.drop i) o=some o:=by rw [List.drop_eq_nil_of_le h]; rfl
def nu (r:RepoD) (n:Str):List Int:=if 0<=atL r.heads n then [atL r.heads n] else []
theorem Gq {r:RepoD} (h:aF r=true) {n w:Str} {t:List FileD}:cmL r n ⟨nu r n,w,t⟩=cq r n (iI r n w t):=by
 rw [b9] at h;rw [u7 ((be r).1 h).2.1]; rfl
theorem oB {r:RepoD} {n w:Str} {t:List FileD}:dz r n w t=if aF r then (if aF (cmL r n ⟨nu r n,w,t⟩) then (cmL r n ⟨nu r n,w,t⟩,true) else (r,false)) else (noR,false):=by
 unfold dz;by_cases h:aF r=true
 ·rw [if_pos h,if_pos (by rw [<- b9]; exact h),Gq h,b9]
 ·rw [if_neg h,if_neg (by rw [<- b9]; exact h)]; rfl
theorem ru {r:RepoD} {n:Str} {a:Int}:db r n a=if aF r then (if 0<=atL r.heads n then (r,false) else if aF ⟨r.commits,ptL r.heads n a⟩ then (⟨r.commits,ptL r.heads n a⟩,true) else (r,false)) else (noR,false):=by
 unfold db;by_cases h:aF r=true
 ·have h':an r=true:=by rw [<- b9]; exact h
  rw [if_pos h,if_pos h',xj ((be r).1 h').2.1,b9];by_cases h1:0<=atL r.heads n
  ·rw [if_pos h1,if_pos (.inl h1)]
  ·rw [if_neg h1];by_cases h2:an ⟨r.commits,bv r.heads n a⟩=true
   ·rw [if_pos h2,if_neg];rintro (q | q)
    ·exact h1 q
    ·rw [h2] at q; cases q
   ·rw [if_neg h2,if_pos (.inr (by simpa using h2))]
 ·rw [if_neg h,if_neg (by rw [<- b9]; exact h)]; rfl
theorem M6 {r:RepoD} (h:aF r=true) {n w:Str} (h1:0<=atL r.heads n) {o b:List FileD} (ho:aC o=true) (hb:aC b=true) :
  dy r n w o b=if (dK o (aj r (atL r.heads n)) b).2 then
   (if aF (cmL r n ⟨[atL r.heads n],w,(dK o (aj r (atL r.heads n)) b).1⟩) then (cmL r n ⟨[atL r.heads n],w,(dK o (aj r (atL r.heads n)) b).1⟩,0) else (r,5))
   else (r,4):=by
 have hlt:=gU h h1;unfold dy;rw [Ay ho (jB h ⟨h1,hlt⟩) hb];have hS:=h;rw [b9] at hS;have hH:=((be r).1 hS).2.1;by_cases hj:(bZ o (aj r (atL r.heads n)) b).2=[]
 ·rw [if_pos hj,if_pos hj];simp only [if_true];rw [u7 hH,b9]
 ·rw [if_neg hj,if_neg hj];simp
theorem Ew {r:RepoD} (h:aF r=true) {c:Int} (hc:0<=c/\c < r.commits.length):aC (er r c)=true:=by
 have hi:c.toNat < r.commits.length:=by omega
 obtain ⟨_,h2,_⟩:=gI h hi;have hg:r.commits.getD c.toNat default=r.commits[c.toNat]:=by simp [List.getD_eq_getElem?_getD,hi]
 unfold er;rw [hg];cases hp:r.commits[c.toNat].parents with
 | nil=>rfl
 | cons p ps =>
  have:=h2 p (by rw [hp]; simp)
  exact jB h ⟨this.1,by omega⟩
theorem L9 {r:RepoD} (h:aF r=true) {back:Bool} {n w:Str} {c:Int} (hx:atL r.heads n < 0 \/ aQ w=false \/ ¬ (0<=c/\c < r.commits.length)):ck back r n w c=(r,1):=by unfold ck; rw [if_pos (by rw [<- b9]; exact h),if_pos hx]
theorem Mo {r:RepoD} (h:aF r=true) {back:Bool} {n w:Str} {c:Int} (h1:0<=atL r.heads n) (h2:aQ w=true) (h3:0<=c/\c < r.commits.length) :
  ck back r n w c=if back then dy r n w (aj r c) (er r c) else dy r n w (er r c) (aj r c):=by
 unfold ck;rw [if_pos (by rw [<- b9]; exact h),if_neg]
 rintro (q | q | q)
 ·omega
 ·rw [h2] at q; cases q
 ·exact q h3

theorem Uni.ok {r:RepoD} {n w:Str} {b:Int} {X:RepoD × Int} (h:an r=true) (hu:Uni r n w b X):an X.1=true:=by
 cases hu with
 | form=>exact h
 | same _ _ _ _ _=>exact h
 | on _ _ _ _ _ _ hr=>exact hr
 | clash _ _ _ _ _=>exact h
 | full=>exact h
 | made _ _ _ _ _ _ _ _ hr=>exact hr
theorem Uni.keeps {r:RepoD} {n w:Str} {b:Int} {X:RepoD × Int} (hu:Uni r n w b X):r.commits <+: X.1.commits:=by
 cases hu with
 | made t _ _ _ _ _ _ _ _=>exact ⟨[⟨[atL r.heads n,b],w,t⟩],rfl⟩
 | _=>exact List.prefix_refl _
theorem Uni.other {r:RepoD} {n w m:Str} {b:Int} {X:RepoD × Int} (h:an r=true) (hu:Uni r n w b X) (hm:¬ n=m):atL X.1.heads m=atL r.heads m:=by
 have hH:=((be r).1 h).2.1;cases hu with
 | on _ _ _ _ _ _ _ =>
  show atL (bv r.heads n b) m=_
  rw [mT hH,if_neg hm]
 | made t _ _ _ _ _ _ _ _=>rw [oQ h,if_neg hm]
 | _=>rfl
def Came (r:RepoD) (n:Str) (z:Nat):Prop:=0<=atL r.heads n/\Rch r (atL r.heads n).toNat z
theorem Uni.came {r:RepoD} {n w:Str} {b:Int} {X:RepoD × Int} {z:Nat} (h:an r=true) (hu:Uni r n w b X) (hz:Came r n z):Came X.1 n z:=by
 have hH:=((be r).1 h).2.1;have hp:=j9 h;cases hu with
 | on h1 h2 h3 h4 h5 h6 h7 =>
  have e:atL (bv r.heads n b) n=b:=by rw [mT hH,if_pos rfl]
  refine ⟨by show 0<=atL (bv r.heads n b) n; rw [e]; exact h3,?_⟩
  show Rch ⟨r.commits,bv r.heads n b⟩ (atL (bv r.heads n b) n).toNat z
  rw [e];have:=(Rch.more (cs:=[]) (hs:=bv r.heads n b) hp (a:=b.toNat) (x:=z) (by omega)).2 (h6.trans hz.2)
  simpa using this
 | made t h1 h2 h3 h4 h5 h6 h7 h8 =>
  have e:atL (cq r n ⟨[atL r.heads n,b],w,t⟩).heads n=r.commits.length:=by rw [oQ h,if_pos rfl]
  have e2:((r.commits.length:Int)).toNat=r.commits.length:=by omega
  refine ⟨by rw [e]; omega,?_⟩
  rw [e,e2];have q:=ya (r:=r) n ⟨[atL r.heads n,b],w,t⟩ (p:=atL r.heads n) (by simp)
  exact q.trans ((Rch.more (cs:=[⟨[atL r.heads n,b],w,t⟩]) (hs:=bv r.heads n r.commits.length) hp (a:=(atL r.heads n).toNat) (x:=z) (by omega)).2 hz.2)
 | _=>exact hz
theorem Uni.got {r:RepoD} {n w:Str} {b:Int} {X:RepoD × Int} (h:an r=true) (hu:Uni r n w b X) (hc:X.2=0 \/ X.2=3 \/ X.2=2):(0<=b/\b < r.commits.length)/\Came X.1 n b.toNat:=by
 have hH:=((be r).1 h).2.1;cases hu with
 | form=>simp at hc
 | same h1 h2 h3 h4 h5=>exact ⟨⟨h3,h4⟩,h1,h5⟩
 | on h1 h2 h3 h4 h5 h6 h7 =>
  have e:atL (bv r.heads n b) n=b:=by rw [mT hH,if_pos rfl]
  refine ⟨⟨h3,h4⟩,by show 0<=atL (bv r.heads n b) n; rw [e]; exact h3,?_⟩
  show Rch ⟨r.commits,bv r.heads n b⟩ (atL (bv r.heads n b) n).toNat b.toNat
  rw [e]; exact .refl
 | clash=>simp at hc
 | full=>simp at hc
 | made t h1 h2 h3 h4 h5 h6 h7 h8 =>
  have e:atL (cq r n ⟨[atL r.heads n,b],w,t⟩).heads n=r.commits.length:=by rw [oQ h,if_pos rfl]
  have e2:((r.commits.length:Int)).toNat=r.commits.length:=by omega
  refine ⟨⟨h3,h4⟩,by rw [e]; omega,?_⟩
  rw [e,e2];exact ya (r:=r) n ⟨[atL r.heads n,b],w,t⟩ (p:=b) (by simp)
structure Onto (r:RepoD) (n:Str) (a:Int) (x:RepoD):Prop where
 ok:an x=true
 keeps:r.commits <+: x.commits
 came:Came x n a.toNat

structure Did (r:RepoD) (X:RepoD × Int):Prop where
 ok:an X.1=true
 keeps:r.commits <+: X.1.commits
 few:X.1.commits.length<=r.commits.length+1
 all:∀ m,0<=atL r.heads m->0<=atL X.1.heads m
 not:¬ X.2=0 -> ¬ X.2=3->X.1=r
theorem Did.same {r:RepoD} (h:an r=true) (c:Int):Did r (r,c):=⟨h,List.prefix_refl _,Nat.le_succ _,fun _ q=>q,fun _ _=>rfl⟩
theorem Did.add {r:RepoD} (h:an r=true) {n:Str} {c:CommitD} (hr:an (cq r n c)=true):Did r (cq r n c,0):=by
 refine ⟨hr,List.prefix_append _ _,by simp [cq],fun m q=>?_,fun q=>absurd rfl q⟩
 show 0<=atL (cq r n c).heads m
 rw [oQ h];split
 ·omega
 ·exact q
theorem Did.head {r:RepoD} (h:an r=true) {n:Str} {a k:Int} (ha:0<=a) (hr:an ⟨r.commits,bv r.heads n a⟩=true) (hk:k=0 \/ k=3):Did r (⟨r.commits,bv r.heads n a⟩,k):=by
 refine ⟨hr,List.prefix_refl _,by simp,fun m q=>?_,fun q1 q2=>by rcases hk with e | e <;> contradiction⟩
 show 0<=atL (bv r.heads n a) m
 rw [mT ((be r).1 h).2.1];split
 ·exact ha
 ·exact q
end Vx
end Go.Proofs.YthgfdbfmnbgkaaaGreatDoor
namespace Go.Proofs.YthgfdbfmnbgkaaaGreatDoor
namespace Vx
def GL (c:Nat):Nat:=if c % 2=1 then (c / 2) ^^^ 3988292384 else c / 2
def zo:Nat->Nat->Nat
 | 0,c=>c
 | n+1,c=>GL (zo n c)
def GK (l:Str):Nat:=l.foldl (fun c b=>zo 8 (c ^^^ b.toNat)) 4294967295
def pZ (l:Str):Nat:=GK l ^^^ 4294967295
end Vx
end Go.Proofs.YthgfdbfmnbgkaaaGreatDoor
namespace Go.Proofs.YthgfdbfmnbgkaaaGreatDoor
namespace Vx
open Go.RowKit
set_option maxRecDepth 8000
theorem zw:∀ (n:Nat),∀ b ∈ Lib.decDigits n,48<=b.toNat/\b.toNat<=57:=by
 intro n
 induction n using Nat.strongRecOn with
 | ind n ih =>
  rw [Lib.decDigits];split
  ·intro b hb;simp only [List.mem_singleton] at hb;subst hb;rw [UInt8.toNat_ofNat',Nat.mod_eq_of_lt (by omega)]; omega
  ·intro b hb;rw [List.mem_append] at hb;rcases hb with hb | hb
   ·exact ih _ (by omega) b hb
   ·simp only [List.mem_singleton] at hb;subst hb;rw [UInt8.toNat_ofNat',Nat.mod_eq_of_lt (by omega)]; omega
def iL (s:Str):Str:=Lib.decDigits (pZ s)++32 :: s
def gH (s:Str):Str:=iL s++[10]
theorem GR (n:Nat):(32:UInt8) ∉ Lib.decDigits n:=fun h=>by have:=zw n _ h; simp at this
theorem GQ (n:Nat):(10:UInt8) ∉ Lib.decDigits n:=fun h=>by have:=zw n _ h; simp at this
theorem jU {s:Str} (h:∀ b ∈ s,32 < b.toNat):(10:UInt8) ∉ s:=fun q=>by have:=h _ q; simp at this
theorem yH:∀ {t:List Str},(∀ l ∈ t,(10:UInt8) ∉ l)->(10:UInt8) ∉ bQ t
 | [],_=>by simp [bQ]
 | l :: t,h=>by
  have e:bQ (l :: t)=124 :: (l++bQ t):=rfl;have h1:=yH (t:=t) (fun x hx=>h x (by simp [hx]))
  have h2:=h l (by simp)
  rw [e];simp [h1,h2]
theorem KN {t:List Str} (h:eZ t=true):∀ l ∈ t,(10:UInt8) ∉ l:=by
 unfold eZ bg at h;simp only [Bool.and_eq_true,decide_eq_true_eq,List.all_eq_true] at h;intro l hl q;have:=h.2.2 l hl;unfold fG at this;simp only [Bool.and_eq_true,decide_eq_true_eq,List.all_eq_true] at this;have:=this.2 _ q;simp at this
theorem JB (k:Int):(10:UInt8) ∉ co k:=by
 unfold co
 repeat' split
 all_goals decide
theorem Nz {o:OpD} (h:opB o=true):(10:UInt8) ∉ ba o:=by
 obtain ⟨hn,h⟩:=mp h;have h0:=JB o.kind;have g1:=jU (iO hn.1);have g2:=jU (iO hn.2);have h3:(10:UInt8) ∉ cH o:=by
  rcases h with ⟨b,w,p,t,rfl,h1,h2⟩ | ⟨b,w,p,rfl,h1⟩ | ⟨b,w,p,q,rfl,h1,h2⟩ | ⟨b,w,q,rfl,h1⟩ | ⟨b,w,q,rfl,h1⟩ | ⟨b,w,a,rfl,h1,h2⟩ | ⟨b,w,a,rfl,h1,h2⟩
  ·have e:cH ⟨1,b,w,p,[],0,t⟩=p++32 :: bQ t:=rfl;have k1:=jU (kY (by rw [gF]; exact h1)).1
   have k2:=yH (KN h2);rw [e]; simp [k1,k2]
  ·have e:cH ⟨2,b,w,p,[],0,[]⟩=p:=rfl;rw [e]; exact jU (kY (by rw [gF]; exact h1)).1
  ·have e:cH ⟨3,b,w,p,q,0,[]⟩=p++32 :: q:=rfl;have k1:=jU (kY (by rw [gF]; exact h1)).1
   have k2:=jU (kY (by rw [gF]; exact h2)).1
   rw [e]; simp [k1,k2]
  ·exact jU (iO h1)
  ·exact jU (iO h1)
  ·have e:cH ⟨6,b,w,[],[],a,[]⟩=aW a.toNat:=rfl;rw [e]; have:a.toNat < 100:=by omega
   revert this; generalize a.toNat=n; revert n; decide
  ·have e:cH ⟨7,b,w,[],[],a,[]⟩=aW a.toNat:=rfl;rw [e]; have:a.toNat < 100:=by omega
   revert this; generalize a.toNat=n; revert n; decide
 unfold ba;simp [h0,g1,g2,h3]
theorem HU {o:OpD} (h:opB o=true):(10:UInt8) ∉ iL (ba o):=by
 unfold iL;simp [GQ,Nz h]
theorem CV (s:Str):2<=(gH s).length:=by unfold gH iL; simp; omega
theorem vQ {c:UInt8}:∀ {s:Str},c ∈ s -> ∃ w r,s=w++c :: r/\c ∉ w
 | x :: s,h=>by
  by_cases hx:x=c
  ·exact ⟨[],s,by simp [hx],by simp⟩
  ·obtain ⟨w,r,e,hw⟩:=vQ (c:=c) (s:=s) (by simpa [Ne.symm hx] using h)
   exact ⟨x :: w,r,by simp [e],by simp [hw,Ne.symm hx]⟩
theorem qa {c:UInt8} {w r:Str} (h:c ∉ w):aA (w++c :: r) c.toNat 1=[w,r]:=by
 unfold aA;rw [lW h (by omega),qe (Nat.le_refl 1)]; simp
theorem zp {c:UInt8} {w:Str} (h:c ∉ w):aA w c.toNat 1=[w]:=by
 unfold aA;rw [qf h]; simp
def kc (s:Str):Option (OpD × Nat) :=
 let w:=aA s 10 1
 let h:=aA (w.getD 0 []) 32 1
 if w.length=2/\h.length=2/\h.getD 0 []=Lib.decDigits (pZ (h.getD 1 []))/\(aK rdS (h.getD 1 [])).2=true then some ((aK rdS (h.getD 1 [])).1,(w.getD 0 []).length+1) else none
def DZ (f:Str->Option (OpD × Nat)):Prop:=∀ s o k,f s=some (o,k) ↔ (opB o=true/\k=(gH (ba o)).length/\gH (ba o) <+: s)
theorem CW (s r:Str):gH s++r=iL s++10 :: r:=by simp [gH]
theorem CX (s:Str):(gH s).length=(iL s).length+1:=by simp [gH]
theorem c10:((10:UInt8).toNat:Int)=10:=rfl
theorem c32:((32:UInt8).toNat:Int)=32:=rfl
theorem xE:DZ kc:=by
 intro s o k;constructor
 ·intro h;simp only [kc] at h;split at h
  ·rename_i q;obtain ⟨q1,q2,q3,q4⟩:=q
   injection h with h
   obtain ⟨h1,h2⟩:=Prod.mk.inj h;by_cases m:(10:UInt8) ∈ s
   ·obtain ⟨w,r,rfl,hw⟩:=vQ m;have e1:=qa (c:=10) (r:=r) hw;rw [c10] at e1;rw [e1] at q2 q3 q4 h1 h2;simp only [List.getD_cons_zero] at q2 q3 q4 h1 h2;by_cases m2:(32:UInt8) ∈ w
    ·obtain ⟨a,b,rfl,ha⟩:=vQ m2;have e2:=qa (c:=32) (r:=b) ha;rw [c32] at e2;rw [e2] at q3 q4 h1;simp only [List.getD_cons_zero,List.getD_cons_succ] at q3 q4 h1;obtain ⟨g1,g2⟩:=nJ q4;rw [h1] at g1 g2;have e3:a++32 :: b=iL (ba o):=by unfold iL; rw [g2,q3]
     refine ⟨g1,?_,r,?_⟩
     ·rw [<- h2,CX,e3]
     ·rw [CW,e3]
    ·have e2:=zp (c:=32) m2;rw [c32] at e2;rw [e2] at q2; simp at q2
   ·have e1:=zp (c:=10) m;rw [c10] at e1;rw [e1] at q1; simp at q1
  ·cases h
 ·rintro ⟨h1,h2,r,h3⟩;have e0:s=iL (ba o)++10 :: r:=by rw [<- h3,CW]
  have e1:=qa (c:=10) (r:=r) (HU h1);have e2:=qa (c:=32) (r:=ba o) (GR (pZ (ba o)));rw [c10] at e1;rw [c32] at e2;have e3:aA (iL (ba o)) 32 1=[Lib.decDigits (pZ (ba o)),ba o]:=e2;have e4:aK rdS (ba o)=(o,true):=vK (fun _ h=>CS h) h1;simp only [kc];rw [e0,e1];simp only [List.getD_cons_zero];rw [e3];simp only [List.getD_cons_zero,List.getD_cons_succ,e4];rw [if_pos ⟨rfl,rfl,trivial,trivial⟩,h2,CX]
def xU (c:Int):Bool:=decide (c=0) || decide (c=3)
def kZ:Nat->RepoD->Nat->Str->RepoD × Nat
 | 0,r,n,_=>(r,n)
 | f+1,r,n,s=>match kc s with
  | none=>(r,n)
  | some (o,k)=>if xU (aP r o).2=true then kZ f (aP r o).1 (n+k) (s.drop k) else (r,n)
def oq (j:Str) (r:RepoD) (n:Nat):RepoD × Nat:=kZ (j.length+1 - n) r n (j.drop n)
theorem NF {j:Str} {r:RepoD} {n:Nat} (hn:n<=j.length):oq j r n=match kc (j.drop n) with
  | none=>(r,n)
  | some (o,k)=>if xU (aP r o).2=true then oq j (aP r o).1 (n+k) else (r,n):=by
 unfold oq;rw [show j.length+1 - n=(j.length - n)+1 by omega,kZ]
 cases h:kc (j.drop n) with
 | none=>rfl
 | some x =>
  obtain ⟨o,k⟩:=x;obtain ⟨h1,h2,r',h3⟩:=(xE _ _ _).1 h;have hl:=congrArg List.length h3;rw [List.length_append,List.length_drop,<- h2] at hl;have hk:=CV (ba o);rw [<- h2] at hk;simp only;split
  ·have e:∀ (a b:Nat) (r:RepoD) (n:Nat) (s:Str),s.length < a->s.length < b->kZ a r n s=kZ b r n s:=by
    intro a
    induction a with
    | zero=>intro b r n s ha; omega
    | succ a ih =>
     intro b r n s ha hb;obtain ⟨b,rfl⟩:∃ b',b=b'+1:=⟨b - 1,by omega⟩
     rw [kZ,kZ];cases h:kc s with
     | none=>rfl
     | some x =>
      obtain ⟨o,k⟩:=x;obtain ⟨h1,h2,r',h3⟩:=(xE _ _ _).1 h;have hl:=congrArg List.length h3;rw [List.length_append,<- h2] at hl;have hk:=CV (ba o);rw [<- h2] at hk;simp only;split
      ·exact ih _ _ _ _ (by rw [List.length_drop]; omega) (by rw [List.length_drop]; omega)
      ·rfl
   rw [List.drop_drop];exact e _ _ _ _ _ (by rw [List.length_drop]; omega) (by rw [List.length_drop]; omega)
  ·rfl
inductive Goes:RepoD->Str->RepoD->Prop where
 | nil (r):Goes r [] r
 | cons {r o l x}:opB o=true->xU (aP r o).2=true->Goes (aP r o).1 l x->Goes r (gH (ba o)++l) x
theorem Goes.plR {r l x} (h:Goes r l x) (hr:plR r):plR x:=by
 induction h with
 | nil r=>exact hr
 | cons h1 h2 _ ih=>exact ih (zz hr)
theorem Goes.read {r l x} (h:Goes r l x):∀ {p t:Str},oq (p++(l++t)) r p.length=oq (p++(l++t)) x (p.length+l.length):=by
 induction h with
 | nil r=>intro p t; rfl
 | @cons r o l x h1 h2 _ ih =>
  intro p t;rw [NF (by simp),List.drop_left]
  have e:kc (gH (ba o)++l++t)=some (o,(gH (ba o)).length):=(xE _ _ _).2 ⟨h1,rfl,l++t,by simp⟩
  rw [e];simp only;rw [if_pos h2];have k:=ih (p:=p++gH (ba o)) (t:=t);simp only [List.length_append,List.append_assoc] at k ⊢;rw [k]
  congr 1
  omega
set_option maxHeartbeats 4000000
--TAB aB
def jq (o:OpD):Prop:=o.path.length<=1048576/\o.to_.length<=1048576/\o.text.length<=1048576
def tE:Con:=.fn 29 (RepoD × OpD × (List FileD × Bool)) (fun a=>[aM a.1,vOp a.2.1,.sl true 2 (ac a.2.2.1),.bool a.2.2.2]) (fun a=>dI a.1/\a.2.2.1.length<=1048576 /\ ∀ f ∈ a.2.2.1,f.text.length<=1048576) (fun a=>.tup [.agg [.sl false 3 (aD (dj a.1 a.2.1 a.2.2).1.commits),.sl false 2 (al (dj a.1 a.2.1 a.2.2).1.heads)],.int .i64 (dj a.1 a.2.1 a.2.2).2]) (fun _=>[])
theorem JS:Has Tryz.prog 123 tE:=by
 refine ah mixed aL (HasL.cons NU HasL.nil) [0,1,2,3,4,5,8,9,10,11] ((fun a n (_:Nat)=>(fun _=>az) a n)) [] Tryz.func123 (by unfold Tryz.f123; rfl) (fun _=>⟨(),trivial⟩) ?_
 intro a ha;obtain ⟨r,o,t,k⟩:=a;obtain ⟨h1,h2,h3⟩:dI r/\t.length<=1048576 /\ ∀ f ∈ t,f.text.length<=1048576:=ha;simp (maxSteps:=8000000) -implicitDefEqProofs [-kStep_move,-Bool.exists_bool,tE,uz,Con.fn,aB,ag,aN,bOp]
 try dsimp only
 simp -implicitDefEqProofs only [and_assoc,exists_eq_left,exists_and_left,RepoD.ex1,RepoD.eta,OpD.ex1,OpD.eta];refine ⟨fun h=>?_,fun h=>⟨h1,h2,h3,fun h'=>?_,fun h'=>?_⟩⟩
 ·unfold dj; rw [if_neg (by simp -implicitDefEqProofs [h])]; exact ⟨rfl,rfl,rfl⟩
 ·unfold dj; rw [if_pos h,if_neg (by simp -implicitDefEqProofs [h'])]; exact ⟨rfl,rfl,rfl⟩
 ·unfold dj; rw [if_pos h,if_pos h']; exact ⟨rfl,rfl,rfl⟩
theorem DL {t:List FileD} (h:aR t=true) (f:FileD):aR (iB t f).1=true:=by
 unfold iB;rw [if_pos h];split
 ·assumption
 ·exact h
theorem DI {t:List FileD} (h:aR t=true) (p to:Str):aR (ep t p to).1=true:=by
 unfold ep;rw [if_pos h];split
 ·exact h
 ·split
  ·exact h
  ·rename_i q;cases q2:aR (cU p to (aE (bH p) t) t) with
   | true=>rfl
   | false=>exact absurd (.inl q2) q
theorem xO {t:List FileD} (h:aR t=true) (p:Str):szT (fX t p).1:=by
 unfold fX aE;rw [if_pos h];obtain ⟨h1,h2⟩:=gO h;exact ⟨Nat.le_trans (List.length_filter_le _ _) h1,fun f hf=>h2 f (List.mem_filter.1 hf).1⟩
theorem mL {t:List FileD} (h:aR t=true):∀ f ∈ t,f.path.length<=20:=fun f hf=>(mK (by rw [eI]; exact h) f hf).1.2
theorem gM {t:List FileD} (h:szT t):t.length<=1048576 /\ ∀ f ∈ t,f.text.length<=1048576:=⟨by have:=h.1; omega,fun f hf=>by have:=h.2 f hf; omega⟩
theorem DK {r:RepoD} (h:an r=true) (n:Str):aR (dR r n)=true:=by
 unfold dR;split
 ·exact du h _
 ·rfl
def tC:Con:=.fn 134 (RepoD × OpD) (fun a=>[aM a.1,vOp a.2]) (fun a=>an a.1=true/\jq a.2) (fun a=>.tup [.agg [.sl false 3 (aD (aP a.1 a.2).1.commits),.sl false 2 (al (aP a.1 a.2).1.heads)],.int .i64 (aP a.1 a.2).2]) (fun _=>[])
theorem JO:Has Tryz.prog 66 tC:=by
 refine ah mixed aL (HasL.cons jk (HasL.cons PJ (HasL.cons PD (HasL.cons PG (HasL.cons JS (HasL.cons NP (HasL.cons PU (HasL.cons MM (HasL.cons MK HasL.nil))))))))) [0,1,2,3,4,5,6,7,8,9,10,11,12,13,14,15,30] ((fun a n (_:Nat)=>(fun _=>az) a n)) [] Tryz.func66 (by unfold Tryz.f66; rfl) (fun _=>⟨(),trivial⟩) ?_
 intro a ha;obtain ⟨r,o⟩:=a;obtain ⟨h1,h2,h3,h4⟩:an r=true/\jq o:=ha;simp (maxSteps:=8000000) -implicitDefEqProofs [-kStep_move,-Bool.exists_bool,tC,gm,uR,uN,uP,tE,uw,uT,ut,ur,Con.fn,aB,ag,aN,bOp]
 try dsimp only
 simp -implicitDefEqProofs only [and_assoc,exists_eq_left,exists_and_left,RepoD.ex1,RepoD.eta,OpD.ex1,OpD.eta];have hsz:=oC h1;have hat:=mS (n:=o.branch) ((be r).1 h1).2.1;have hT:=DK h1 o.branch;have e1:o.kind=1->aP r o=dj r o (iB (dR r o.branch) ⟨o.path,o.text⟩):=fun h=>by unfold aP; rw [if_pos h]
 have e2:o.kind=2->aP r o=dj r o (fX (dR r o.branch) o.path):=fun h=>by unfold aP; rw [if_neg (by omega),if_pos h]
 have e3:o.kind=3->aP r o=dj r o (ep (dR r o.branch) o.path o.to_):=fun h=>by unfold aP; rw [if_neg (by omega),if_neg (by omega),if_pos h]
 have e4:o.kind=4->(db r o.to_ (atL r.heads o.branch)).2=true->aP r o=((db r o.to_ (atL r.heads o.branch)).1,0):=fun h h'=>by unfold aP; rw [if_neg (by omega),if_neg (by omega),if_neg (by omega),if_pos h,if_pos h']
 have e4':o.kind=4->(db r o.to_ (atL r.heads o.branch)).2=false->aP r o=(r,1):=fun h h'=>by unfold aP; rw [if_neg (by omega),if_neg (by omega),if_neg (by omega),if_pos h,if_neg (by simp -implicitDefEqProofs [h'])]
 have e5:o.kind=5->aP r o=cI r o.branch o.who (atL r.heads o.to_):=fun h=>by unfold aP; rw [if_neg (by omega),if_neg (by omega),if_neg (by omega),if_neg (by omega),if_pos h]
 have e6:o.kind=6->aP r o=ck false r o.branch o.who o.at_:=fun h=>by unfold aP; rw [if_neg (by omega),if_neg (by omega),if_neg (by omega),if_neg (by omega),if_neg (by omega),if_pos h]
 have e7:¬ o.kind=1 -> ¬ o.kind=2 -> ¬ o.kind=3 -> ¬ o.kind=4 -> ¬ o.kind=5 -> ¬ o.kind=6->aP r o=ck true r o.branch o.who o.at_:=fun k1 k2 k3 k4 k5 k6=>by unfold aP; rw [if_neg k1,if_neg k2,if_neg k3,if_neg k4,if_neg k5,if_neg k6]
 have s1:=gM (gO (DL hT ⟨o.path,o.text⟩));have s2:=gM (xO hT o.path);have s3:=gM (gO (DI hT o.path o.to_));have s0:=gO hT;have sp:=mL hT;have sp:∀ f ∈ dR r o.branch,f.path.length<=1048576:=fun f hf=>by have:=sp f hf; omega
 have sl:(dR r o.branch).length<=1048575:=by have:=s0.1; omega
 have st:=(gM s0).2;refine ⟨fun hp=>⟨hp,by omega,fun _ _=>?_⟩,fun hn=>?_⟩
 ·have ca:=eU (r:=r) hp (by omega)
  have eT:aj r (atL r.heads o.branch)=dR r o.branch:=by unfold dR; rw [if_pos hp]
  rw [ca,eT];simp -implicitDefEqProofs [D.asRows];exact ⟨fun h=>⟨sl,st,h4,hsz,s1.1,s1.2,by rw [e1 h]; exact ⟨rfl,rfl,rfl⟩⟩,fun k1=>⟨fun h=>⟨(gM s0).1,st,hsz,s2.1,s2.2,by rw [e2 h]; exact ⟨rfl,rfl,rfl⟩⟩,fun k2=>⟨fun h=>⟨(gM s0).1,st,h3,sp,hsz,s3.1,s3.2,by rw [e3 h]; exact ⟨rfl,rfl,rfl⟩⟩,fun k3=>⟨fun h=>⟨hsz,fun h'=>by rw [e4' h h']; exact ⟨rfl,rfl,rfl⟩,fun h'=>by rw [e4 h h']; exact ⟨rfl,rfl,rfl⟩⟩,fun k4=>⟨fun h=>⟨hsz,by rw [e5 h]; exact ⟨rfl,rfl,rfl⟩⟩,fun k5=>⟨fun h=>⟨hsz,by rw [e6 h]; exact ⟨rfl,rfl,rfl⟩⟩,fun k6=>⟨hsz,by rw [e7 k1 k2 k3 k4 k5 k6]; exact ⟨rfl,rfl,rfl⟩⟩⟩⟩⟩⟩⟩⟩
 ·have eT:dR r o.branch=[]:=by unfold dR; rw [if_neg (by omega)]
  simp -implicitDefEqProofs only [FileD.ex1];rw [<- eT];exact ⟨fun h=>⟨sl,st,h4,hsz,s1.1,s1.2,by rw [e1 h]; exact ⟨rfl,rfl,rfl⟩⟩,fun k1=>⟨fun h=>⟨(gM s0).1,st,hsz,s2.1,s2.2,by rw [e2 h]; exact ⟨rfl,rfl,rfl⟩⟩,fun k2=>⟨fun h=>⟨(gM s0).1,st,h3,sp,hsz,s3.1,s3.2,by rw [e3 h]; exact ⟨rfl,rfl,rfl⟩⟩,fun k3=>⟨fun h=>⟨hsz,fun h'=>by rw [e4' h h']; exact ⟨rfl,rfl,rfl⟩,fun h'=>by rw [e4 h h']; exact ⟨rfl,rfl,rfl⟩⟩,fun k4=>⟨fun h=>⟨hsz,by rw [e5 h]; exact ⟨rfl,rfl,rfl⟩⟩,fun k5=>⟨fun h=>⟨hsz,by rw [e6 h]; exact ⟨rfl,rfl,rfl⟩⟩,fun k6=>⟨hsz,by rw [e7 k1 k2 k3 k4 k5 k6]; exact ⟨rfl,rfl,rfl⟩⟩⟩⟩⟩⟩⟩⟩
def noA:Str:=[110,111]
def gQ:Str:=[119,104,97,116]
def fk (t:List FileD):Str:=t.flatMap fun f=>f.path++[44]
def ew (r:RepoD) (c:Str) (at_:Int):Str:=if c=[102,105,108,101,115] then fk (aj r at_) else if c=[102,114,111,109] then c7 (ak (anc r at_)) else gQ
def cK (r:RepoD) (c:Str) (at_:Int) (p:Str):Str:=if c=[115,104,111,119] then (if (au (aj r at_) p).2=true then dU (au (aj r at_) p).1 else noA) else if c=[98,108,97,109,101] then c7 (blm r p 16 at_) else if c=[108,111,103] then c7 (fa r at_ p) else if c=[98,97,115,101,115]/\0<=atL r.heads p then c7 (eh r at_ (atL r.heads p)) else gQ
def bP (r:RepoD) (w:List Str):Str:=if atL r.heads (w.getD 1 []) < 0 then noA else if w.length=2 then ew r (w.getD 0 []) (atL r.heads (w.getD 1 [])) else cK r (w.getD 0 []) (atL r.heads (w.getD 1 [])) (w.getD 2 [])
def bC (r:RepoD) (s:Str):RepoD × Str :=
 if (aK rdS s).2=true then ((aP r (aK rdS s).1).1,codeW.getD (aP r (aK rdS s).1).2.toNat default)
 else if s=[97,108,108] then (r,aW r.commits.length++[32]++aW r.heads.length)
 else if s=[107,101,101,112] then (keepR r,aW (keepR r).commits.length)
 else if (aA s 32 3).length=2 \/ (aA s 32 3).length=3 then (r,bP r (aA s 32 3)) else (r,gQ)
def eR (x:RepoD × Str) (s:Str):RepoD × Str:=((bC x.1 s).1,x.2++((bC x.1 s).2++[10]))
def cD (l:List Str):RepoD × Str:=l.foldl eR (noR,[])
def eH (l:List Str):Str:=(cD (l.take 40)).2
theorem Dp {l:List Str} {i:Nat} (h:i < l.length):cD (l.take (i+1))=eR (cD (l.take i)) l[i]:=by
 unfold cD;rw [aX h,List.foldl_append]; rfl
def c5 (x:RepoD × Int):Prop:=0<=x.2/\x.2<=5
theorem F3 {p:Prop} [Decidable p] {a b:RepoD × Int} (ha:c5 a) (hb:c5 b):c5 (if p then a else b):=by split <;> assumption
theorem zy (r:RepoD) (o:OpD):0<=(aP r o).2/\(aP r o).2<=5:=by
 show c5 (aP r o)
 unfold aP dj cI dS ck dy
 repeat' (first | apply F3 | exact ⟨by simp,by simp⟩)
theorem Be {r:RepoD} (h:plR r) (s:Str):plR (bC r s).1:=by
 unfold bC;split
 ·exact zz h
 ·split
  ·exact h
  ·split
   ·have:=Js h; unfold wb at this; rw [if_pos h.1] at this; exact this
   ·split <;> exact h
theorem xw (l:List Str):plR (cD l).1:=by
 unfold cD;have:∀ (l:List Str) (x:RepoD × Str),plR x.1->plR (l.foldl eR x).1:=by
  intro l
  induction l with
  | nil=>intro x h; exact h
  | cons s l ih=>intro x h; rw [List.foldl_cons]; exact ih _ (Be h s)
 exact this l _ CF
theorem rn {t:List FileD} (h:∀ f ∈ t,f.path.length<=20):(fk t).length<=21 * t.length:=by
 unfold fk
 induction t with
 | nil=>simp
 | cons x t ih =>
  have h1:=ih fun y hy=>h y (by simp -implicitDefEqProofs [hy])
  have h2:=h x (by simp)
  rw [List.flatMap_cons,List.length_append,List.length_append,List.length_cons,List.length_cons,List.length_nil];omega
theorem CD {t:List FileD} {i:Nat} (h:i < t.length):fk (t.take (i+1))=fk (t.take i)++t[i].path++[44]:=by
 unfold fk;rw [aX h,List.flatMap_append]; simp
theorem sE {r:RepoD} (h:an r=true) (p:Str) (a:Int):(blm r p 16 a).length<=64:=by
 rw [sF];exact ii (iA _ (du h a)).2 p
theorem wS {r:RepoD} (h:an r=true) (a:Int) (p:Str):(fa r a p).length<=16:=by
 have h2:=Bq r a p 0;have:=ik (anc r a) (anc r a).length;rw [ci] at this;have hn:=((be r).1 h).2.2;unfold ak at h2;rw [ci] at h2;unfold fa;omega
theorem oW {r:RepoD} (h:an r=true) (a:Int):(ak (anc r a)).length<=16:=by
 have:=ik (anc r a) (anc r a).length;rw [ci] at this;have hn:=((be r).1 h).2.2;unfold ak;rw [ci];omega
theorem xI {t:List Str} (h:bg t=true):t.length<=10 /\ ∀ l ∈ t,l.length<=12:=by
 simp only [bg,Bool.and_eq_true,decide_eq_true_eq,List.all_eq_true] at h;refine ⟨h.1,fun l hl=>?_⟩;have:=h.2 l hl;simp only [fG,Bool.and_eq_true,decide_eq_true_eq] at this;exact this.1
theorem vL {r:RepoD} (h:an r=true) (a:Int) (p:Str):bg (au (aj r a) p).1=true:=qn (by rw [eI]; exact du h a) p
theorem ET {r:RepoD} (h:an r=true) (w:List Str):(bP r w).length<=400:=by
 unfold bP;split
 ·simp -implicitDefEqProofs [noA]
 ·split
  ·unfold ew;split
   ·have h1:=rn (mL (du h (atL r.heads (w.getD 1 []))));have h2:=oI (du h (atL r.heads (w.getD 1 [])));omega
   ·split
    ·have h1:=lX (ak (anc r (atL r.heads (w.getD 1 []))));have h2:=oW h (atL r.heads (w.getD 1 []));omega
    ·simp -implicitDefEqProofs [gQ]
  ·unfold cK;split
   ·split
    ·obtain ⟨h1,h2⟩:=xI (vL h (atL r.heads (w.getD 1 [])) (w.getD 2 []));have:(dU (au (aj r (atL r.heads (w.getD 1 []))) (w.getD 2 [])).1).length<=13 * (au (aj r (atL r.heads (w.getD 1 []))) (w.getD 2 [])).1.length:=by
      generalize (au (aj r (atL r.heads (w.getD 1 []))) (w.getD 2 [])).1=t at *;unfold dU;clear h1
      induction t with
      | nil=>simp
      | cons x t ih =>
       have h3:=ih fun y hy=>h2 y (by simp -implicitDefEqProofs [hy])
       have h4:=h2 x (by simp)
       rw [List.flatMap_cons,List.length_append,List.length_cons,List.length_cons];omega
     omega
    ·simp -implicitDefEqProofs [noA]
   ·split
    ·have h1:=lX (blm r (w.getD 2 []) 16 (atL r.heads (w.getD 1 [])));have h2:=sE h (w.getD 2 []) (atL r.heads (w.getD 1 []));omega
    ·split
     ·have h1:=lX (fa r (atL r.heads (w.getD 1 [])) (w.getD 2 []));have h2:=wS h (atL r.heads (w.getD 1 [])) (w.getD 2 []);omega
     ·split
      ·have h1:=lX (eh r (atL r.heads (w.getD 1 [])) (atL r.heads (w.getD 2 [])));have h2:=o7 (by rw [b9]; exact h) (a:=atL r.heads (w.getD 1 [])) (b:=atL r.heads (w.getD 2 []))
       omega
      ·simp -implicitDefEqProofs [gQ]
theorem Gw (k:Nat):(codeW.getD k default).length<=5:=by
 unfold codeW
 match k with
 | 0 | 1 | 2 | 3 | 4 | 5 | 6=>simp
 | k+7=>simp -implicitDefEqProofs [List.getD_eq_getElem?_getD]; decide
theorem jd (n:Nat):(aW n).length<=2:=by unfold aW; split <;> simp
theorem wL {r:RepoD} (h:an r=true) (s:Str):(bC r s).2.length<=400:=by
 unfold bC;split
 ·have:=Gw (aP r (aK rdS s).1).2.toNat
  show (codeW.getD (aP r (aK rdS s).1).2.toNat default).length<=400
  omega
 ·split
  ·have h1:=jd r.commits.length;have h2:=jd r.heads.length;simp only [List.length_append,List.length_cons,List.length_nil];omega
  ·split
   ·have h1:=jd (keepR r).commits.length
    show (aW (keepR r).commits.length).length<=400
    omega
   ·split
    ·exact ET h _
    ·simp -implicitDefEqProofs [gQ]
theorem Do (l:List Str):(cD l).2.length<=401 * l.length:=by
 have:∀ (l:List Str) (x:RepoD × Str),plR x.1->(l.foldl eR x).2.length<=x.2.length+401 * l.length:=by
  intro l
  induction l with
  | nil=>intro x _; simp
  | cons s l ih =>
   intro x h;rw [List.foldl_cons];have h1:=ih (eR x s) (Be h s);have h2:=wL h.1 s;have h3:(eR x s).2.length=x.2.length+((bC x.1 s).2.length+1):=by simp -implicitDefEqProofs [eR]
   rw [List.length_cons];omega
 have:=this l (noR,[]) CF;unfold cD
 simpa using this
def Con.view (k:Con) (K:Nat) (rows:k.A->k.X->List (List D)):Con:={ k with res:=fun a x=>.sl false K (rows a x),fin:=fun _ _=>[] }
theorem Has.view {P:Program} {f:Nat} {k:Con} (H:Has P f k) (K:Nat) (rows:k.A->k.X->List (List D)) (hr:∀ a x,k.res a x = .own 8 K (rows a x)) (hb:∀ a,k.boxes a=[]) (hl:k.lends=[]):Has P f (k.view K rows):=by
 suffices key:∀ (a:k.A),k.pre a -> ∀ (c:Cx) (_:Kn k.need c) (vs:List Value) (β:Nat->Value) (fp:Nat->List (Nat × Nat)),c.n=k.n->c.pins=k.pins2 a β -> vs.length=(k.args a).length->vs.length<=k.n ->
   SatI c (k.start2 a) ⟨vs.toArray++Array.replicate (k.n - vs.length) undef,[]⟩ c.w0 β fp ->
   Calls P f vs.toArray c.w0 fun e w'=>∃ x:k.X,k.post a x /\ ∃ v,e = .returned v /\ ∃ β' fp' a',SatI c ⟨fun _=>none,ai []⟩ a' w' β' fp'/\RelL w' (ai []) β' c [.sl false K (rows a x)] [v] by
  exact ⟨H.enter,H.tot,H.nob,fun (a:k.A) ha c hky vs β fp hn hpin hlen hlen2 S=>key a ha c hky vs β fp hn hpin hlen hlen2 S,H.bldr,H.bt.imp id fun h a=>⟨(h a).1,fun x p hp=>(by cases hp)⟩⟩
 intro a ha c hky vs β fp hn hpin hlen hlen2 S;have hp:c.pins=[]:=by rw [hpin]; simp -implicitDefEqProofs [Con.pins2,hb,hl]
 refine (H.calls a ha c hky vs β fp hn hpin hlen hlen2 S).mono ?_;rintro e w' ⟨x,hx,v,rfl,β',fp',a',E,hv⟩;rw [hr] at hv;have hv2:∃ e,Vw w' (ai (k.fin a x)) β' c false [.sl e K (rows a x)] [v]:=by cases hv with | own _ h2 _ _=>exact h2
 obtain ⟨e,f,h1,h2⟩:=hv2;refine ⟨x,hx,v,rfl,β',fp',a',⟨?_,?_,?_,?_,?_,E.fg,E.old,E.os,E.tape,E.output,E.size,E.defers,E.tn,by simp -implicitDefEqProofs [hp]⟩,.sl ⟨e,f,h1,fun z hz=>⟨⟨?_,?_⟩,(h2 z hz).2⟩⟩ .lnil⟩
 ·intro t g av h; cases h
 ·intro h blk hm; cases hm
 ·intro h blk hm; cases hm
 ·intro h h' blk blk' hm; cases hm
 ·intro h blk hm; cases hm
 ·rintro ⟨h,ty,vs,hm,_⟩; cases hm
 ·intro h e k d R n cc hm; cases hm
--TAB aB
theorem areB_iff {r:RepoD} {l:List Int}:ev r l=true ↔ aF r=true /\ ∀ a ∈ l,0<=a/\a < r.commits.length:=by
 unfold ev;simp only [Bool.and_eq_true,List.all_eq_true,decide_eq_true_eq];constructor
 ·rintro ⟨h1,h2⟩; exact ⟨h1,fun a ha=>by have:=h2 a ha; omega⟩
 ·rintro ⟨h1,h2⟩; exact ⟨h1,fun a ha=>by have:=h2 a ha; omega⟩
--TAB aB
def sP:Con:=.fn 8 (List Bool) (fun a=>[.sl true 1 (aJ a)]) (fun a=>a ≠ []/\a.length<=1048576) (fun a=>.own 8 1 (aJ a)) (fun a=>w9 8 a)
theorem Gm:Has Tryz.prog 169 sP:=by
 refine ah mixed aL HasL.nil [0,2] ((fun a n (_:Nat)=>(fun _=>az) a n)) [] Tryz.func169 (by unfold Tryz.f169; rfl) (fun _=>⟨(),trivial⟩) ?_
 intro (a:List Bool) ha;obtain ⟨h0,ha⟩:a ≠ []/\a.length<=1048576:=ha;have h1:¬ aJ a=[]:=by simpa [aJ] using h0
 simp (maxSteps:=8000000) -implicitDefEqProofs [-Bool.exists_bool,sP,Con.fn,aB,ag,h1]
 try dsimp only
 refine ⟨fun x hx d hd=>?_,by omega⟩
 simp only [aJ,List.mem_map] at hx;obtain ⟨y,_,rfl⟩:=hx;simp only [cz,List.mem_singleton] at hd;subst hd; trivial
def dw (r:RepoD) (a b:Int) (i:Nat):List Bool:=(List.range r.commits.length).map fun j=>decide (j < i) && (isT (anc r a) j && isT (anc r b) j)
theorem Gz (r a b i):(dw r a b i).length=r.commits.length:=by simp -implicitDefEqProofs [dw]
theorem zi (r a b):dw r a b 0=List.replicate r.commits.length false:=by
 unfold dw;apply List.ext_getElem
 ·simp
 ·intro i h1 h2; simp
theorem zj {r a b} {i j:Nat} (h:j < (dw r a b i).length):(dw r a b i)[j]=(decide (j < i) && (isT (anc r a) j && isT (anc r b) j)):=by simp -implicitDefEqProofs [dw]
theorem GA {r a b} {i:Nat}:(dw r a b i).set i (isT (anc r a) i && isT (anc r b) i)=dw r a b (i+1):=by
 apply List.ext_getElem
 ·simp -implicitDefEqProofs [dw]
 ·intro j h1 h2;rw [List.getElem_set,zj h2];by_cases e:i=j
  ·subst e; simp
  ·rw [if_neg e,zj];have:decide (j < i+1)=decide (j < i):=by rw [decide_eq_decide]; omega
   rw [this]
theorem Gy (r a b):dw r a b r.commits.length=aY r a b:=by
 unfold dw aY;apply List.map_congr_left;intro j hj;have:j < r.commits.length:=by simpa using hj
 simp -implicitDefEqProofs [this]
theorem Fz {r:RepoD} {L:List Int} {C:List Bool} {i:Nat} (h:i < L.length):ei r (L.take (i+1)) C=ek (ei r (L.take i) C) L[i] (ak (anc r L[i])):=by
 unfold ei;rw [aX h,List.foldl_append]; rfl
theorem Gp {i:Int} {ks:List Int} {l:List Bool} {k:Nat} (h:k < ks.length):ek l i (ks.take (k+1))=if ks[k]=i then ek l i (ks.take k) else (ek l i (ks.take k)).set ks[k].toNat false:=by
 unfold ek;rw [aX h,List.foldl_append]; rfl
def bsA (r:RepoD) (a b:Int):Inv:=⟨Nat,fun i=>⟨[(3,true,.ptr 10 0),(6,true,.nil),(7,true,.own 11 1 (aJ (anc r a))),(8,true,.own 12 1 (aJ (anc r b))),(9,true,.own 13 1 (aJ (dw r a b i))),(27,true,.int .i64 r.commits.length),(28,true,.int .i64 i)],
 [(10,bG r),(11,.own 4 1 true (aJ (anc r a))),(12,.own 4 1 true (aJ (anc r b))),(13,.own 4 1 true (aJ (dw r a b i)))]⟩,fun i=>i<=r.commits.length,fun i=>r.commits.length - i⟩
def bsB (r:RepoD) (a b:Int):Inv:=⟨Nat,fun i=>⟨[(3,true,.ptr 10 0),(6,true,.nil),(11,true,.own 14 1 (aJ (ei r ((ak (aY r a b)).take i) (aY r a b)))),(48,true,.own 15 1 (ae (ak (aY r a b)))),(49,true,.int .i64 (ak (aY r a b)).length),(50,true,.int .i64 i)],
 [(10,bG r),(14,.own 4 1 true (aJ (ei r ((ak (aY r a b)).take i) (aY r a b)))),(15,.own 3 1 true (ae (ak (aY r a b))))]⟩,fun i=>i<=(ak (aY r a b)).length,fun i=>(ak (aY r a b)).length - i⟩
def bsX (r:RepoD) (a b:Int) (g:Nat):Int:=(ak (aY r a b)).getD g 0
def bsT (r:RepoD) (a b:Int) (g k:Nat):List Bool:=ek (ei r ((ak (aY r a b)).take g) (aY r a b)) (bsX r a b g) ((ak (anc r (bsX r a b g))).take k)
def bsC (r:RepoD) (a b:Int) (g:Nat):Inv:=⟨Nat,fun k=>⟨[(3,true,.ptr 10 0),(6,true,.nil),(11,true,.own 14 1 (aJ (bsT r a b g k))),(13,true,.int .i64 (bsX r a b g)),(48,true,.own 15 1 (ae (ak (aY r a b)))),(49,true,.int .i64 (ak (aY r a b)).length),(50,true,.int .i64 g),(57,true,.own 9 1 (ae (ak (anc r (bsX r a b g))))),(58,true,.int .i64 (ak (anc r (bsX r a b g))).length),(59,true,.int .i64 k)],
 [(10,bG r),(14,.own 4 1 true (aJ (bsT r a b g k))),(15,.own 3 1 true (ae (ak (aY r a b)))),(9,.own 3 1 true (ae (ak (anc r (bsX r a b g)))))]⟩,fun k=>g < (ak (aY r a b)).length/\k<=(ak (anc r (bsX r a b g))).length,fun k=>(ak (anc r (bsX r a b g))).length - k⟩
def pe (r:RepoD) (a b:Int) (n g:Nat):Inv:=if n=4 then bsA r a b else if n=10 then bsB r a b else bsC r a b g
theorem FT (r a b g):pe r a b 4 g=bsA r a b:=rfl
theorem FQ (r a b g):pe r a b 10 g=bsB r a b:=rfl
theorem FS (r a b g):pe r a b 13 g=bsC r a b g:=rfl
def pj:Con:=.fn 73 (RepoD × Int × Int) (fun a=>[aM a.1,.int .i64 a.2.1,.int .i64 a.2.2]) (fun a=>aF a.1=true/\(0<=a.2.1/\a.2.1 < a.1.commits.length)/\(0<=a.2.2/\a.2.2 < a.1.commits.length)) (fun a=>.own 8 1 (ae (dh a.1 a.2.1 a.2.2))) (fun a=>dY 8 (dh a.1 a.2.1 a.2.2))
theorem yK:Has Tryz.prog 91 pj:=by
 refine ah mixed aL (HasL.cons mR (HasL.cons Gm (HasL.cons nS HasL.nil))) [0,1,2,3,6,7,8,9,10,11,13,15,27,28,48,49,50,57,58,59] (fun a=>pe a.1 a.2.1 a.2.2) [] Tryz.func91 (by unfold Tryz.f91; rfl) (fun _=>⟨(),trivial⟩) ?_
 intro a ha;obtain ⟨r,a,b⟩:=a;obtain ⟨h1,h2,h3⟩:aF r=true/\(0<=a/\a < r.commits.length)/\(0<=b/\b < r.commits.length):=ha;have h6:=fS h1;simp (maxSteps:=8000000) [pj,kz,sP,kF,Con.fn,aB,ag,FT,FQ,FS,bsA,bsB,bsC,aN]
 try dsimp only
 try simp only [and_assoc,exists_eq_left,exists_and_left,RepoD.ex1,RepoD.eta]
 have hal:=ci r;have hC:=Gz r a b;have hcb:=pW r a b;refine ⟨h1,h2.1,h2.2,h1,h3.1,h3.2,fun _=>⟨by omega,fun _ _=>⟨trivial,trivial,⟨0,?_,rfl,trivial,trivial,?_,Nat.zero_le _⟩,fun i hi=>⟨fun hlt=>?_,fun hge=>?_⟩⟩⟩⟩
 ·rw [zi,gr]
 ·rw [zi,gr]
 ·have la:i < (anc r a).length:=by rw [hal]; exact hlt
  have lb:i < (anc r b).length:=by rw [hal]; exact hlt
  have lc:i < (dw r a b i).length:=by rw [hC]; exact hlt
  have e1:Option.map cz (anc r a)[i]? = some (cz (anc r a)[i]):=by simp -implicitDefEqProofs [la]
  have e2:Option.map cz (anc r b)[i]? = some (cz (anc r b)[i]):=by simp -implicitDefEqProofs [lb]
  have s1:=GA (r:=r) (a:=a) (b:=b) (i:=i);have i1:isT (anc r a) i=(anc r a)[i]:=by simp -implicitDefEqProofs [isT,List.getD_eq_getElem?_getD,la]
  have i2:isT (anc r b) i=(anc r b)[i]:=by simp -implicitDefEqProofs [isT,List.getD_eq_getElem?_getD,lb]
  rw [i1,i2] at s1;rw [e1,e2];generalize (anc r a)[i]=x at *;generalize (anc r b)[i]=y at *;have fin:∀ z,z=(x && y) -> ∃ t',aJ (dw r a b t')=(aJ (dw r a b i)).set i [D.bool z]/\(t':Int)=i+1/\(aJ (dw r a b i)).set i [D.bool z]=aJ (dw r a b t')/\t'<=r.commits.length/\r.commits.length - t' < r.commits.length - i:=fun z hz=>by
   have e:(aJ (dw r a b i)).set i [D.bool z]=aJ (dw r a b (i+1)):=by rw [<- s1,hz]; exact el _ _ _
   exact ⟨i+1,e.symm,by omega,e,by omega,by omega⟩
  simp -implicitDefEqProofs [cz,D.asBool,lc,la,lb];exact ⟨fun hx=>⟨by omega,by omega,fun _ _=>fin y (by rw [hx]; rfl)⟩,fun hx=>⟨by omega,by omega,fun _ _=>fin false (by rw [hx]; rfl)⟩⟩
 ·have:i=r.commits.length:=by omega
  subst this;rw [Gy];have hne:¬ aY r a b=[]:=fun e=>by rw [e] at hcb; simp at hcb; omega
  have hmem:∀ x ∈ ak (aY r a b),0<=x/\x < r.commits.length:=fun x hx=>by
   obtain ⟨i,q1,_,rfl⟩:=listT_mem.1 hx;rw [hcb] at q1;omega
  refine ⟨hne,by omega,by omega,fun _=>⟨⟨0,by simp -implicitDefEqProofs [ei],rfl,rfl,rfl,by simp -implicitDefEqProofs [ei],rfl,Nat.zero_le _⟩,fun i hi=>⟨fun hlt=>⟨hlt,fun _=>?_⟩,fun hge=>?_⟩⟩⟩
  ·have hx:=hmem _ (List.getElem_mem hlt);have e1:Option.map ap (ak (aY r a b))[i]? = some (ap (ak (aY r a b))[i]):=by simp -implicitDefEqProofs [hlt]
   have hgx:bsX r a b i=(ak (aY r a b))[i]:=by simp -implicitDefEqProofs [bsX,List.getD_eq_getElem?_getD,hlt]
   have hs:=Fz (r:=r) (C:=aY r a b) hlt;have hT:∀ k,bsT r a b i k=ek (ei r ((ak (aY r a b)).take i) (aY r a b)) (bsX r a b i) ((ak (anc r (bsX r a b i))).take k):=fun _=>rfl;have hbl:=o9 r ((ak (aY r a b)).take i) (aY r a b);rw [e1];rw [<- hgx] at hs hx ⊢;generalize hxx:bsX r a b i=x at *;simp -implicitDefEqProofs [ap,D.asInt,h1,hx.1,hx.2,hal];refine ⟨by omega,fun _=>⟨i,?_⟩⟩
   rw [hxx];have hLm:∀ y ∈ ak (anc r x),0<=y/\y < r.commits.length:=fun y hy=>by
    obtain ⟨i,q1,_,rfl⟩:=listT_mem.1 hy;rw [hal] at q1;omega
   generalize ak (anc r x)=L at *;have hbT:∀ k,(bsT r a b i k).length=r.commits.length:=fun k=>by rw [hT,zf,hbl,hcb]
   refine ⟨⟨0,by rw [hT]; simp -implicitDefEqProofs [ek],rfl,rfl,rfl,rfl,rfl,by rw [hT]; simp -implicitDefEqProofs [ek],rfl,hlt,Nat.zero_le _⟩,fun k hg hk=>⟨fun hl2=>⟨hl2,fun _=>?_⟩,fun hge2=>?_⟩⟩
   ·have e2:Option.map ap L[k]? = some (ap L[k]):=by simp -implicitDefEqProofs [List.getElem?_eq_getElem hl2]
    have hy:=hLm _ (List.getElem_mem hl2);have hc:=Gp (i:=x) (l:=ei r ((ak (aY r a b)).take i) (aY r a b)) hl2;rw [<- hT,<- hT] at hc;have hbk:=hbT k;rw [e2];generalize L[k]=y at *;simp -implicitDefEqProofs [ap,hbk];exact ⟨fun hne=>⟨hy.1,by omega,fun _ _=>⟨by omega,by omega,by omega,fun _ _=>⟨k+1,by rw [hc,if_neg hne]; exact (el _ _ _).symm,by omega,by rw [hc,if_neg hne]; exact el _ _ _,hg,by omega,by omega⟩⟩⟩,
     fun heq=>⟨by omega,by omega,fun _ _=>⟨k+1,by rw [hc,if_pos heq],by omega,by rw [hc,if_pos heq],hg,by omega,by omega⟩⟩⟩
   ·have:k=L.length:=by omega
    subst this;have e3:bsT r a b i L.length=ei r ((ak (aY r a b)).take (i+1)) (aY r a b):=by rw [hT,List.take_length,hs]
    rw [e3];exact ⟨by omega,by omega,fun _ _=>⟨i+1,rfl,by omega,rfl,by omega,by omega⟩⟩
  ·have:i=(ak (aY r a b)).length:=by omega
   subst this;rw [List.take_length];have hbl:=o9 r (ak (aY r a b)) (aY r a b);exact ⟨by omega,rfl,rfl⟩
--TAB aB
theorem eG {r:RepoD} (h:aF r=true):dI r/\dQ r:=by
 have h1:=fS h;have hc:∀ c ∈ r.commits,c.parents.length<=2/\aC c.tree=true:=fun c hc=>by
  obtain ⟨i,hi,rfl⟩:=List.getElem_of_mem hc;exact ⟨(gI h hi).1,(gI h hi).2.2⟩
 have hh:r.heads.length<=5:=by
  rw [b9] at h;exact ((eY _ _).1 ((be r).1 h).2.1).1
 have ht:∀ t:List FileD,aC t=true->t.length<=8:=fun t q=>(iA t (by rw [<- eI]; exact q)).1
 refine ⟨⟨by omega,fun c q=>⟨by have:=(hc c q).1; omega,by have:=ht _ (hc c q).2; omega,fun g hg=>by have:=(mK (hc c q).2 g hg).2.1; omega⟩,by omega⟩,by omega,fun c q f hf=>by have:=(mK (hc c q).2 f hf).1.2; omega⟩
theorem lw {t:List FileD} (h:aC t=true):di t:=fun f hf=>by have:=(mK h f hf).1.2; omega
def sN:Con:=.fn 23 (RepoD × Int × Int) (fun a=>[aM a.1,.int .i64 a.2.1,.int .i64 a.2.2]) (fun a=>aF a.1=true/\(0<=a.2.1/\a.2.1 < a.1.commits.length)/\(0<=a.2.2/\a.2.2 < a.1.commits.length)) (fun a=>.sl true 2 (ac (dk a.1 a.2.1 a.2.2))) (fun _=>[])
theorem Fq:Has Tryz.prog 46 sN:=by
 refine ah mixed aL (HasL.cons yK (HasL.cons lu HasL.nil)) [0,1,2,3,6,7] ((fun a n (_:Nat)=>(fun _=>az) a n)) [] Tryz.func46 (by unfold Tryz.f46; rfl) (fun _=>⟨(),trivial⟩) ?_
 intro a ha;obtain ⟨r,a,b⟩:=a;obtain ⟨h1,h2,h3⟩:aF r=true/\(0<=a/\a < r.commits.length)/\(0<=b/\b < r.commits.length):=ha;simp (maxSteps:=8000000) [sN,pj,iH,Con.fn,aB,ag,aN]
 try dsimp only
 try simp only [and_assoc,exists_eq_left,exists_and_left,RepoD.ex1,RepoD.eta]
 have hb:dk r a b=match (dh r a b).getLast? with | none=>[] | some c=>aj r c:=by unfold dk; rw [<- sA]; rfl
 have hin:=fun c=>@yL r a b c;refine ⟨h1,h2.1,h2.2,h3.1,h3.2,fun _=>⟨fun h=>?_,fun h=>?_⟩⟩
 ·rw [hb,h]; rfl
 ·have hl:0 < (dh r a b).length:=List.length_pos_iff.2 h;have hlt:(dh r a b).length - 1 < (dh r a b).length:=by omega
  have e1:Option.map ap (dh r a b)[(dh r a b).length - 1]? = some (ap (dh r a b)[(dh r a b).length - 1]):=by simp -implicitDefEqProofs [List.getElem?_eq_getElem hlt]
  have hg:(dh r a b).getLast? = some (dh r a b)[(dh r a b).length - 1]:=by rw [List.getLast?_eq_getElem?,List.getElem?_eq_getElem hlt]
  have hc:=hin _ (List.getElem_mem hlt);rw [hb,hg,e1];generalize (dh r a b)[(dh r a b).length - 1]=c at *;generalize (dh r a b).length=m at *;have q1:c.toNat < r.commits.length:=by omega
  simp -implicitDefEqProofs [ap,D.asInt,aj,List.getD_eq_getElem?_getD]
  repeat' (first | intro _ | apply And.intro)
  all_goals omega
theorem Az {o a b:List FileD}:aC (dK o a b).1=true:=by
 unfold dK;split
 ·split
  ·rename_i h; rw [eI]; exact IB h
  ·rfl
 ·rfl
theorem rS {t:List FileD} (h:aC t=true):t.length<=1048576 /\ ∀ f ∈ t,f.text.length<=1048576:=by
 have h1:=iA t (by rw [<- eI]; exact h)
 exact ⟨by omega,fun f hf=>by have:=h1.2 f hf; omega⟩
theorem zg {r:RepoD} (h:aF r=true) {n:Str} {c:CommitD} (hc:aC c.tree=true):dQ (cmL r n c):=by
 have h1:=fS h;refine ⟨by simp -implicitDefEqProofs [cmL]; omega,fun x hx f hf=>?_⟩
 have hx:x ∈ r.commits++[c]:=hx;rcases List.mem_append.1 hx with hx | hx
 ·exact (eG h).2.2 x hx f hf
 ·rw [List.mem_singleton.1 hx] at hf;exact lw hc f hf
def uU:Con:=.fn 89 (RepoD × Str × Str × Int) (fun a=>[aM a.1,.str a.2.1,.str a.2.2.1,.int .i64 a.2.2.2]) (fun a=>aF a.1=true) (fun a=>.tup [.agg [.own 8 3 (aD (cI a.1 a.2.1 a.2.2.1 a.2.2.2).1.commits),.own 9 2 (al (cI a.1 a.2.1 a.2.2.1 a.2.2.2).1.heads)],.int .i64 (cI a.1 a.2.1 a.2.2.1 a.2.2.2).2]) (fun a=>iS 8 (cI a.1 a.2.1 a.2.2.1 a.2.2.2).1.commits++gD 9 (cI a.1 a.2.1 a.2.2.1 a.2.2.2).1.heads)
theorem PV:Has Tryz.prog 57 uU:=by
 refine ah mixed aL (HasL.cons jG (HasL.cons mo (HasL.cons qi (HasL.cons jr (HasL.cons mR (HasL.cons rp (HasL.cons Fq (HasL.cons lu (HasL.cons AA (HasL.cons vd (HasL.cons oJ HasL.nil))))))))))) [0,1,2,3,4,8,9,10,11,12,13] ((fun a n (_:Nat)=>(fun _=>az) a n)) [16456,16465,16466] Tryz.func57 (by unfold Tryz.f57; rfl) (fun _=>⟨(),trivial⟩) ?_
 intro a ha;obtain ⟨r,n,w,b⟩:=a;replace ha:aF r=true:=ha;simp (maxSteps:=8000000) [-kStep_move,-kStepC_move,-Bool.exists_bool,uU,gX,jJ,lL,hJ,kz,lS,gG,sN,iH,pw,mW,nt,kG,Con.fn,aB,ag,aN]
 try dsimp only
 try simp only [and_assoc,exists_eq_left,exists_and_left,RepoD.ex1,RepoD.eta]
 obtain ⟨hz,hp⟩:=eG ha;have hn:=fS ha;refine ⟨fun h h'=>⟨h,h',by omega⟩,?_,fun _=>⟨fun h=>?_,fun c1 c2 c3 c4=>?_⟩⟩
 ·rcases Int.lt_or_le (atL r.heads n) 0 with h | h
  ·exact .inl (.inl h)
  ·cases hw:aQ w with
   | false=>exact .inl (.inr rfl)
   | true=>exact .inr ⟨h,rfl⟩
 ·have e:cI r n w b=(r,1):=PN ha (by rcases h with (h | h) | h | h; exact .inl h; exact .inr (.inl h); exact .inr (.inr (by omega)); exact .inr (.inr (by omega)))
  rw [e]; exact ⟨hz,rfl,rfl,rfl,rfl,rfl⟩
 ·have hlt:=gU ha c1;have hb:b < r.commits.length:=by omega
  have hla:=ci r;have la:b.toNat < (anc r (atL r.heads n)).length:=by rw [hla]; omega
  have lb:(atL r.heads n).toNat < (anc r b).length:=by rw [hla]; omega
  have e1:Option.map cz (anc r (atL r.heads n))[b.toNat]? = some (cz (anc r (atL r.heads n))[b.toNat]):=by simp -implicitDefEqProofs [la]
  have e2:Option.map cz (anc r b)[(atL r.heads n).toNat]? = some (cz (anc r b)[(atL r.heads n).toNat]):=by simp -implicitDefEqProofs [lb]
  have i1:isT (anc r (atL r.heads n)) b.toNat=(anc r (atL r.heads n))[b.toNat]:=by simp -implicitDefEqProofs [isT,List.getD_eq_getElem?_getD,la]
  have i2:isT (anc r b) (atL r.heads n).toNat=(anc r b)[(atL r.heads n).toNat]:=by simp -implicitDefEqProofs [isT,List.getD_eq_getElem?_getD,lb]
  have U2:=@PO r n w b ha c1 c2 ⟨c3,hb⟩;have U3:=@PP r n w b ha c1 c2 ⟨c3,hb⟩;have U4:=@PQ r n w b ha c1 c2 ⟨c3,hb⟩;rw [i1] at U2 U3 U4;rw [i2] at U3 U4;have hla1:=hla (atL r.heads n);have hlb1:=hla b;rw [e1,e2];generalize (anc r (atL r.heads n))[b.toNat]=x at *;generalize (anc r b)[(atL r.heads n).toNat]=y at *;have p1:=lw (yI ha (atL r.heads n) b);have p2:=lw (jB ha ⟨c1,hlt⟩);have p3:=lw (jB ha ⟨c3,hb⟩);simp -implicitDefEqProofs [cz,D.asBool,ha,hla1,hlb1,c1,c3,hlt,hb,hz];have ta:aj r (atL r.heads n)=r.commits[(atL r.heads n).toNat].tree:=by simp -implicitDefEqProofs [aj,List.getD_eq_getElem?_getD,show (atL r.heads n).toNat < r.commits.length by omega]
  have tb:aj r b=r.commits[b.toNat].tree:=by simp -implicitDefEqProofs [aj,List.getD_eq_getElem?_getD,show b.toNat < r.commits.length by omega]
  have jt:=@Az (dk r (atL r.heads n) b) (aj r (atL r.heads n)) (aj r b);rw [ta] at p2;rw [tb] at p3;rw [ta,tb] at U4 jt;generalize dK (dk r (atL r.heads n) b) r.commits[(atL r.heads n).toNat].tree r.commits[b.toNat].tree=J at *;refine ⟨fun hx=>by rw [U2 hx]; exact ⟨rfl,rfl,rfl,rfl,rfl⟩,fun hx=>⟨fun hy=>by rw [U3 hx hy]; exact ⟨hz.2.2,rfl,rfl,rfl,rfl,rfl⟩,fun hy=>⟨p1,p2,p3,?_⟩⟩⟩
  have U4:=U4 hx hy;clear U2 U3;refine ⟨fun hj=>by rw [U4,if_neg (by simp -implicitDefEqProofs [hj])]; exact ⟨rfl,rfl,rfl,rfl,rfl⟩,fun hj=>⟨[atL r.heads n,b],rfl,rfl,hz.2.2,hz.1,(rS jt).1,(rS jt).2,zg ha jt,?_⟩⟩
  rw [if_pos hj] at U4;rw [U4];exact ⟨fun h=>by simp -implicitDefEqProofs [h],fun h=>by simp -implicitDefEqProofs [h]⟩
--TAB aB
def uS:Con:=.fn 23 (List FileD × Str) (fun a=>[.sl true 2 (ac a.1),.str a.2]) (fun a=>a.1.length<=1048576/\a.2.length<=536870912) (fun a=>.sl false 2 (ac (aE (fun f=>atB f.path a.2) a.1))) (fun _=>[])
theorem PS:Has Tryz.prog 250 uS:=by
 refine ah mixed aL (HasL.cons vT HasL.nil) [0,1,4,5,7,8,9,10] ((fun a n (_:Nat)=>(fun a _=>⟨Nat,fun i=>⟨[(1,true,.str a.2),(4,true,.nil),(5,true,.own 9 2 (ac (aE (fun f=>atB f.path a.2) (a.1.take i)))),(8,true,.sl true 2 (ac a.1)),(9,true,.int .i64 a.1.length),(10,true,.int .i64 i)],[(9,.own 119 2 false (ac (aE (fun f=>atB f.path a.2) (a.1.take i))))]⟩,fun i=>i<=a.1.length,fun i=>a.1.length - i⟩) a n)) [19] Tryz.func250 (by unfold Tryz.f250; rfl) (fun _=>⟨(),trivial⟩) ?_
 intro a ha;obtain ⟨l,p⟩:=a;obtain ⟨h1,h2⟩:l.length<=1048576/\p.length<=536870912:=ha;simp -implicitDefEqProofs [uS,mY,Con.fn,aB,ag]
 try dsimp only
 have hl:∀ t,(aE (fun f=>atB f.path p) (l.take t)).length<=1048576:=fun t=>by have:=List.length_filter_le (fun f=>atB f.path p) (l.take t); unfold aE; rw [List.length_take] at this; omega
 have e1:=fun i h=>@nE (fun f=>atB f.path p) l i h;have e2:=fun i h=>@nF (fun f=>atB f.path p) l i h;refine fun _=>⟨⟨0,⟨⟨by simp -implicitDefEqProofs [aE],rfl⟩,by simp -implicitDefEqProofs [aE]⟩,Nat.zero_le _⟩,fun t ht=>⟨fun hlt=>⟨hlt,fun _=>?_⟩,fun hge=>by rw [List.take_of_length_le hge]⟩⟩
 have q1:Option.map aq l[t]? = some (aq l[t]):=by simp -implicitDefEqProofs [hlt]
 have g1:=e1 t hlt;have g2:=e2 t hlt;have b1:=hl t;rw [q1];simp -implicitDefEqProofs [aq,D.asStr,D.asRows];refine ⟨l[t],p,⟨⟨rfl,rfl⟩,rfl⟩,h2,fun h=>⟨⟨by omega,by omega⟩,⟨by omega,by omega⟩,fun _ _=>⟨t+1,⟨⟨?_,by omega⟩,?_⟩,by omega,by omega⟩⟩,fun h=>⟨⟨by omega,by omega⟩,fun _ _=>⟨t+1,⟨⟨g2 h,by omega⟩,(g2 h).symm⟩,by omega,by omega⟩⟩⟩
 ·rw [g1 h]; simp -implicitDefEqProofs [ac,aq]
 ·rw [g1 h]; simp -implicitDefEqProofs [ac,aq]
theorem PR (t:List FileD) (p:Str):aE (fun f=>atB f.path p) t=aE (d7 p) t:=by
 unfold aE;apply List.filter_congr;intro f _;rw [su]; unfold d7
 rw [decide_eq_decide.2 (eq_comm (a:=p) (b:=f.path))]
def uD:Con:=.fn 17 (FileD × FileD) (fun a=>[.agg [.str a.1.path,.sl true 1 (aa a.1.text)],.agg [.str a.2.path,.sl true 1 (aa a.2.text)]]) (fun _=>True) (fun a=>.bool (decide (a.1=a.2))) (fun _=>[])
theorem Oq:Has Tryz.prog 283 uD:=by
 refine ah mixed aL (HasL.cons vm HasL.nil) [0,1,2,3,4] ((fun a n (_:Nat)=>(fun _=>az) a n)) [] Tryz.func283 (by unfold Tryz.f283; rfl) (fun _=>⟨(),trivial⟩) ?_
 intro a _;obtain ⟨⟨x,p⟩,y,q⟩:=a;simp -implicitDefEqProofs [-kStep_move,-Bool.exists_bool,uD,mX,Con.fn,aB,ag]
 try dsimp only
 exact ⟨p,q,⟨rfl,rfl⟩,rfl⟩
def sW:Con:=.fn 32 (List FileD × List FileD) (fun a=>[.sl true 2 (ac a.1),.sl true 2 (ac a.2),.clo 283 []]) (fun _=>True) (fun a=>.bool (decide (a.1=a.2))) (fun _=>[])
theorem G3:Has Tryz.prog 282 sW:=by
 refine ah mixed aL (HasL.cons Oq HasL.nil) [0,1,2,6,7,8,9,15,16,17] ((fun a n (_:Nat)=>(fun a _=>⟨Nat,fun i=>⟨[(1,true,.sl true 2 (ac a.2)),(2,true,.clo 283 []),(6,true,.bool false),(15,true,.sl true 2 (ac a.1)),(16,true,.int .i64 a.1.length),(17,true,.int .i64 i)],[]⟩,fun i=>i<=a.1.length/\a.1.length=a.2.length/\a.1.take i=a.2.take i,fun i=>a.1.length - i⟩) a n)) [] Tryz.func282 (by unfold Tryz.f282; rfl) (fun _=>⟨(),trivial⟩) ?_
 intro a _;obtain ⟨l,r⟩:=a;simp -implicitDefEqProofs [sW,uD,Con.fn,aB,ag]
 try dsimp only
 refine fun _ _=>⟨fun h e=>h (by rw [e]),fun _ _=>⟨by omega,fun t ht h0 hm=>⟨fun hlt=>⟨hlt,fun _=>?_⟩,fun hge=>lY h0 hge hm⟩⟩⟩
 have hr:t < r.length:=by omega
 have q1:Option.map aq l[t]? = some (aq l[t]):=by simp -implicitDefEqProofs [hlt]
 have q2:Option.map aq r[t]? = some (aq r[t]):=by simp -implicitDefEqProofs [hr]
 have nx:l[t]=r[t]->l.take (t+1)=r.take (t+1):=nD hlt hr hm;have ne:¬ l[t]=r[t] -> ¬ l=r:=fun h e=>h (by subst e; rfl)
 rw [q1,q2];generalize l[t]=x at *;generalize r[t]=y at *;simp -implicitDefEqProofs [aq,D.asStr,D.asRows];exact ⟨hr,fun _=>⟨x,y,⟨⟨rfl,rfl⟩,rfl,rfl⟩,ne,fun h=>⟨⟨by omega,by omega⟩,fun _ _=>⟨t+1,by omega,⟨by omega,h0,nx h⟩,by omega⟩⟩⟩⟩
def uE:Con:=.fn 8 (List FileD × List FileD) (fun a=>[.sl true 2 (ac a.1),.sl true 2 (ac a.2)]) (fun _=>True) (fun a=>.bool (decide (a.1=a.2))) (fun _=>[])
theorem Ot:Has Tryz.prog 251 uE:=by
 refine ah mixed aL (HasL.cons G3 HasL.nil) [0,1,4] ((fun a n (_:Nat)=>(fun _=>az) a n)) [] Tryz.func251 (by unfold Tryz.f251; rfl) (fun _=>⟨(),trivial⟩) ?_
 intro a _;obtain ⟨l,r⟩:=a;simp -implicitDefEqProofs [-Bool.exists_bool,uE,sW,Con.fn,aB,ag]
 try dsimp only
 exact ⟨l,r,⟨rfl,rfl⟩,Iff.rfl⟩
def sO:Con:=.fn 45 (RepoD × Int × Str) (fun a=>[aM a.1,.int .i64 a.2.1,.str a.2.2]) (fun a=>(an a.1=true/\0<=a.2.1/\a.2.1 < a.1.commits.length)/\a.2.2.length<=536870912) (fun a=>.bool (dB a.1 a.2.2 a.2.1)) (fun _=>[])
theorem Gj:Has Tryz.prog 206 sO:=by
 refine ah mixed aL (HasL.cons lu (HasL.cons PS (HasL.cons Ot HasL.nil))) [0,1,2,3,6,7,9,31,32,33] ((fun a n (_:Nat)=>(fun a _=>⟨Nat,fun i=>⟨[(2,true,.str a.2.2),(3,true,.ptr 10 0),(6,true,.bool false),(7,true,.sl false 2 (ac (bM a.1 a.2.2 a.2.1))),(31,true,.sl true 1 (ae (aU a.1 a.2.1))),(32,true,.int .i64 (aU a.1 a.2.1).length),(33,true,.int .i64 i)],[(10,bG a.1)]⟩,fun i=>i<=(aU a.1 a.2.1).length /\ ∀ q ∈ (aU a.1 a.2.1).take i,¬ bM a.1 a.2.2 q=bM a.1 a.2.2 a.2.1,fun i=>(aU a.1 a.2.1).length - i⟩) a n)) [] Tryz.func206 (by unfold Tryz.f206; rfl) (fun _=>⟨(),trivial⟩) ?_
 intro a ha;obtain ⟨r,c,p⟩:=a;obtain ⟨⟨h1,h2,h3⟩,h4⟩:(an r=true/\0<=c/\c < r.commits.length)/\p.length<=536870912:=ha;simp (maxSteps:=8000000) -implicitDefEqProofs [-kStep_move,-Bool.exists_bool,sO,iH,uS,uE,Con.fn,aB,ag,aN]
 try dsimp only
 rw [ns h2 h3];simp only [PR];simp -implicitDefEqProofs [D.asRows,D.asStr,D.asInt];have tl:∀ a,(aj r a).length<=8:=fun a=>oI (du h1 a);have hul:(bM r p c).length<=8:=Nat.le_trans (List.length_filter_le _ _) (tl c);have hpar:=j9 h1 c.toNat (by omega)
 have hP:(r.commits.getD c.toNat default).parents=aU r c:=rfl;rw [hP] at hpar;have hta:∀ a,(r.commits[a.toNat]?.getD default).tree=aj r a:=fun a=>by unfold aj; rw [List.getD_eq_getElem?_getD]
 have t0:aU r c=[]->dB r p c=decide (0 < (bM r p c).length):=fun h=>by unfold dB; rw [if_pos h]; exact decide_eq_decide.2 List.length_pos_iff.symm
 have t1:∀ q ∈ aU r c,bM r p q=bM r p c->dB r p c=false:=fun q hq e=>by unfold dB; rw [if_neg (List.ne_nil_of_mem hq),List.all_eq_false]; exact ⟨q,hq,by simp -implicitDefEqProofs [e]⟩
 have t2:¬ aU r c=[]->(∀ q ∈ aU r c,¬ bM r p q=bM r p c)->dB r p c=true:=fun h e=>by unfold dB; rw [if_neg h,List.all_eq_true]; intro q hq; simp -implicitDefEqProofs [e q hq]
 generalize aU r c=P at *;refine ⟨r,c,⟨⟨rfl,rfl⟩,rfl⟩,⟨h2,h3⟩,aj r c,p,⟨(hta c).symm,rfl⟩,⟨by have:=tl c; omega,h4⟩,⟨h2,h3⟩,fun _ _ _=>⟨fun h _=>t0 h,fun h=>⟨⟨h2,h3⟩,fun _ _ _=>⟨⟨0,⟨rfl,rfl⟩,Nat.zero_le _,by simp⟩,fun t ht hq=>⟨fun hlt=>⟨hlt,fun _=>?_⟩,fun hge=>?_⟩⟩⟩⟩⟩
 ·have hm:=hpar _ (List.getElem_mem hlt);have q1:Option.map ap P[t]? = some [D.int .i64 P[t]]:=by simp -implicitDefEqProofs [hlt,ap]
  have u1:=t1 _ (List.getElem_mem hlt);have u2:¬ bM r p P[t]=bM r p c -> ∀ q ∈ P.take (t+1),¬ bM r p q=bM r p c:=fun h=>xH (q:=fun q=>¬ bM r p q=bM r p c) hlt hq h;rw [q1];generalize P[t]=y at *;simp -implicitDefEqProofs [D.asInt];exact ⟨r,y,⟨⟨rfl,rfl⟩,rfl⟩,⟨hm.1,by omega⟩,aj r y,p,⟨(hta y).symm,rfl⟩,⟨by have:=tl y; omega,h4⟩,bM r p c,bM r p y,⟨rfl,rfl⟩,fun h=>u1 h.symm,fun h=>⟨⟨by omega,by omega⟩,fun _ _=>⟨t+1,by omega,⟨by omega,u2 fun e=>h e.symm⟩,by omega⟩⟩⟩
 ·rw [List.take_of_length_le hge] at hq;exact t2 h hq
def cP (l:List Int) (i:Nat):List Int:=(List.range l.length).map fun k=>if k < i \/ l.length<=k+i then l.getD (l.length - 1 - k) 0 else l.getD k 0
theorem N6 (l:List Int) (i:Nat):(cP l i).length=l.length:=by simp -implicitDefEqProofs [cP]
def uC:Con:={ A:=List Int,X:=Unit,n:=28,args:=fun l=>[.own 0 1 (ae l)],boxes:=fun _=>[],pre:=fun l=>l.length<=1048576,post:=fun _ _=>True,res:=fun _ _=>.tup [],fin:=fun l _=>[(0,.own 3 1 true (ae l.reverse))],owns:=fun l=>[(0,3,1,ae l)],lends:=[0],mv:=true,sube:=3 }
theorem N7:Has Tryz.prog 249 uC:=by
 refine ah mixed aL HasL.nil [0,2,3] ((fun a n (_:Nat)=>(fun l _=>⟨Nat,fun i=>⟨[(0,true,.own 0 1 (ae (cP l i))),(2,true,.int .i64 i),(3,true,.int .i64 ((l.length:Int) - 1 - i))],[(0,.own 3 1 true (ae (cP l i)))]⟩,fun i=>2 * i<=l.length+1,fun i=>l.length+1 - i⟩) a n)) [12287] Tryz.func249 (by unfold Tryz.f249; rfl) (fun _=>⟨(),trivial⟩) ?_
 intro (l:List Int) (h1:l.length<=1048576);simp -implicitDefEqProofs [-Bool.exists_bool,uC,Con.fn,aB,ag]
 try dsimp only
 have r0:cP l 0=l:=by
  apply List.ext_getElem
  ·simp -implicitDefEqProofs [cP]
  ·intro i g1 g2; simp -implicitDefEqProofs [cP,g2]; omega
 have hl:=N6 l;refine fun _=>⟨⟨by omega,by omega⟩,fun _ _=>⟨⟨0,⟨⟨r0,rfl,by omega⟩,r0.symm⟩,by omega⟩,fun t ht=>⟨fun hlt=>⟨⟨by omega,by rw [hl]; omega⟩,fun _ _=>?_⟩,fun hge=>?_⟩⟩⟩
 ·have k1:t < (cP l t).length:=by rw [hl]; omega
  have k2:l.length - 1 - t < (cP l t).length:=by rw [hl]; omega
  have q1:Option.map ap (cP l t)[t]? = some [D.int .i64 (cP l t)[t]]:=by simp -implicitDefEqProofs [k1,ap]
  have q2:Option.map ap (cP l t)[l.length - 1 - t]? = some [D.int .i64 (cP l t)[l.length - 1 - t]]:=by simp -implicitDefEqProofs [k2,ap]
  have st:((cP l t).set t (cP l t)[l.length - 1 - t]).set (l.length - 1 - t) (cP l t)[t]=cP l (t+1):=by
   apply List.ext_getElem
   ·simp -implicitDefEqProofs [cP]
   ·intro i g1 g2;rw [hl] at g2;have hg:∀ (j q:Nat) (h:j < (cP l q).length),(cP l q)[j]=if j < q \/ l.length<=j+q then l.getD (l.length - 1 - j) 0 else l.getD j 0:=fun j q h=>by simp -implicitDefEqProofs [cP]
    simp only [List.getElem_set,hg];by_cases c1:l.length - 1 - t=i
    ·rw [if_pos c1,if_neg (by omega),if_pos (by omega)]; congr 1; omega
    ·rw [if_neg c1];by_cases c2:t=i
     ·rw [if_pos c2,if_neg (by omega),if_pos (by omega),c2]
     ·rw [if_neg c2];by_cases c3:i < t \/ l.length<=i+t
      ·rw [if_pos c3,if_pos (by omega)]
      ·rw [if_neg c3,if_neg (by omega)]
  rw [q1,q2];generalize (cP l t)[t]=x at *;generalize (cP l t)[l.length - 1 - t]=y at *;simp -implicitDefEqProofs [D.asInt,hl];have es:((ae (cP l t)).set t [D.int .i64 y]).set (l.length - 1 - t) [D.int .i64 x]=ae (cP l (t+1)):=by rw [kM,kM,st]
  exact ⟨by omega,fun _=>⟨by omega,fun _=>⟨by omega,⟨by omega,by omega⟩,fun _ _=>⟨by omega,⟨by omega,by omega⟩,fun _ _=>⟨⟨by omega,by omega⟩,fun _ _=>⟨t+1,⟨⟨es.symm,by omega,by omega⟩,es⟩,by omega,by omega⟩⟩⟩⟩⟩⟩
 ·apply List.ext_getElem
  ·simp -implicitDefEqProofs [cP]
  ·intro i g1 g2;rw [hl] at g1;have hg:(cP l t)[i]'(by rw [hl]; exact g1)=if i < t \/ l.length<=i+t then l.getD (l.length - 1 - i) 0 else l.getD i 0:=by simp -implicitDefEqProofs [cP]
   rw [hg,List.getElem_reverse];by_cases c3:i < t \/ l.length<=i+t
   ·rw [if_pos c3]; simp -implicitDefEqProofs [List.getD_eq_getElem?_getD,show l.length - 1 - i < l.length by omega]
   ·rw [if_neg c3];have:i=l.length - 1 - i:=by omega
    simp only [<- this];simp -implicitDefEqProofs [List.getD_eq_getElem?_getD,g1]
def ua:Con:={ A:=RepoD × Str × Int,X:=Unit,n:=9,args:=fun a=>[.int .i64 a.2.2,.ptr 0 0,.ptr 1 0],boxes:=fun a=>[(0,35,[.sl true 3 (aD a.1.commits),.sl true 2 (al a.1.heads)]),(1,9,[.str a.2.1])],pre:=fun a=>(an a.1=true/\0<=a.2.2/\a.2.2 < a.1.commits.length)/\a.2.1.length<=536870912,post:=fun _ _=>True,res:=fun a _=>.bool (dB a.1 a.2.1 a.2.2),fin:=fun a _=>[(0,bG a.1),(1,.box 9 [.str a.2.1])],nob:=false }
theorem KV:Has Tryz.prog 205 ua:=by
 refine ah mixed aL (HasL.cons Gj HasL.nil) [0,1,2,4] ((fun a n (_:Nat)=>(fun _=>az) a n)) [] Tryz.func205 (by unfold Tryz.f205; rfl) (fun _=>⟨(),trivial⟩) ?_
 intro a ha;obtain ⟨r,p,c⟩:=a;obtain ⟨⟨h1,h2,h3⟩,h4⟩:(an r=true/\0<=c/\c < r.commits.length)/\p.length<=536870912:=ha;simp -implicitDefEqProofs [-Bool.exists_bool,ua,sO,Con.fn,aB,ag,aN]
 try dsimp only
 exact ⟨r,c,p,⟨⟨rfl,rfl⟩,rfl,rfl⟩,⟨⟨h1,h2,h3⟩,h4⟩,rfl⟩
def ub:Con:={ A:=RepoD × Str × Int,X:=Unit,n:=35,args:=fun a=>[aM a.1,.int .i64 a.2.2,.clo 205 [.ptr 0 0,.ptr 1 0]],boxes:=fun a=>[(0,35,[.sl true 3 (aD a.1.commits),.sl true 2 (al a.1.heads)]),(1,9,[.str a.2.1])],pre:=fun a=>(an a.1=true/\0<=a.2.2/\a.2.2 < a.1.commits.length)/\a.2.1.length<=536870912,post:=fun _ _=>True,res:=fun a _=>.own 8 1 (ae (fa a.1 a.2.2 a.2.1)),fin:=fun a _=>[(0,bG a.1),(1,.box 9 [.str a.2.1])]++dY 8 (fa a.1 a.2.2 a.2.1),nob:=false }
def lgF (r:RepoD) (a:Int) (p:Str) (k:Nat):List Int:=((ak (anc r a)).take k).filter (dB r p)
theorem K5:Has Tryz.prog 204 ub:=by
 refine ah mixed aL (HasL.cons oY (HasL.cons mR (HasL.cons nS (HasL.cons KV (HasL.cons N7 HasL.nil))))) [0,1,2,3,6,7,9,18,19,20] ((fun a n (_:Nat)=>(fun a _=>⟨Nat,fun k=>⟨[(2,true,.clo 205 [.ptr 0 0,.ptr 1 0]),(6,true,.nil),(7,true,.own 9 1 (ae (lgF a.1 a.2.2 a.2.1 k))),(18,true,.own 11 1 (ae (ak (anc a.1 a.2.2)))),(19,true,.int .i64 (ak (anc a.1 a.2.2)).length),(20,true,.int .i64 k)],[(0,bG a.1),(1,.box 9 [.str a.2.1]),(9,.own 3 1 true (ae (lgF a.1 a.2.2 a.2.1 k))),(11,.own 3 1 true (ae (ak (anc a.1 a.2.2))))]⟩,fun k=>k<=(ak (anc a.1 a.2.2)).length,fun k=>(ak (anc a.1 a.2.2)).length - k⟩) a n)) [] Tryz.func204 (by unfold Tryz.f204; rfl) (fun _=>⟨(),trivial⟩) ?_
 intro a ha;obtain ⟨r,p,c⟩:=a;obtain ⟨⟨h1,h2,h3⟩,h4⟩:(an r=true/\0<=c/\c < r.commits.length)/\p.length<=536870912:=ha;simp (maxSteps:=8000000) -implicitDefEqProofs [-kStep_move,-Bool.exists_bool,ub,lJ,kz,kF,ua,uC,Con.fn,aB,ag,aN]
 try dsimp only
 have hRI:aF r=true:=by rw [b9]; exact h1
 have hr:=(eG hRI).2;have hn:=((be r).1 h1).2.2;have hb:ev r [c]=true:=areB_iff.2 ⟨hRI,by simp; omega⟩
 have hal:=ci r c;have hL:(ak (anc r c)).length<=16:=by have:=ik (anc r c) (anc r c).length; rw [ci] at this; unfold ak; rw [ci]; omega
 have hle:∀ k,(lgF r c p k).length<=16:=fun k=>by
  unfold lgF;refine Nat.le_trans (List.length_filter_le _ _) ?_;rw [List.length_take]; omega
 refine ⟨r,[c],⟨⟨rfl,rfl⟩,rfl⟩,hr,fun h=>absurd h (by rw [hb]; simp),fun _=>⟨r,c,⟨⟨rfl,rfl⟩,rfl⟩,⟨hRI,h2,h3⟩,by omega,fun _=>⟨⟨0,⟨⟨rfl,rfl,rfl,rfl⟩,rfl,rfl⟩,Nat.zero_le _⟩,fun t ht=>⟨fun hlt=>⟨hlt,fun _=>?_⟩,fun hge=>?_⟩⟩⟩⟩
 ·obtain ⟨m,hm,_,hm3⟩:=listT_mem.1 (List.getElem_mem hlt);rw [ci] at hm;have q1:Option.map ap (ak (anc r c))[t]? = some [D.int .i64 (ak (anc r c))[t]]:=by simp -implicitDefEqProofs [hlt,ap]
  have e1:dB r p (ak (anc r c))[t]=true->lgF r c p (t+1)=lgF r c p t++[(ak (anc r c))[t]]:=fun h=>by unfold lgF; rw [aX hlt,List.filter_append]; simp -implicitDefEqProofs [h]
  have e2:dB r p (ak (anc r c))[t]=false->lgF r c p (t+1)=lgF r c p t:=fun h=>by unfold lgF; rw [aX hlt,List.filter_append]; simp -implicitDefEqProofs [h]
  have hl:=hle t;rw [q1];generalize (ak (anc r c))[t]=y at *;simp -implicitDefEqProofs [D.asInt];refine ⟨r,p,⟨⟨rfl,rfl⟩,rfl⟩,⟨⟨h1,by omega,by omega⟩,h4⟩,fun h=>⟨⟨by omega,by omega⟩,⟨by omega,by omega⟩,fun _ _=>⟨t+1,⟨⟨?_,by omega⟩,⟨⟨rfl,rfl⟩,rfl⟩,?_⟩,by omega,by omega⟩⟩,fun h=>⟨⟨by omega,by omega⟩,fun _ _=>⟨t+1,⟨⟨e2 h,by omega⟩,⟨⟨rfl,rfl⟩,rfl⟩,(e2 h).symm⟩,by omega,by omega⟩⟩⟩
  ·rw [e1 h,kN]
  ·rw [e1 h,kN]
 ·have e:(lgF r c p t).reverse=fa r c p:=by unfold lgF fa e9; rw [List.take_of_length_le hge,List.drop_zero,List.filter_reverse]
  have hl:=hle t;exact ⟨by omega,e.symm,e⟩
def pO:Con:=.fn 11 (RepoD × Int × Str) (fun a=>[aM a.1,.int .i64 a.2.1,.str a.2.2]) (fun a=>(an a.1=true/\0<=a.2.1/\a.2.1 < a.1.commits.length)/\a.2.2.length<=536870912) (fun a=>.own 8 1 (ae (fa a.1 a.2.1 a.2.2))) (fun a=>dY 8 (fa a.1 a.2.1 a.2.2))
theorem KY:Has Tryz.prog 157 pO:=by
 refine ah mixed aL (HasL.cons K5 HasL.nil) [0,1,2,3,5,6] ((fun a n (_:Nat)=>(fun _=>az) a n)) [] Tryz.func157 (by unfold Tryz.f157; rfl) (fun _=>⟨(),trivial⟩) ?_
 intro a ha;obtain ⟨r,c,p⟩:=a;obtain ⟨⟨h1,h2,h3⟩,h4⟩:(an r=true/\0<=c/\c < r.commits.length)/\p.length<=536870912:=ha;simp (maxSteps:=8000000) -implicitDefEqProofs [-kStep_move,-Bool.exists_bool,pO,ub,Con.fn,aB,ag,aN]
 try dsimp only
 exact ⟨r,p,c,⟨⟨rfl,rfl⟩,rfl⟩,⟨⟨rfl,rfl⟩,rfl⟩,⟨⟨h1,h2,h3⟩,h4⟩,rfl,rfl⟩
--TAB aB
def fC (a:Int) (n i:Nat):List Int:=List.replicate i a++List.replicate (n - i) 0
theorem zJ (a:Int) (n:Nat):fC a n 0=List.replicate n 0:=by simp -implicitDefEqProofs [fC]
theorem Hb {a:Int} {n i:Nat} (h:i<=n):(fC a n i).length=n:=by simp -implicitDefEqProofs [fC]; omega
theorem G9 (a:Int) (n:Nat):fC a n n=List.replicate n a:=by simp -implicitDefEqProofs [fC]
theorem Hc {a:Int} {n i:Nat} (h:i < n):(fC a n i).set i a=fC a n (i+1):=by
 unfold fC;rw [List.set_append_right _ _ (by simp),List.length_replicate,Nat.sub_self,show n - i=(n - (i+1))+1 by omega,List.replicate_succ,List.set_cons_zero,List.replicate_succ',List.append_assoc]
 rfl
def biA (r:RepoD) (a:Int) (p:Str):Inv:=⟨Nat,fun i=>⟨[(1,true,.int .i64 a),(2,true,.str p),(3,true,.ptr 10 0),(6,true,.nil),(7,true,.bool false),(8,true,.own 11 1 (aa (blX r a p))),(10,true,.own 9 1 (ae (fC a (blX r a p).length i))),(33,true,.int .i64 (blX r a p).length),(34,true,.int .i64 i)],[(10,bG r),(9,.own 3 1 true (ae (fC a (blX r a p).length i))),(11,.own 9 1 true (aa (blX r a p)))]⟩,fun i=>i<=(blX r a p).length,fun i=>(blX r a p).length - i⟩
def biB (r:RepoD) (a:Int) (p:Str) (k:Nat):Inv:=⟨Nat,fun i=>⟨[(6,true,.nil),(7,true,.bool false),(10,true,.own 9 1 (ae (blO r a p k i))),(13,true,.own 11 1 (ae (blm r p k (blF r a)))),(68,true,.own 12 1 (ae (blM r a p))),(69,true,.int .i64 (blM r a p).length),(70,true,.int .i64 i)],[(9,.own 3 1 true (ae (blO r a p k i))),(11,.own 3 1 true (ae (blm r p k (blF r a)))),(12,.own 3 1 true (ae (blM r a p)))]⟩,fun i=>i<=(blM r a p).length,fun i=>(blM r a p).length - i⟩
def sC (r:RepoD) (a:Int) (p:Str) (k n:Nat):Inv:=if n=6 then biA r a p else biB r a p k
theorem Fx (r a p k):sC r a p k 6=biA r a p:=rfl
theorem Fw (r a p k):sC r a p k 18=biB r a p k:=rfl
def mV (k:Nat):Con:=.fn 86 (RepoD × Int × Str) (fun a=>[aM a.1,.int .i64 a.2.1,.str a.2.2]) (fun a=>an a.1=true/\(0<=a.2.1/\a.2.1 < a.1.commits.length)/\a.2.1 < k) (fun a=>.tup [.own 8 1 (ae (blm a.1 a.2.2 k a.2.1)),.bool (au (aj a.1 a.2.1) a.2.2).2]) (fun a=>dY 8 (blm a.1 a.2.2 k a.2.1))
theorem FL:Has Tryz.prog 203 (mV 0) :=
 vP Tryz.func203 (by kernel_rfl) (code:=_) (by unfold Tryz.f203; rfl) (fun _=>⟨(),trivial⟩) (by intro _ _; rfl) (fun _ h=>absurd h.2.2 (by have:=h.2.1.1; omega))
theorem FM (k:Nat) (blmK_has:Has Tryz.prog 203 (mV k)):Has Tryz.prog 203 (mV (k+1)):=by
 refine ah mixed aL (HasL.cons lu (HasL.cons vG (HasL.cons zN (HasL.cons blmK_has (HasL.cons Br HasL.nil))))) [0,1,2,3,6,7,8,9,10,11,12,13,14,15,17,18,33,34,68,69,70] (fun a n _=>sC a.1 a.2.1 a.2.2 k n) [] Tryz.func203 (by unfold Tryz.f203; rfl) (fun _=>⟨(),trivial⟩) ?_ (hpos:=Nat.succ_pos _)
 intro a ha;obtain ⟨r,c,p⟩:=a;obtain ⟨h1,⟨h2,h3⟩,h4⟩:an r=true/\(0<=c/\c < r.commits.length)/\c < ((k+1:Nat):Int):=ha;simp (maxSteps:=8000000) -implicitDefEqProofs [-kStep_move,-Bool.exists_bool,mV,iH,lM,pr,pQ,Con.fn,aB,ag,aN,Fx,Fw,biA,biB]
 try dsimp only
 simp only [vH];have hf:=fun q=>xc h1 ⟨h2,h3⟩ q;have hfp:ie r c=(aU r c).headD (-1):=rfl;have hx:(au (aj r c) p).1=blX r c p:=rfl;have htx:∀ a,∀ f ∈ aj r a,f.text.length<=64:=fun a=>(iA _ (du h1 a)).2;have hxl:(au (aj r c) p).1.length<=64:=ii (htx c) p;have hta:∀ a,(r.commits[a.toNat]?.getD default).tree=aj r a:=fun a=>by unfold aj; rw [List.getD_eq_getElem?_getD]
 have hb0:(au (aj r c) p).2=false->blm r p (k+1) c=[]:=fun h=>by unfold blm; rw [if_pos h]
 have hb1:(au (aj r c) p).2=true->aU r c=[]->blm r p (k+1) c=List.replicate (blX r c p).length c:=fun h q=>by unfold blm; rw [if_neg (by rw [h]; simp),if_pos q]; rfl
 have hb2:(au (aj r c) p).2=true->aU r c ≠ []->(au (aj r (blF r c)) p).2=false->blm r p (k+1) c=List.replicate (blX r c p).length c:=fun h q q2=>by unfold blm; rw [if_neg (by rw [h]; simp),if_neg q]; exact if_pos q2
 have hb3:(au (aj r c) p).2=true->aU r c ≠ []->(au (aj r (blF r c)) p).2=true->blm r p (k+1) c=blO r c p k (blX r (blF r c) p).length:=fun h q q2=>by unfold blm; rw [if_neg (by rw [h]; simp),if_neg q]; exact if_neg (by show ¬ (au (aj r (blF r c)) p).2=false; rw [q2]; simp)
 generalize blm r p (k+1) c=R at *;refine ⟨r,c,⟨⟨rfl,rfl⟩,rfl⟩,⟨h2,h3⟩,aj r c,p,⟨(hta c).symm,rfl⟩,fun f hf=>by have:=htx c f hf; omega,fun hn=>⟨⟨hb0 hn,hn⟩,hb0 hn⟩,fun hy _=>⟨⟨by omega,by omega⟩,fun _ _ _=>⟨⟨0,⟨⟨hx.symm,by rw [zJ,<- hx]; simp -implicitDefEqProofs [ae,ap],by rw [hx],rfl⟩,by rw [zJ,<- hx]; simp -implicitDefEqProofs [ae,ap],hx⟩,Nat.zero_le _⟩,fun t ht=>⟨fun hlt=>?_,fun hge=>?_⟩⟩⟩⟩
 ·have hfl:=Hb (a:=c) ht;have es:(ae (fC c (blX r c p).length t)).set t [D.int .i64 c]=ae (fC c (blX r c p).length (t+1)):=by rw [kM,Hc hlt]
  rw [hx] at hxl;exact ⟨by omega,fun _=>⟨by omega,⟨by omega,by omega⟩,fun _ _=>⟨t+1,⟨⟨es.symm,by omega⟩,es⟩,by omega,by omega⟩⟩⟩
 ·obtain rfl:t=(blX r c p).length:=by omega
  rw [G9];refine ⟨r,c,⟨⟨rfl,rfl⟩,rfl⟩,⟨h2,h3⟩,fun hn=>?_,fun hn=>?_⟩
  ·have hq:aU r c=[]:=by
    cases hq:aU r c with
    | nil=>rfl
    | cons f l=>have:=(hf (by rw [hq]; simp)).1; rw [hfp,hq] at hn; rw [hq] at this; simp only [List.headD_cons] at hn this; omega
   exact ⟨⟨hb1 hy hq,hy⟩,(hb1 hy hq).symm⟩
  ·have hq:aU r c ≠ []:=fun h=>by rw [hfp,h] at hn; simp at hn
   have hF:ie r c=blF r c:=by
    rw [hfp]; unfold blF
    cases hq2:aU r c with
    | nil=>exact absurd hq2 hq
    | cons f l=>rfl
   have hlt:=(hf hq).2;rw [hF] at hn ⊢;have hlt2:blF r c < c:=hlt;refine ⟨r,blF r c,p,⟨⟨rfl,rfl⟩,rfl,rfl⟩,⟨h1,⟨hn,by omega⟩,by omega⟩,fun h=>⟨⟨hb2 hy hq h,hy⟩,(hb2 hy hq h).symm⟩,fun h=>?_⟩
   obtain ⟨k,rfl⟩:∃ k',k=k'+1:=⟨k - 1,by omega⟩
   have hxF:(blX r (blF r c) p).length<=64:=ii (htx (blF r c)) p;rw [hx] at hxl;refine ⟨r,blF r c,⟨⟨rfl,rfl⟩,rfl⟩,⟨hn,by omega⟩,aj r (blF r c),p,⟨(hta _).symm,rfl⟩,fun f hf=>by have:=htx (blF r c) f hf; omega,blX r (blF r c) p,blX r c p,⟨rfl,rfl⟩,⟨by omega,by omega⟩,fun _=>⟨⟨0,⟨⟨rfl,rfl,rfl,rfl,rfl⟩,rfl,rfl,rfl⟩,Nat.zero_le _⟩,fun t2 ht2=>⟨fun hlt=>⟨hlt,fun _=>?_⟩,fun hge=>?_⟩⟩⟩
   ·have hbl:(blm r p (k+1) (blF r c)).length=(blX r (blF r c) p).length:=by rw [sF]; rfl
    have hml:(blM r c p).length=(blX r (blF r c) p).length:=by unfold blM; rw [jm]
    have hol:(blO r c p (k+1) t2).length=(blX r c p).length:=by unfold blO; rw [rg]; simp
    have hlt2:t2 < (blm r p (k+1) (blF r c)).length:=by omega
    have qm:Option.map ap (blM r c p)[t2]? = some [D.int .i64 (blM r c p)[t2]]:=by simp -implicitDefEqProofs [hlt,ap]
    have qb:Option.map ap (blm r p (k+1) (blF r c))[t2]? = some [D.int .i64 (blm r p (k+1) (blF r c))[t2]]:=by simp -implicitDefEqProofs [hlt2,ap]
    have st:blO r c p (k+1) (t2+1)=jW (blM r c p) (blm r p (k+1) (blF r c)) (blO r c p (k+1) t2) t2:=rh _ _ _ _;have hm:=oZ (wV (blX r (blF r c) p) (blX r c p) 0) (blM r c p)[t2] (List.getElem_mem hlt);have g1:(blM r c p).getD t2 0=(blM r c p)[t2]:=by simp -implicitDefEqProofs [List.getD_eq_getElem?_getD,hlt]
    have g2:(blm r p (k+1) (blF r c)).getD t2 0=(blm r p (k+1) (blF r c))[t2]:=by simp -implicitDefEqProofs [List.getD_eq_getElem?_getD,hlt2]
    unfold jW at st;rw [g1,g2] at st;rw [qm,qb];generalize (blM r c p)[t2]=m at *;generalize (blm r p (k+1) (blF r c))[t2]=b at *;simp -implicitDefEqProofs [D.asInt];have hm2:0<=m->m.toNat < (blO r c p (k+1) t2).length:=fun h=>by omega
    have eset:(ae (blO r c p (k+1) t2)).set m.toNat [D.int .i64 b]=ae ((blO r c p (k+1) t2).set m.toNat b):=by rw [kM]
    rw [eset];refine ⟨fun h0=>⟨hlt2,fun _=>⟨⟨h0,by have:=hm2 h0; omega⟩,fun _ _=>⟨hm2 h0,⟨by omega,by omega⟩,fun _ _=>⟨t2+1,⟨⟨?_,by omega⟩,?_⟩,by omega,by omega⟩⟩⟩⟩,fun h0=>⟨⟨by omega,by omega⟩,fun _ _=>⟨t2+1,⟨⟨?_,by omega⟩,?_⟩,by omega,by omega⟩⟩⟩
    ·rw [st,if_pos h0]
    ·rw [st,if_pos h0]
    ·rw [st,if_neg (by omega)]
    ·rw [st,if_neg (by omega)]
   ·have hml:(blM r c p).length=(blX r (blF r c) p).length:=by unfold blM; rw [jm]
    have:t2=(blX r (blF r c) p).length:=by omega
    have e:=hb3 hy hq h;rw [this];exact ⟨⟨e,hy⟩,e.symm⟩
theorem yN:∀ k,Has Tryz.prog 203 (mV k)
 | 0=>FL
 | k+1=>FM k (yN k)
def yT:Con:=.fn 86 (RepoD × Int × Str) (fun a=>[aM a.1,.int .i64 a.2.1,.str a.2.2]) (fun a=>an a.1=true/\(0<=a.2.1/\a.2.1 < a.1.commits.length)/\a.2.1 < 16) (fun a=>.tup [.own 8 1 (ae (blm a.1 a.2.2 16 a.2.1)),.bool (au (aj a.1 a.2.1) a.2.2).2]) (fun a=>dY 8 (blm a.1 a.2.2 16 a.2.1))
theorem FD:Has Tryz.prog 203 yT:=yN 16
def pm:Con:=.fn 22 (RepoD × Int × Str) (fun a=>[aM a.1,.int .i64 a.2.1,.str a.2.2]) (fun a=>an a.1=true/\0<=a.2.1/\a.2.1 < a.1.commits.length) (fun a=>.own 8 1 (ae (blm a.1 a.2.2 16 a.2.1))) (fun a=>dY 8 (blm a.1 a.2.2 16 a.2.1))
theorem FC:Has Tryz.prog 156 pm:=by
 refine ah mixed aL (HasL.cons oY (HasL.cons FD HasL.nil)) [0,1,2,3,6,7] ((fun a n (_:Nat)=>(fun _=>az) a n)) [] Tryz.func156 (by unfold Tryz.f156; rfl) (fun _=>⟨(),trivial⟩) ?_
 intro a ha;obtain ⟨r,c,p⟩:=a;obtain ⟨h1,h2,h3⟩:an r=true/\0<=c/\c < r.commits.length:=ha;have hn:=((be r).1 h1).2.2;have hRI:aF r=true:=by rw [b9]; exact h1
 have hr:=(eG hRI).2;have hb:ev r [c]=true:=areB_iff.2 ⟨hRI,by simp; omega⟩
 simp (maxSteps:=8000000) -implicitDefEqProofs [-kStep_move,-Bool.exists_bool,pm,yT,lJ,Con.fn,aB,ag,aN]
 try dsimp only
 exact ⟨r,[c],⟨⟨rfl,rfl⟩,rfl⟩,hr,fun h=>absurd h (by rw [hb]; simp),fun _=>⟨r,c,p,⟨⟨rfl,rfl⟩,rfl,rfl⟩,⟨h1,⟨h2,h3⟩,by omega⟩,rfl,rfl⟩⟩
def jE (r:RepoD) (a b:Int):List Int:=if ev r [a,b] then dh r a b else []
def pg:Con:=.fn 17 (RepoD × Int × Int) (fun a=>[aM a.1,.int .i64 a.2.1,.int .i64 a.2.2]) (fun a=>dQ a.1) (fun a=>.own 8 1 (ae (jE a.1 a.2.1 a.2.2))) (fun a=>dY 8 (jE a.1 a.2.1 a.2.2))
theorem EG:Has Tryz.prog 158 pg:=by
 refine ah mixed aw (HasL.cons oY (HasL.cons yK HasL.nil)) [0,1,2,3,6] ((fun a n (_:Nat)=>(fun _=>az) a n)) [] Tryz.func158 (by unfold Tryz.f158; rfl) (fun _=>⟨(),trivial⟩) ?_
 intro a ha;obtain ⟨r,x,y⟩:=a;replace ha:dQ r:=ha;simp (maxSteps:=8000000) -implicitDefEqProofs [-kStep_move,-Bool.exists_bool,pg,lJ,pj,Con.fn,ag,aN]
 try dsimp only
 simp -implicitDefEqProofs only [and_assoc,exists_eq_left,exists_and_left,RepoD.ex1,RepoD.eta];have e0:ev r [x,y]=false->jE r x y=[]:=fun h=>by unfold jE; rw [if_neg (by simp -implicitDefEqProofs [h])]
 have e1:ev r [x,y]=true->jE r x y=dh r x y:=fun h=>by unfold jE; rw [if_pos h]
 refine ⟨[x,y],rfl,ha,e0,fun h=>?_⟩;obtain ⟨h1,h2⟩:=areB_iff.1 h;exact ⟨h1,(h2 x (by simp)).1,(h2 x (by simp)).2,(h2 y (by simp)).1,(h2 y (by simp)).2,e1 h,(e1 h).symm⟩
def wordsO:List Str:=[[],[115,101,116],[100,114,111,112],[109,111,118,101],[102,111,114,107],[117,110,105,116,101],[112,105,99,107],[98,97,99,107]]
def pS:Con:=.fn 2 Unit (fun _=>[]) (fun _=>True) (fun _=>.sl false 1 (aa wordsO)) (fun _=>[])
theorem BQ:Has Tryz.prog 139 pS:=by
 refine ah mixed aw HasL.nil [0] ((fun a n (_:Nat)=>(fun _=>az) a n)) [] Tryz.func139 (by unfold Tryz.f139; rfl) (fun _=>⟨(),trivial⟩) ?_
 intro _ _;simp -implicitDefEqProofs [pS,Con.fn,ag,wordsO,aa,ar]
def pC:Con:=.fn 2 Unit (fun _=>[]) (fun _=>True) (fun _=>.sl false 1 (aa wordsO)) (fun _=>[])
theorem AR:Has Tryz.prog 120 pC:=by
 refine ah mixed aw HasL.nil [0] ((fun a n (_:Nat)=>(fun _=>az) a n)) [] Tryz.func120 (by unfold Tryz.f120; rfl) (fun _=>⟨(),trivial⟩) ?_
 intro _ _;simp -implicitDefEqProofs [pC,Con.fn,ag,wordsO,aa,ar]
theorem Fn (t:List Str) (l:Str):bQ (t++[l])=bQ t++124 :: l:=by simp -implicitDefEqProofs [bQ]
theorem yG {t:List Str} {i:Nat} (h:i < t.length):bQ (t.take (i+1))=bQ (t.take i)++124 :: t[i]:=by rw [List.take_succ_eq_append_getElem h,Fn]
theorem mU:∀ {t:List Str} {k:Nat},(∀ l ∈ t,l.length<=k)->(bQ t).length<=t.length * (k+1)
 | [],k,_=>by simp -implicitDefEqProofs [bQ]
 | l :: t,k,h=>by
  have e:bQ (l :: t)=124 :: (l++bQ t):=rfl;have h1:=mU (t:=t) (k:=k) (fun x hx=>h x (by simp -implicitDefEqProofs [hx]))
  have h2:=h l (by simp)
  rw [e];simp only [List.length_cons,List.length_append];rw [Nat.add_mul]; omega
theorem Bh {t:List Str} (h:eZ t=true):t.length<=10 /\ ∀ l ∈ t,l.length<=12:=by
 unfold eZ bg at h;simp only [Bool.and_eq_true,decide_eq_true_eq,List.all_eq_true] at h;refine ⟨h.2.1,fun l hl=>?_⟩;have:=h.2.2 l hl;unfold fG at this;simp only [Bool.and_eq_true,decide_eq_true_eq] at this;exact this.1
def m6:Con:=.fn 18 (List Str) (fun t=>[.sl true 1 (aa t)]) (fun t=>t.length<=10 /\ ∀ l ∈ t,l.length<=12) (fun t=>.str (bQ t)) (fun _=>[])
theorem Ax:Has Tryz.prog 155 m6:=by
 refine ah mixed aw HasL.nil [0,2,3,5,6,7,8] ((fun a n (_:Nat)=>(fun t _=>⟨Nat,fun i=>⟨[(2,true,.str []),(3,true,.str (bQ (t.take i))),(6,true,.sl true 1 (aa t)),(7,true,.int .i64 t.length),(8,true,.int .i64 i)],[]⟩,fun i=>i<=t.length,fun i=>t.length - i⟩) a n)) [] Tryz.func155 (by unfold Tryz.f155; rfl) (fun _=>⟨(),trivial⟩) ?_
 intro (t:List Str) ht;obtain ⟨h1,h2⟩:t.length<=10 /\ ∀ l ∈ t,l.length<=12:=ht;simp -implicitDefEqProofs [m6,Con.fn,ag]
 try dsimp only
 have hl:∀ i,(bQ (t.take i)).length<=130:=fun i=>by
  have:=mU (t:=t.take i) (k:=12) (fun l hl=>h2 l (List.mem_of_mem_take hl));have h3:(t.take i).length<=10:=by rw [List.length_take]; omega
  omega
 refine fun _=>⟨⟨0,⟨rfl,rfl⟩,Nat.zero_le _⟩,fun i hi=>⟨fun hlt=>⟨hlt,fun _=>?_⟩,fun hge=>by rw [List.take_of_length_le hge]⟩⟩
 have qq:Option.map ar t[i]? = some (ar t[i]):=by simp -implicitDefEqProofs [hlt]
 have k1:=h2 t[i] (List.getElem_mem hlt);have k2:=hl i;have k3:=yG hlt;rw [qq];simp -implicitDefEqProofs [ar,D.asStr,maxLen];exact ⟨by omega,fun _=>⟨by omega,fun _=>⟨by omega,fun _ _=>⟨i+1,⟨k3,by omega⟩,by omega,by omega⟩⟩⟩⟩
theorem Jz (k:Int):(co k).length<=5:=by
 unfold co
 repeat' split
 all_goals decide
theorem j4 {p:Str} (h:dg p=true):p.length<=20:=(kY (by rw [gF]; exact h)).2
def un:Con:=.fn 59 OpD (fun o=>[vOp o]) (fun o=>opB o=true) (fun o=>.str (ba o)) (fun _=>[])
theorem LZ:Has Tryz.prog 142 un:=by
 refine ah mixed aw (HasL.cons BQ (HasL.cons Ax (HasL.cons vU HasL.nil))) [0,1,2,3,19,47] ((fun a n (_:Nat)=>(fun _=>az) a n)) [] Tryz.func142 (by unfold Tryz.f142; rfl) (fun _=>⟨(),trivial⟩) ?_
 intro (o:OpD) (ho:opB o=true);obtain ⟨⟨n1,n2⟩,h⟩:=mp ho;have l1:=(jT n1).2;have l2:=(jT n2).2;rcases h with ⟨b,w,p,t,rfl,h1,h2⟩ | ⟨b,w,p,rfl,h1⟩ | ⟨b,w,p,q,rfl,h1,h2⟩ | ⟨b,w,q,rfl,h1⟩ | ⟨b,w,q,rfl,h1⟩ | ⟨b,w,a,rfl,h1,h2⟩ | ⟨b,w,a,rfl,h1,h2⟩
 all_goals simp (maxSteps:=8000000) -implicitDefEqProofs [un,pS,m6,mZ,Con.fn,ag,bOp,wordsO,aa,ar,D.asStr,maxLen]
 all_goals simp only at l1 l2
 ·have k1:=j4 h1;obtain ⟨k2,k3⟩:=Bh h2;have k4:=mU k3
  repeat refine ⟨by omega,fun _=>?_⟩
  exact ⟨t,rfl,⟨k2,k3⟩,by omega,fun _=>rfl⟩
 ·have k1:=j4 h1
  repeat refine ⟨by omega,fun _=>?_⟩
  rfl
 ·have k1:=j4 h1;have k2:=j4 h2
  repeat refine ⟨by omega,fun _=>?_⟩
  rfl
 ·have k1:=(jT h1).2
  repeat refine ⟨by omega,fun _=>?_⟩
  rfl
 ·have k1:=(jT h1).2
  repeat refine ⟨by omega,fun _=>?_⟩
  rfl
 ·have k1:=nw a.toNat
  repeat refine ⟨by omega,fun _=>?_⟩
  exact ⟨a.toNat,by omega,by omega,by omega,fun _=>rfl⟩
 ·have k1:=nw a.toNat
  repeat refine ⟨by omega,fun _=>?_⟩
  exact ⟨a.toNat,by omega,by omega,by omega,fun _=>rfl⟩
def j8 (o:OpD):Prop:=(1<=o.kind/\o.kind<=7)/\o.branch.length<=20/\o.who.length<=20/\o.path.length<=20/\o.to_.length<=20/\(0<=o.at_/\o.at_<=15)/\o.text.length<=10 /\ ∀ l ∈ o.text,l.length<=12
theorem om {o:OpD} (h:opB o=true):j8 o:=by
 obtain ⟨⟨n1,n2⟩,h⟩:=mp h;have l1:=(jT n1).2;have l2:=(jT n2).2;rcases h with ⟨b,w,p,t,rfl,h1,h2⟩ | ⟨b,w,p,rfl,h1⟩ | ⟨b,w,p,q,rfl,h1,h2⟩ | ⟨b,w,q,rfl,h1⟩ | ⟨b,w,q,rfl,h1⟩ | ⟨b,w,a,rfl,h1,h2⟩ | ⟨b,w,a,rfl,h1,h2⟩
 all_goals simp only at l1 l2
 all_goals simp only [j8]
 ·have k1:=j4 h1;obtain ⟨k2,k3⟩:=Bh h2;exact ⟨⟨by omega,by omega⟩,by omega,by omega,k1,by simp,⟨by omega,by omega⟩,k2,k3⟩
 ·have k1:=j4 h1;exact ⟨⟨by omega,by omega⟩,by omega,by omega,k1,by simp,⟨by omega,by omega⟩,by simp,by simp⟩
 ·have k1:=j4 h1;have k2:=j4 h2;exact ⟨⟨by omega,by omega⟩,by omega,by omega,k1,k2,⟨by omega,by omega⟩,by simp,by simp⟩
 ·have k1:=(jT h1).2;exact ⟨⟨by omega,by omega⟩,by omega,by omega,by simp,by omega,⟨by omega,by omega⟩,by simp,by simp⟩
 ·have k1:=(jT h1).2;exact ⟨⟨by omega,by omega⟩,by omega,by omega,by simp,by omega,⟨by omega,by omega⟩,by simp,by simp⟩
 ·exact ⟨⟨by omega,by omega⟩,by omega,by omega,by simp,by simp,⟨h1,h2⟩,by simp,by simp⟩
 ·exact ⟨⟨by omega,by omega⟩,by omega,by omega,by simp,by simp,⟨h1,h2⟩,by simp,by simp⟩
def pB:Con:=.fn 76 OpD (fun o=>[vOp o]) j8 (fun o=>.str (ba o)) (fun _=>[])
def mz (o:OpD):Str:=co o.kind++32 :: (o.branch++32 :: (o.who++32 :: (o.path++[32])))
def AU (o:OpD):Inv:=⟨Nat,fun i=>⟨[(1,true,.ptr 10 0),(2,true,.str []),(3,true,.str (mz o++bQ (o.text.take i))),(4,true,.int .i64 i),(19,true,.int .i64 o.kind)],[(10,bOp o)]⟩,fun i=>i<=o.text.length,fun i=>o.text.length - i⟩
theorem AQ:Has Tryz.prog 81 pB:=by
 refine ah mixed aw (HasL.cons AR (HasL.cons wj HasL.nil)) [0,1,2,3,4,19,67] ((fun a n (_:Nat)=>(fun o _=>AU o) a n)) [] Tryz.func81 (by unfold Tryz.f81; rfl) (fun _=>⟨(),trivial⟩) ?_
 intro (o:OpD) (ho:j8 o);obtain ⟨k,b,w,p,q,a,t⟩:=o;obtain ⟨⟨hk1,hk7⟩,l1,l2,l3,l4,⟨l5,l6⟩,k2,k3⟩:=ho;simp only at hk1 hk7 l1 l2 l3 l4 l5 l6 k2 k3;have hk:k=1 \/ k=2 \/ k=3 \/ k=4 \/ k=5 \/ k=6 \/ k=7:=by omega
 clear hk1 hk7;rcases hk with rfl | rfl | rfl | rfl | rfl | rfl | rfl
 all_goals simp (maxSteps:=8000000) -implicitDefEqProofs [pB,pC,na,Con.fn,ag,bOp,wordsO,aa,ar,D.asStr,maxLen,AU]
 ·have hl:∀ i,(bQ (t.take i)).length<=130:=fun i=>by
   have:=mU (t:=t.take i) (k:=12) (fun l hl=>k3 l (List.mem_of_mem_take hl));have h3:(t.take i).length<=10:=by rw [List.length_take]; omega
   omega
  have hP:(mz ⟨1,b,w,p,q,a,t⟩).length<=70:=by simp -implicitDefEqProofs [mz,co]; omega
  have e:ba ⟨1,b,w,p,q,a,t⟩=mz ⟨1,b,w,p,q,a,t⟩++bQ t:=by simp -implicitDefEqProofs [ba,mz,cH,co]
  have e0:mz ⟨1,b,w,p,q,a,t⟩=115 :: 101 :: 116 :: 32 :: (b++32 :: (w++32 :: (p++[32]))):=rfl
  repeat refine ⟨by omega,fun _=>?_⟩
  refine ⟨⟨0,⟨by rw [e0]; simp -implicitDefEqProofs [bQ],rfl⟩,Nat.zero_le _⟩,fun i hi _=>⟨fun hlt=>?_,fun hge=>by rw [e,List.take_of_length_le hge]⟩⟩
  have qq:Option.map ar t[i]? = some (ar t[i]):=by simp -implicitDefEqProofs [hlt]
  have q1:=k3 t[i] (List.getElem_mem hlt);have q2:=hl i;have q3:=yG hlt;rw [qq];simp -implicitDefEqProofs [ar];exact ⟨by omega,fun _=>⟨hlt,fun _=>⟨by omega,fun _=>⟨by omega,fun _ _=>⟨i+1,⟨q3,by omega⟩,by omega,by omega⟩⟩⟩⟩⟩
 ·repeat refine ⟨by omega,fun _=>?_⟩
  rfl
 ·repeat refine ⟨by omega,fun _=>?_⟩
  rfl
 ·repeat refine ⟨by omega,fun _=>?_⟩
  rfl
 ·repeat refine ⟨by omega,fun _=>?_⟩
  rfl
 ·have k1:=nw a.toNat
  repeat refine ⟨by omega,fun _=>?_⟩
  exact ⟨a.toNat,by omega,by omega,by omega,fun _=>rfl⟩
 ·have k1:=nw a.toNat
  repeat refine ⟨by omega,fun _=>?_⟩
  exact ⟨a.toNat,by omega,by omega,by omega,fun _=>rfl⟩
--TAB aB
theorem Fl (t:List Str):bQ t=dU t:=by unfold bQ dU; rw [List.flatMap_def]
def pN:Con:=.fn 19 (List Int) (fun l=>[.sl true 1 (ae l)]) (fun l=>l.length<=1000 /\ ∀ n ∈ l,0<=n/\n < 100) (fun l=>.str (c7 l)) (fun _=>[])
theorem KP:Has Tryz.prog 153 pN:=by
 refine ah mixed aL (HasL.cons vU HasL.nil) [0,2,3,5,6,7,8] ((fun a n (_:Nat)=>(fun l _=>⟨Nat,fun i=>⟨[(2,true,.str []),(3,true,.str (c7 (l.take i))),(6,true,.sl true 1 (ae l)),(7,true,.int .i64 l.length),(8,true,.int .i64 i)],[]⟩,fun i=>i<=l.length,fun i=>l.length - i⟩) a n)) [] Tryz.func153 (by unfold Tryz.f153; rfl) (fun _=>⟨(),trivial⟩) ?_
 intro (l:List Int) ha;obtain ⟨h1,h2⟩:l.length<=1000 /\ ∀ n ∈ l,0<=n/\n < 100:=ha;simp -implicitDefEqProofs [pN,mZ,Con.fn,aB,ag]
 try dsimp only
 have bl:∀ t,(c7 (l.take t)).length<=3000:=fun t=>by
  have:=lX (l.take t);rw [List.length_take] at this;omega
 refine fun _=>⟨⟨0,⟨rfl,rfl⟩,Nat.zero_le _⟩,fun t ht=>⟨fun hlt=>⟨hlt,fun _=>?_⟩,fun hge=>by rw [List.take_of_length_le hge]⟩⟩
 have q1:Option.map ap l[t]? = some (ap l[t]):=by simp -implicitDefEqProofs [hlt]
 have st:=zv hlt;have b1:=bl t;have k1:=h2 _ (List.getElem_mem hlt);have k2:=jd l[t].toNat;rw [q1];generalize l[t]=n at *;generalize c7 (l.take t)=B at *;simp -implicitDefEqProofs [ap,D.asInt,maxLen];exact ⟨n.toNat,by omega,by omega,by omega,fun _=>⟨by omega,fun _=>⟨⟨by omega,by omega⟩,fun _ _=>⟨t+1,⟨by rw [st,List.append_assoc],by omega⟩,by omega,by omega⟩⟩⟩⟩
def kr (r:RepoD) (a:Int):List Int:=if ev r [a] then ak (anc r a) else []
def pf:Con:=.fn 14 (RepoD × Int) (fun a=>[aM a.1,.int .i64 a.2]) (fun a=>dQ a.1) (fun a=>.own 8 1 (ae (kr a.1 a.2))) (fun a=>dY 8 (kr a.1 a.2))
theorem EF:Has Tryz.prog 154 pf:=by
 refine ah mixed aL (HasL.cons oY (HasL.cons mR (HasL.cons nS HasL.nil))) [0,1,2,4] ((fun a n (_:Nat)=>(fun _=>az) a n)) [] Tryz.func154 (by unfold Tryz.f154; rfl) (fun _=>⟨(),trivial⟩) ?_
 intro a ha;obtain ⟨r,x⟩:=a;replace ha:dQ r:=ha;simp (maxSteps:=8000000) -implicitDefEqProofs [-kStep_move,-Bool.exists_bool,pf,lJ,kz,kF,Con.fn,aB,ag,aN]
 try dsimp only
 simp -implicitDefEqProofs only [and_assoc,exists_eq_left,exists_and_left,RepoD.ex1,RepoD.eta];have e0:ev r [x]=false->kr r x=[]:=fun h=>by unfold kr; rw [if_neg (by simp -implicitDefEqProofs [h])]
 have e1:ev r [x]=true->kr r x=ak (anc r x):=fun h=>by unfold kr; rw [if_pos h]
 refine ⟨[x],rfl,ha,e0,fun h=>?_⟩;obtain ⟨h1,h2⟩:=areB_iff.1 h;have hx:=h2 x (by simp)
 have hn:=fS h1;exact ⟨h1,hx.1,hx.2,by rw [ci]; omega,e1 h,(e1 h).symm⟩
def pi:Con:=.fn 99 (RepoD × List Str) (fun a=>[aM a.1,.sl true 1 (aa a.2)]) (fun a=>an a.1=true/\(a.2.length=2 \/ a.2.length=3) /\ ∀ s ∈ a.2,s.length<=536870912) (fun a=>.str (bP a.1 a.2)) (fun _=>[])
theorem EU:Has Tryz.prog 78 pi:=by
 refine ah mixed aL (HasL.cons jG (HasL.cons lu (HasL.cons EF (HasL.cons KP (HasL.cons vG (HasL.cons Ax (HasL.cons FC (HasL.cons KY (HasL.cons EG HasL.nil))))))))) [0,1,2,4,5,6,8,9,10,11,24,29,30,31,50] ((fun a n (_:Nat)=>(fun a _=>⟨Nat,fun i=>⟨[(4,true,.str []),(6,true,.str (fk ((aj a.1 (atL a.1.heads (a.2.getD 1 []))).take i))),(29,true,.sl true 2 (ac (aj a.1 (atL a.1.heads (a.2.getD 1 []))))),(30,true,.int .i64 (aj a.1 (atL a.1.heads (a.2.getD 1 []))).length),(31,true,.int .i64 i)],[]⟩,fun i=>i<=(aj a.1 (atL a.1.heads (a.2.getD 1 []))).length,fun i=>(aj a.1 (atL a.1.heads (a.2.getD 1 []))).length - i⟩) a n)) [] Tryz.func78 (by unfold Tryz.f78; rfl) (fun _=>⟨(),trivial⟩) ?_
 intro a ha;obtain ⟨r,w⟩:=a;obtain ⟨h1,h2,h3⟩:an r=true/\(w.length=2 \/ w.length=3) /\ ∀ s ∈ w,s.length<=536870912:=ha;have hRI:aF r=true:=by rw [b9]; exact h1
 have hn:=((be r).1 h1).2.2;have hrp:=(eG hRI).2;have hta:∀ a,(r.commits[a.toNat]?.getD default).tree=aj r a:=fun a=>by unfold aj; rw [List.getD_eq_getElem?_getD]
 rcases h2 with h2 | h2
 ·obtain ⟨x,y,rfl⟩:∃ x y,w=[x,y]:=by match w,h2 with | [x,y],_=>exact ⟨x,y,rfl⟩
  simp (maxSteps:=8000000) -implicitDefEqProofs [-kStep_move,-Bool.exists_bool,pi,gX,iH,pf,pN,lM,m6,pm,pO,pg,Con.fn,aB,ag,aN]
  try dsimp only
  simp -implicitDefEqProofs [ar,D.asStr];have e0:atL r.heads y < 0->bP r [x,y]=[110,111]:=fun h=>if_pos h;have e1:0<=atL r.heads y->bP r [x,y]=ew r x (atL r.heads y):=fun h=>by unfold bP; rw [if_neg (by simp; omega)]; rfl
  refine ⟨r,y,⟨⟨rfl,rfl⟩,rfl⟩,e0,fun h=>?_⟩;have hat:=gU hRI h;have tl:=oI (du h1 (atL r.heads y));have tp:=mL (du h1 (atL r.heads y));have hal:=oW h1 (atL r.heads y);rw [e1 h];generalize hA:atL r.heads y=a at *;have hb:ev r [a]=true:=areB_iff.2 ⟨hRI,by simp; omega⟩
  have hi:kr r a=ak (anc r a):=if_pos hb;have f1:x=[102,105,108,101,115]->ew r x a=fk (aj r a):=fun q=>by unfold ew; rw [if_pos q]
  have f2:¬ x=[102,105,108,101,115]->x=[102,114,111,109]->ew r x a=c7 (ak (anc r a)):=fun q q2=>by unfold ew; rw [if_neg q,if_pos q2]
  have f3:¬ x=[102,105,108,101,115] -> ¬ x=[102,114,111,109]->ew r x a=gQ:=fun q q2=>by unfold ew; rw [if_neg q,if_neg q2]
  refine ⟨fun q=>⟨r,a,⟨⟨rfl,rfl⟩,rfl⟩,⟨h,hat⟩,fun _=>⟨⟨0,⟨rfl,(hta a).symm,by rw [hta],rfl⟩,Nat.zero_le _⟩,fun t ht=>⟨fun hlt=>⟨hlt,fun _=>?_⟩,fun hge=>?_⟩⟩⟩,fun q=>⟨fun q2=>⟨r,a,⟨⟨rfl,rfl⟩,rfl⟩,hrp,?_⟩,fun q2=>by rw [f3 q q2]; rfl⟩⟩
  ·have q1:Option.map aq (aj r a)[t]? = some (aq (aj r a)[t]):=by simp -implicitDefEqProofs [hlt]
   have st:=CD hlt;have b1:=rn (t:=(aj r a).take t) fun f hf=>tp f (List.mem_of_mem_take hf);have b2:=tp _ (List.getElem_mem hlt);rw [List.length_take] at b1;rw [q1];generalize (aj r a)[t]=f at *;generalize fk ((aj r a).take t)=B at *;simp -implicitDefEqProofs [aq,maxLen,D.asRows];exact ⟨by omega,fun _=>⟨by omega,fun _=>⟨⟨by omega,by omega⟩,fun _ _=>⟨t+1,⟨by rw [st,List.append_assoc],by omega⟩,by omega,by omega⟩⟩⟩⟩
  ·rw [f1 q,List.take_of_length_le hge]
  ·rw [hi];refine ⟨⟨by omega,fun n hm=>?_⟩,f2 q q2⟩
   obtain ⟨i,hi,_,rfl⟩:=listT_mem.1 hm;rw [ci] at hi;omega
 ·obtain ⟨x,y,z,rfl⟩:∃ x y z,w=[x,y,z]:=by match w,h2 with | [x,y,z],_=>exact ⟨x,y,z,rfl⟩
  simp (maxSteps:=8000000) -implicitDefEqProofs [-kStep_move,-Bool.exists_bool,pi,gX,iH,pf,pN,lM,m6,pm,pO,pg,Con.fn,aB,ag,aN]
  try dsimp only
  simp -implicitDefEqProofs [ar,D.asStr];simp only [vH];have e0:atL r.heads y < 0->bP r [x,y,z]=[110,111]:=fun h=>if_pos h;have e1:0<=atL r.heads y->bP r [x,y,z]=cK r x (atL r.heads y) z:=fun h=>by unfold bP; rw [if_neg (by simp; omega)]; rfl
  refine ⟨r,y,⟨⟨rfl,rfl⟩,rfl⟩,e0,fun h=>?_⟩;have hat:=gU hRI h;have hz:=h3 z (by simp)
  rw [e1 h];generalize hA:atL r.heads y=a at *;have htx:∀ f ∈ aj r a,f.text.length<=64:=(iA _ (du h1 a)).2;have f1:x=[115,104,111,119]->(au (aj r a) z).2=true->cK r x a z=dU (au (aj r a) z).1:=fun q q2=>by unfold cK; rw [if_pos q,if_pos q2]
  have f1':x=[115,104,111,119]->(au (aj r a) z).2=false->cK r x a z=noA:=fun q q2=>by unfold cK; rw [if_pos q,if_neg (by rw [q2]; simp)]
  have f2:¬ x=[115,104,111,119]->x=[98,108,97,109,101]->cK r x a z=c7 (blm r z 16 a):=fun q q2=>by unfold cK; rw [if_neg q,if_pos q2]
  have f3:¬ x=[115,104,111,119] -> ¬ x=[98,108,97,109,101]->x=[108,111,103]->cK r x a z=c7 (fa r a z):=fun q q2 q3=>by unfold cK; rw [if_neg q,if_neg q2,if_pos q3]
  have f4:¬ x=[115,104,111,119] -> ¬ x=[98,108,97,109,101] -> ¬ x=[108,111,103]->x=[98,97,115,101,115]->0<=atL r.heads z->cK r x a z=c7 (eh r a (atL r.heads z)):=fun q q2 q3 q4 q5=>by unfold cK; rw [if_neg q,if_neg q2,if_neg q3,if_pos ⟨q4,q5⟩]
  have f5:¬ x=[115,104,111,119] -> ¬ x=[98,108,97,109,101] -> ¬ x=[108,111,103] -> ¬ (x=[98,97,115,101,115]/\0<=atL r.heads z)->cK r x a z=gQ:=fun q q2 q3 q4=>by unfold cK; rw [if_neg q,if_neg q2,if_neg q3,if_neg q4]
  refine ⟨fun q=>⟨r,a,⟨⟨rfl,rfl⟩,rfl⟩,⟨h,hat⟩,aj r a,z,⟨(hta a).symm,rfl⟩,fun f hf=>by have:=htx f hf; omega,f1' q,fun q2=>⟨xI (vL h1 a z),by rw [Fl]; exact f1 q q2⟩⟩,fun q=>⟨fun q2=>⟨r,a,z,⟨⟨rfl,rfl⟩,rfl,rfl⟩,⟨h1,h,hat⟩,⟨?_,fun n hm=>?_⟩,f2 q q2⟩,fun q2=>⟨fun q3=>⟨r,a,z,⟨⟨rfl,rfl⟩,rfl,rfl⟩,⟨⟨h1,h,hat⟩,hz⟩,⟨?_,fun n hm=>?_⟩,f3 q q2 q3⟩,fun q3=>⟨fun q4=>⟨r,z,⟨⟨rfl,rfl⟩,rfl⟩,fun q5=>⟨r,a,_,⟨⟨rfl,rfl⟩,rfl,rfl⟩,hrp,?_⟩,fun q5=>f5 q q2 q3 (by rintro ⟨_,q6⟩; omega)⟩,fun q4=>f5 q q2 q3 (fun q6=>q4 q6.1)⟩⟩⟩⟩
  ·have:=sE h1 z a; omega
  ·have:=sG h1 z 16 a ⟨h,hat⟩ n hm; omega
  ·have:=wS h1 a z; omega
  ·have hm2:n ∈ ak (anc r a):=by
    have:=(List.mem_filter.1 hm).1
    simpa using this
   obtain ⟨i,hi,_,rfl⟩:=listT_mem.1 hm2;rw [ci] at hi;omega
  ·have hat2:=gU hRI q5;have hb:ev r [a,atL r.heads z]=true:=areB_iff.2 ⟨hRI,by simp; omega⟩
   have hi:jE r a (atL r.heads z)=eh r a (atL r.heads z):=by unfold jE; rw [if_pos hb,sA]
   rw [hi];refine ⟨⟨?_,fun n hm=>?_⟩,f4 q q2 q3 q4 q5⟩
   ·have:=o7 hRI (a:=a) (b:=atL r.heads z); omega
   ·have:=sy n hm; omega
--TAB aB
def hlL (r:RepoD) (g:Nat):List Int:=ak (anc r (r.heads.getD g default).at_)
def wM (r:RepoD):Inv:=⟨Nat,fun k=>⟨[(1,true,.ptr 10 0),(2,true,.nil),(3,true,.own 9 1 (aJ (cY r k))),(4,true,.int .i64 k)],[(10,bG r),(9,.own 4 1 true (aJ (cY r k)))]⟩,fun k=>k<=r.heads.length,fun k=>r.heads.length - k⟩
def wN (r:RepoD) (g:Nat):Inv:=⟨Nat,fun j=>⟨[(1,true,.ptr 10 0),(2,true,.nil),(3,true,.own 9 1 (aJ (cO (cY r g) ((hlL r g).take j)))),(4,true,.int .i64 g),(5,true,.own 11 1 (ae (hlL r g))),(6,true,.int .i64 j)],[(10,bG r),(9,.own 4 1 true (aJ (cO (cY r g) ((hlL r g).take j)))),(11,.own 3 1 true (ae (hlL r g)))]⟩,fun j=>j<=(hlL r g).length/\g < r.heads.length,fun j=>(hlL r g).length - j⟩
def wO (r:RepoD):Inv:=⟨Nat,fun i=>⟨[(2,true,.nil),(3,true,.own 9 1 (aJ (da r))),(7,true,.own 11 1 (ae (dE (da r) i))),(8,true,.int .i64 i)],[(9,.own 4 1 true (aJ (da r))),(11,.own 3 1 true (ae (dE (da r) i)))]⟩,fun i=>i<=r.commits.length,fun i=>r.commits.length - i⟩
def qY (r:RepoD) (n g:Nat):Inv:=if n=3 then wM r else if n=7 then wN r g else wO r
theorem KR (r g):qY r 3 g=wM r:=rfl
theorem KT (r g):qY r 7 g=wN r g:=rfl
theorem KQ (r g):qY r 12 g=wO r:=rfl
def tw:Con:=.fn 56 RepoD (fun r=>[aM r]) (fun r=>an r=true) (fun r=>.own 8 1 (ae (am r))) (fun r=>dY 8 (am r))
theorem JL:Has Tryz.prog 130 tw:=by
 refine ah mixed aL (HasL.cons qP HasL.nil) [0,1,2,3,4,5,6,7,8] (fun r=>qY r) [] Tryz.func130 (by unfold Tryz.f130; rfl) (fun _=>⟨(),trivial⟩) ?_
 intro (r:RepoD) (h1:an r=true);simp (maxSteps:=8000000) -implicitDefEqProofs [tw,kE,Con.fn,aB,ag,KR,KT,KQ,wM,wN,wO,aN]
 try dsimp only
 simp -implicitDefEqProofs only [and_assoc,exists_eq_left,exists_and_left,RepoD.ex1,RepoD.eta];have hh:=((be r).1 h1).2.1;have hn:=((be r).1 h1).2.2;have hRI:aF r=true:=by rw [b9]; exact h1
 have hlen:=fun k=>wP r k;refine fun _=>⟨by omega,fun _=>⟨⟨0,by rw [qZ,gr],rfl,by rw [qZ,gr],Nat.zero_le _⟩,fun t ht _=>⟨fun hlt=>⟨hlt,fun _=>?_⟩,fun hge=>?_⟩⟩⟩
 ·have q:Option.map bc r.heads[t]? = some (bc r.heads[t]):=by simp -implicitDefEqProofs [hlt]
  have hat:=nM hh (List.getElem_mem hlt);have hl:hlL r t=ak (anc r r.heads[t].at_):=by unfold hlL; simp -implicitDefEqProofs [List.getD_eq_getElem?_getD,hlt]
  have hs:=Bk hlt;rw [<- hl] at hs;rw [q];simp -implicitDefEqProofs [bc,D.asInt];rw [<- hl];refine ⟨hRI,hat.1,hat.2,t,⟨0,rfl,rfl,rfl,rfl,rfl,rfl,Nat.zero_le _,hlt⟩,fun j hj _ _=>⟨fun hj2=>⟨hj2,fun _=>?_⟩,fun hj2=>?_⟩⟩
  ·have q2:Option.map ap (hlL r t)[j]? = some [D.int .i64 (hlL r t)[j]]:=by simp -implicitDefEqProofs [hj2,ap]
   have hmem:(hlL r t)[j] ∈ ak (anc r r.heads[t].at_):=by rw [<- hl]; exact List.getElem_mem hj2
   have hx0:=qX _ hmem;obtain ⟨i,hi,hi2,hi3⟩:=listT_mem.1 hmem;rw [ci] at hi;have hpl:(cO (cY r t) ((hlL r t).take j)).length=r.commits.length:=by rw [mB,hlen]
   have st:cO (cY r t) ((hlL r t).take (j+1))=(cO (cY r t) ((hlL r t).take j)).set (hlL r t)[j].toNat true:=by unfold cO; rw [aX hj2,List.foldl_append]; rfl
   rw [q2,hpl];have es:(aJ (cO (cY r t) ((hlL r t).take j))).set (hlL r t)[j].toNat [D.bool true]=aJ (cO (cY r t) ((hlL r t).take (j+1))):=by rw [el,st]
   generalize (hlL r t)[j]=y at *;simp -implicitDefEqProofs;refine ⟨by omega,by omega,fun _ _=>⟨by omega,by omega,by omega,fun _ _=>⟨j+1,es.symm,by omega,es,by omega,hlt,by omega⟩⟩⟩
  ·rw [List.take_of_length_le hj2];exact ⟨by omega,by omega,fun _ _=>⟨t+1,hs,by omega,hs.symm,by omega,by omega⟩⟩
 ·obtain rfl:t=r.heads.length:=by omega
  refine ⟨rfl,⟨0,rfl,rfl,rfl,rfl,Nat.zero_le _⟩,fun i hi _=>⟨fun hlt=>⟨hlt,fun _=>?_⟩,fun hge=>?_⟩⟩
  ·have hl:=ik (da r) i;have hi:isT (da r) i=(da r)[i]:=by simp -implicitDefEqProofs [isT,List.getD_eq_getElem?_getD,hlt]
   rw [jS] at hlt;have q:Option.map cz (da r)[i]? = some [D.bool (da r)[i]]:=by simp -implicitDefEqProofs [show i < (da r).length by rw [jS]; exact hlt,cz]
   rw [q];generalize (da r)[i]=bb at *;simp -implicitDefEqProofs [D.asBool];refine ⟨fun h=>?_,fun h=>?_⟩
   ·have e:=qU (hi.trans h);exact ⟨by omega,by omega,by omega,by omega,fun _ _=>⟨i+1,by rw [e]; simp -implicitDefEqProofs [ae,ap],by omega,by rw [e]; simp -implicitDefEqProofs [ae,ap],by omega,by omega⟩⟩
   ·have e:=qV (hi.trans h);exact ⟨by omega,by omega,fun _ _=>⟨i+1,e,by omega,e.symm,by omega,by omega⟩⟩
  ·rw [jS] at hge;have:dE (da r) i=am r:=by unfold am ak; rw [jS]; congr 1; omega
   exact ⟨this.symm,this⟩
def tx:Con:=.fn 19 (List Int × Int) (fun a=>[.sl true 1 (ae a.1),.int .i64 a.2]) (fun _=>True) (fun a=>.int .i64 (bD a.1 a.2)) (fun _=>[])
theorem MW {L:List Int} {n:Int} {i:Nat} (h:i < L.length) (h1:n ∉ L.take i) (h2:L[i]=n):bD L n=i:=by
 unfold bD;rw [if_pos (h2 ▸ List.getElem_mem h)];have e:L=L.take i++n :: L.drop (i+1):=by rw [<- h2,<- List.drop_eq_getElem_cons h,List.take_append_drop]
 rw [e,List.idxOf_append,if_neg h1];simp; omega
theorem MX {L:List Int} {n:Int} (h:n ∉ L):bD L n = -1:=by unfold bD; rw [if_neg h]
theorem JM:Has Tryz.prog 131 tx:=by
 refine ah mixed aL HasL.nil [0,1,4,5] ((fun a n (_:Nat)=>(fun a _=>⟨Nat,fun i=>⟨[(0,true,.sl true 1 (ae a.1)),(1,true,.int .i64 a.2),(4,true,.int .i64 0),(5,true,.int .i64 i)],[]⟩,fun i=>i<=a.1.length/\a.2 ∉ a.1.take i,fun i=>a.1.length - i⟩) a n)) [] Tryz.func131 (by unfold Tryz.f131; rfl) (fun _=>⟨(),trivial⟩) ?_
 intro a _;obtain ⟨l,n⟩:=a;simp -implicitDefEqProofs [tx,Con.fn,aB,ag]
 try dsimp only
 refine fun t ht hm _=>⟨fun hlt=>⟨hlt,fun _=>?_⟩,fun hge=>MX (by rw [List.take_of_length_le hge] at hm; exact hm)⟩
 have q:Option.map ap l[t]? = some (ap l[t]):=by simp -implicitDefEqProofs [hlt]
 have e1:=fun h=>MW hlt hm h;have e2:¬ l[t]=n->n ∉ l.take (t+1):=fun h=>by
  rw [aX hlt,List.mem_append,not_or];exact ⟨hm,by simpa using fun e=>h e.symm⟩
 rw [q];simp -implicitDefEqProofs [ap,D.asInt];exact ⟨e1,fun h=>⟨⟨by omega,by omega⟩,fun _ _=>⟨t+1,by omega,⟨by omega,e2 h⟩,by omega⟩⟩⟩
def eP (r:RepoD) (g k:Nat):List Int:=((r.commits.getD ((am r).getD g 0).toNat default).parents.take k).map (bD (am r))++(r.commits.getD ((am r).getD g 0).toNat default).parents.drop k
abbrev kpC (r:RepoD) (g:Nat):CommitD:=r.commits.getD ((am r).getD g 0).toNat default
def kpA (r:RepoD):Inv:=⟨Nat,fun i=>⟨[(1,true,.ptr 10 0),(2,true,.ptr 11 0),(3,true,.ptr 12 0),(4,true,.own 9 1 (ae (am r))),(5,true,.int .i64 i)],[(10,bG r),(11,iC),(12,.box 35 [.own 13 3 (aD ((keepR r).commits.take i)),.nil]),(9,.own 3 1 true (ae (am r))),(13,.own 94 3 true (aD ((keepR r).commits.take i)))]⟩,fun i=>i<=(am r).length,fun i=>(am r).length - i⟩
def kpB (r:RepoD) (g:Nat):Inv:=⟨Nat,fun k=>⟨[(1,true,.ptr 10 0),(2,true,.ptr 11 0),(3,true,.ptr 12 0),(4,true,.own 9 1 (ae (am r))),(5,true,.int .i64 g),(6,true,.ptr 14 0),(7,true,.int .i64 k)],[(10,bG r),(11,iC),(12,.box 35 [.own 13 3 (aD ((keepR r).commits.take g)),.nil]),(9,.own 3 1 true (ae (am r))),(13,.own 94 3 true (aD ((keepR r).commits.take g))),(14,.box 94 [.own 15 1 (ae (eP r g k)),.str (kpC r g).who,.own 16 2 (ac (kpC r g).tree)]),(15,.own 3 1 true (ae (eP r g k)))]++eO 16 (kpC r g).tree⟩,fun k=>k<=(kpC r g).parents.length/\g < (am r).length,fun k=>(kpC r g).parents.length - k⟩
def kpH (r:RepoD):Inv:=⟨Nat,fun i=>⟨[(1,true,.ptr 10 0),(2,true,.ptr 11 0),(3,true,.ptr 12 0),(4,true,.own 9 1 (ae (am r))),(8,true,.int .i64 i)],[(10,bG r),(11,iC),(12,.box 35 [.own 13 3 (aD (keepR r).commits),.own 14 2 (al ((keepR r).heads.take i))]),(9,.own 3 1 true (ae (am r))),(13,.own 94 3 true (aD (keepR r).commits)),(14,.own 96 2 true (al ((keepR r).heads.take i)))]⟩,fun i=>i<=r.heads.length,fun i=>r.heads.length - i⟩
def qJ (r:RepoD) (n g:Nat):Inv:=if n=6 then kpA r else if n=10 then kpB r g else kpH r
theorem JE (r g):qJ r 6 g=kpA r:=rfl
theorem JC (r g):qJ r 10 g=kpB r g:=rfl
theorem JD (r g):qJ r 15 g=kpH r:=rfl
def tm:Con:=.fn 83 RepoD (fun r=>[aM r]) (fun r=>an r=true) (fun r=>.agg [.sl false 3 (aD (keepR r).commits),.sl false 2 (al (keepR r).heads)]) (fun _=>[])
theorem Jq:Has Tryz.prog 70 tm:=by
 refine ah mixed aL (HasL.cons jl (HasL.cons JL (HasL.cons A2 (HasL.cons JM HasL.nil)))) [0,1,2,3,4,5,6,7,8] (fun r=>qJ r) [52,53] Tryz.func70 (by unfold Tryz.f70; rfl) (fun _=>⟨(),trivial⟩) ?_
 intro (r:RepoD) (h1:an r=true);simp (maxSteps:=8000000) -implicitDefEqProofs [tm,hD,tw,pL,tx,Con.fn,aB,ag,JE,JC,JD,kpA,kpB,kpH,aN]
 try dsimp only
 simp -implicitDefEqProofs only [and_assoc,exists_eq_left,exists_and_left,RepoD.ex1,RepoD.eta];have hn:=((be r).1 h1).2.2;have hsz:=oC h1;have hlc:=nT r;refine ⟨by omega,fun h=>absurd h (by rw [h1]; simp),fun _=>⟨h1,.inl trivial,Nat.zero_le _,fun t ht _=>⟨fun hlt=>⟨hlt,fun _=>?_⟩,fun hge=>?_⟩⟩⟩
 ·have q:Option.map ap (am r)[t]? = some (ap (am r)[t]):=by simp -implicitDefEqProofs [hlt]
  have hx:=(live_mem.1 (List.getElem_mem hlt)).1;have gc:=eU (r:=r) hx.1 hx.2;rw [q];have hci:(am r)[t].toNat < r.commits.length:=by omega
  have hcm:=hsz.2.1 _ (List.getElem_mem hci);have hgo:r.commits[(am r)[t].toNat]?.getD default=r.commits[(am r)[t].toNat]:=by simp -implicitDefEqProofs [hci]
  have hta:aj r (am r)[t]=r.commits[(am r)[t].toNat].tree:=by unfold aj; simp -implicitDefEqProofs [List.getD_eq_getElem?_getD,hci]
  have hgl:(am r)[t]?.getD 0=(am r)[t]:=by simp -implicitDefEqProofs [hlt]
  have hk0:eP r t 0=r.commits[(am r)[t].toNat].parents:=by simp -implicitDefEqProofs [eP,List.getD_eq_getElem?_getD,hlt,hgo]
  have hpk:∀ k,eP r t k=(r.commits[(am r)[t].toNat].parents.take k).map (bD (am r))++r.commits[(am r)[t].toNat].parents.drop k:=fun k=>by simp -implicitDefEqProofs [eP,List.getD_eq_getElem?_getD,hlt,hgo]
  have hkc:jj r (am r) (am r)[t]=⟨r.commits[(am r)[t].toNat].parents.map (bD (am r)),r.commits[(am r)[t].toNat].who,r.commits[(am r)[t].toNat].tree⟩:=by simp -implicitDefEqProofs [jj,List.getD_eq_getElem?_getD,hgo]
  have hkl:(keepR r).commits.length=(am r).length:=jP r;have hks:(keepR r).commits.take (t+1)=(keepR r).commits.take t++[jj r (am r) (am r)[t]]:=by rw [aX (by rw [hkl]; exact hlt)]; simp -implicitDefEqProofs [keepR]
  simp -implicitDefEqProofs [ap,D.asInt,gc,D.asStr,D.asRows];rw [hgo,hta];generalize hcc:r.commits[(am r)[t].toNat]=c at *;refine ⟨hx.1,hx.2,fun _ _=>⟨hcm,t,rfl,rfl,hk0,by rw [hgl,hgo],by rw [hgl,hgo],rfl,hk0.symm,by rw [hgl,hgo],hlt,fun k hk _ _=>⟨fun hk2=>⟨hk2,fun _=>?_⟩,fun hk2=>?_⟩⟩⟩
  ·have hlk:(eP r t k).length=c.parents.length:=by rw [hpk]; simp; omega
   rw [hgl,hgo] at hk;have hk3:k < c.parents.length:=by omega
   have hgk:(eP r t k)[k]? = some c.parents[k]:=by
    rw [hpk,List.getElem?_append_right (by simp; omega)]
    simp -implicitDefEqProofs [List.getElem?_drop,Nat.min_eq_left hk]
   have q2:Option.map ap (eP r t k)[k]? = some [D.int .i64 c.parents[k]]:=by rw [hgk]; rfl
   have hst:(eP r t k).set k (bD (am r) c.parents[k])=eP r t (k+1):=by
    rw [hpk,hpk,List.set_append_right _ _ (by simp; omega),aX hk3,List.map_append,List.append_assoc]
    congr 1
    rw [List.length_map,List.length_take,Nat.min_eq_left hk,Nat.sub_self,List.drop_eq_getElem_cons hk3,List.set_cons_zero];rfl
   have es:(ae (eP r t k)).set k [D.int .i64 (bD (am r) c.parents[k])]=ae (eP r t (k+1)):=by rw [kM,hst]
   rw [q2,hgl,hgo];generalize c.parents[k]=y at *;simp -implicitDefEqProofs;exact ⟨hk2,fun _=>⟨hk2,by omega,by omega,fun _ _=>⟨k+1,by omega,es.symm,es,by omega,hlt,by omega⟩⟩⟩
  ·have hlk:(eP r t k).length=c.parents.length:=by rw [hpk]; simp; omega
   rw [hgl,hgo] at hk;have hke:k=c.parents.length:=by omega
   have hpe:eP r t k=c.parents.map (bD (am r)):=by rw [hpk,hke]; simp
   rw [hgl,hgo,hpe,jM,<- hkc,<- hks];exact ⟨by omega,by omega,by omega,by omega,fun _ _=>⟨t+1,by omega,rfl,rfl,by omega,by omega⟩⟩
 ·obtain rfl:t=(am r).length:=by omega
  have hkl:(keepR r).commits.length=(am r).length:=jP r;have et:(keepR r).commits.take (am r).length=(keepR r).commits:=by rw [<- hkl,List.take_length]
  refine ⟨et.symm,.inl trivial,et,.inl trivial,Nat.zero_le _,fun i hi _=>⟨fun hlt=>⟨hlt,fun _=>?_⟩,fun hge=>?_⟩⟩
  ·have q:Option.map bc r.heads[i]? = some (bc r.heads[i]):=by simp -implicitDefEqProofs [hlt]
   have hks:(keepR r).heads.take (i+1)=(keepR r).heads.take i++[fE (am r) r.heads[i]]:=by rw [aX (by rw [kT,List.length_map]; exact hlt)]; simp -implicitDefEqProofs [keepR]
   rw [q];generalize r.heads[i]=g at *;simp -implicitDefEqProofs [bc,D.asStr,D.asInt];rw [qh,show (⟨g.name,bD (am r) g.at_⟩:HeadD)=fE (am r) g from rfl,<- hks]
   have hhl:(keepR r).heads.length=r.heads.length:=by rw [kT,List.length_map]
   have:=hsz.2.2;exact ⟨hlt,fun _=>⟨by omega,by omega,by omega,by omega,fun _ _=>⟨i+1,by omega,rfl,rfl,by omega,by omega⟩⟩⟩
  ·rw [List.take_of_length_le (by rw [kT,List.length_map]; exact hge)]
--TAB aB
def lvA (r:RepoD):Inv:=⟨Nat,fun k=>⟨[(1,true,.ptr 10 0),(2,true,.nil),(3,true,.own 9 1 (aJ (cY r k))),(13,true,.sl true 2 (al r.heads)),(14,true,.int .i64 r.heads.length),(15,true,.int .i64 k)],[(10,bG r),(9,.own 4 1 true (aJ (cY r k)))]⟩,fun k=>k<=r.heads.length,fun k=>r.heads.length - k⟩
def lvB (r:RepoD) (g:Nat):Inv:=⟨Nat,fun j=>⟨[(1,true,.ptr 10 0),(2,true,.nil),(3,true,.own 9 1 (aJ (cO (cY r g) ((hlL r g).take j)))),(13,true,.sl true 2 (al r.heads)),(14,true,.int .i64 r.heads.length),(15,true,.int .i64 g),(23,true,.own 11 1 (ae (hlL r g))),(24,true,.int .i64 (hlL r g).length),(25,true,.int .i64 j)],[(10,bG r),(9,.own 4 1 true (aJ (cO (cY r g) ((hlL r g).take j)))),(11,.own 3 1 true (ae (hlL r g)))]⟩,fun j=>j<=(hlL r g).length/\g < r.heads.length,fun j=>(hlL r g).length - j⟩
def wT (r:RepoD) (n g:Nat):Inv:=if n=3 then lvA r else lvB r g
theorem K7 (r g):wT r 3 g=lvA r:=rfl
theorem K8 (r g):wT r 6 g=lvB r g:=rfl
def tZ:Con:=.fn 35 RepoD (fun r=>[aM r]) (fun r=>an r=true) (fun r=>.own 8 1 (aJ (da r))) (fun r=>w9 8 (da r))
theorem KU:Has Tryz.prog 152 tZ:=by
 refine ah mixed aL (HasL.cons mR (HasL.cons nS HasL.nil)) [0,1,2,3,5,7,13,14,15,23,24,25] (fun r=>wT r) [] Tryz.func152 (by unfold Tryz.f152; rfl) (fun _=>⟨(),trivial⟩) ?_
 intro (r:RepoD) (h1:an r=true);simp (maxSteps:=8000000) -implicitDefEqProofs [-kStep_move,tZ,kz,kF,Con.fn,aB,ag,K7,K8,lvA,lvB,aN]
 try dsimp only
 simp -implicitDefEqProofs only [and_assoc,exists_eq_left,exists_and_left,RepoD.ex1,RepoD.eta];have hh:=((be r).1 h1).2.1;have hn:=((be r).1 h1).2.2;have hRI:aF r=true:=by rw [b9]; exact h1
 have hlen:=fun k=>wP r k;have hal:=fun a=>ci r a;refine fun _=>⟨by omega,fun _ _=>⟨⟨0,by rw [qZ,gr],rfl,by rw [qZ,gr],Nat.zero_le _⟩,fun t ht=>⟨fun hlt=>⟨hlt,fun _=>?_⟩,fun hge=>?_⟩⟩⟩
 ·have q:Option.map bc r.heads[t]? = some (bc r.heads[t]):=by simp -implicitDefEqProofs [hlt]
  have hat:=nM hh (List.getElem_mem hlt);have hl:hlL r t=ak (anc r r.heads[t].at_):=by unfold hlL; simp -implicitDefEqProofs [List.getD_eq_getElem?_getD,hlt]
  have hs:=Bk hlt;rw [<- hl] at hs;rw [q];simp -implicitDefEqProofs [bc,D.asInt,D.asStr];rw [<- hl];refine ⟨hRI,hat.1,hat.2,by rw [hal]; omega,fun _=>⟨t,⟨0,rfl,rfl,rfl,rfl,rfl,rfl,rfl,Nat.zero_le _,hlt⟩,fun j hj _=>⟨fun hj2=>⟨hj2,fun _=>?_⟩,fun hj2=>?_⟩⟩⟩
  ·have q2:Option.map ap (hlL r t)[j]? = some [D.int .i64 (hlL r t)[j]]:=by simp -implicitDefEqProofs [hj2,ap]
   have hmem:(hlL r t)[j] ∈ ak (anc r r.heads[t].at_):=by rw [<- hl]; exact List.getElem_mem hj2
   have hx0:=qX _ hmem;obtain ⟨i,hi,hi2,hi3⟩:=listT_mem.1 hmem;rw [ci] at hi;have hpl:(cO (cY r t) ((hlL r t).take j)).length=r.commits.length:=by rw [mB,hlen]
   have st:cO (cY r t) ((hlL r t).take (j+1))=(cO (cY r t) ((hlL r t).take j)).set (hlL r t)[j].toNat true:=by unfold cO; rw [aX hj2,List.foldl_append]; rfl
   rw [q2,hpl];have es:(aJ (cO (cY r t) ((hlL r t).take j))).set (hlL r t)[j].toNat [D.bool true]=aJ (cO (cY r t) ((hlL r t).take (j+1))):=by rw [el,st]
   generalize (hlL r t)[j]=y at *;simp -implicitDefEqProofs;refine ⟨by omega,by omega,fun _ _=>⟨by omega,by omega,by omega,fun _ _=>⟨j+1,es.symm,by omega,es,by omega,hlt,by omega⟩⟩⟩
  ·rw [List.take_of_length_le hj2];exact ⟨by omega,by omega,fun _ _=>⟨t+1,hs,by omega,hs.symm,by omega,by omega⟩⟩
 ·obtain rfl:t=r.heads.length:=by omega
  exact ⟨rfl,rfl⟩
def ikA (r:RepoD):Inv:=⟨Nat,fun i=>⟨[(1,true,.ptr 10 0),(2,true,.ptr 11 0),(3,true,.own 9 1 (ae (cZ r i))),(4,true,.ptr 12 0),(22,true,.own 15 1 (ae (am r))),(23,true,.int .i64 (am r).length),(24,true,.int .i64 i)],[(10,bG r),(11,iC),(12,.box 35 [.own 13 3 (aD ((keepR r).commits.take i)),.nil]),(9,.own 3 1 true (ae (cZ r i))),(13,.own 94 3 true (aD ((keepR r).commits.take i))),(15,.own 3 1 true (ae (am r)))]⟩,fun i=>i<=(am r).length,fun i=>(am r).length - i⟩
def jX (r:RepoD) (g k:Nat):List Int:=((kpC r g).parents.take k).map (bD (am r))
def ikB (r:RepoD) (g:Nat):Inv:=⟨Nat,fun k=>⟨[(1,true,.ptr 10 0),(2,true,.ptr 11 0),(3,true,.own 9 1 (ae (cZ r (g+1)))),(4,true,.ptr 12 0),(7,true,.ptr 14 0),(22,true,.own 15 1 (ae (am r))),(23,true,.int .i64 (am r).length),(24,true,.int .i64 g),(50,true,.sl true 1 (ae (kpC r g).parents)),(51,true,.int .i64 (kpC r g).parents.length),(52,true,.int .i64 k)],[(10,bG r),(11,iC),(12,.box 35 [.own 13 3 (aD ((keepR r).commits.take g)),.nil]),(9,.own 3 1 true (ae (cZ r (g+1)))),(13,.own 94 3 true (aD ((keepR r).commits.take g))),(15,.own 3 1 true (ae (am r))),(14,.box 94 [.own 16 1 (ae (jX r g k)),.str (kpC r g).who,.own 17 2 (ac (kpC r g).tree)]),(16,.own 3 1 true (ae (jX r g k)))]++eO 17 (kpC r g).tree⟩,fun k=>k<=(kpC r g).parents.length/\g < (am r).length,fun k=>(kpC r g).parents.length - k⟩
def ikH (r:RepoD):Inv:=⟨Nat,fun i=>⟨[(2,true,.ptr 11 0),(3,true,.own 9 1 (ae (cZ r (am r).length))),(4,true,.ptr 12 0),(74,true,.sl true 2 (al r.heads)),(75,true,.int .i64 r.heads.length),(76,true,.int .i64 i)],[(11,iC),(12,.box 35 [.own 13 3 (aD (keepR r).commits),.own 14 2 (al ((keepR r).heads.take i))]),(9,.own 3 1 true (ae (cZ r (am r).length))),(13,.own 94 3 true (aD (keepR r).commits)),(14,.own 96 2 true (al ((keepR r).heads.take i)))]⟩,fun i=>i<=r.heads.length,fun i=>r.heads.length - i⟩
def qw (r:RepoD) (n g:Nat):Inv:=if n=6 then ikA r else if n=11 then ikB r g else ikH r
theorem H7 (r g):qw r 6 g=ikA r:=rfl
theorem H5 (r g):qw r 11 g=ikB r g:=rfl
theorem H6 (r g):qw r 18 g=ikH r:=rfl
def tj:Con:=.fn 95 RepoD (fun r=>[aM r]) (fun r=>an r=true) (fun r=>.agg [.own 8 3 (aD (keepR r).commits),.own 9 2 (al (keepR r).heads)]) (fun r=>iS 8 (keepR r).commits++gD 9 (keepR r).heads)
theorem Jp:Has Tryz.prog 77 tj:=by
 refine ah mixed aL (HasL.cons lf (HasL.cons KU (HasL.cons nS (HasL.cons lu (HasL.cons jc HasL.nil))))) [0,1,2,3,4,6,7,9,11,22,23,24,50,51,52,74,75,76] (fun r=>qw r) [69,70] Tryz.func77 (by unfold Tryz.f77; rfl) (fun _=>⟨(),trivial⟩) ?_
 intro (r:RepoD) (h1:an r=true);simp (maxSteps:=8000000) -implicitDefEqProofs [-kStep_move,tj,ja,tZ,kF,iH,gY,Con.fn,aB,ag,H7,H5,H6,ikA,ikB,ikH,aN]
 try dsimp only
 simp -implicitDefEqProofs only [and_assoc,exists_eq_left,exists_and_left,RepoD.ex1,RepoD.eta];have hRI:aF r=true:=by rw [b9]; exact h1
 have hr:=(eG hRI).2;have hsz:=oC h1;have hn:=((be r).1 h1).2.2;have hlc:=nT r;have hll:ak (da r)=am r:=rfl;have hnl:=fun t=>rf r t;have hn0:List.replicate r.commits.length [D.int .i64 0]=ae (cZ r 0):=by rw [LC]; simp -implicitDefEqProofs [ae,ap]
 have hkl:(keepR r).commits.length=(am r).length:=jP r;refine ⟨hr,fun h=>absurd h (by rw [hRI]; simp),fun _ _=>⟨by omega,by omega,fun _ _=>⟨h1,by rw [jS]; omega,fun _=>⟨⟨0,hn0.symm,rfl,rfl,rfl,.inl rfl,hn0,.inl rfl,rfl,Nat.zero_le _⟩,fun t ht=>⟨fun hlt=>⟨hlt,fun _=>?_⟩,fun hge=>?_⟩⟩⟩⟩⟩
 ·have q:Option.map ap (am r)[t]? = some (ap (am r)[t]):=by simp -implicitDefEqProofs [hlt]
  have hx:=(live_mem.1 (List.getElem_mem hlt)).1;have gc:=eU (r:=r) hx.1 hx.2;rw [q];have hci:(am r)[t].toNat < r.commits.length:=by omega
  have hcm:=hsz.2.1 _ (List.getElem_mem hci);have hgo:r.commits[(am r)[t].toNat]?.getD default=r.commits[(am r)[t].toNat]:=by simp -implicitDefEqProofs [hci]
  have hta:aj r (am r)[t]=r.commits[(am r)[t].toNat].tree:=by unfold aj; simp -implicitDefEqProofs [List.getD_eq_getElem?_getD,hci]
  have hgl:(am r)[t]?.getD 0=(am r)[t]:=by simp -implicitDefEqProofs [hlt]
  have hpm:∀ k,jX r t k=(r.commits[(am r)[t].toNat].parents.take k).map (bD (am r)):=fun k=>by simp -implicitDefEqProofs [jX,List.getD_eq_getElem?_getD,hlt,hgo]
  have hkc:jj r (am r) (am r)[t]=⟨r.commits[(am r)[t].toNat].parents.map (bD (am r)),r.commits[(am r)[t].toNat].who,r.commits[(am r)[t].toNat].tree⟩:=by simp -implicitDefEqProofs [jj,List.getD_eq_getElem?_getD,hgo]
  have hks:(keepR r).commits.take (t+1)=(keepR r).commits.take t++[jj r (am r) (am r)[t]]:=by rw [aX (by rw [hkl]; exact hlt)]; simp -implicitDefEqProofs [keepR]
  have hns:=LF hlt;have hes:(ae (cZ r t)).set (am r)[t].toNat [D.int .i64 (t:Int)]=ae (cZ r (t+1)):=by rw [kM,hns]
  have hmin:min t (keepR r).commits.length=t:=by rw [hkl]; omega
  have hpp:=fun p hp=>LE h1 hlt (p:=p) hp;have hgd:r.commits.getD (am r)[t].toNat default=r.commits[(am r)[t].toNat]:=by simp -implicitDefEqProofs [List.getD_eq_getElem?_getD,hci]
  rw [hgd] at hpp;simp -implicitDefEqProofs [ap,D.asInt,gc,D.asStr,D.asRows,hmin];rw [hgo];generalize hcc:r.commits[(am r)[t].toNat]=c at *;refine fun _=>⟨hx.1,by rw [hnl]; exact hx.2,fun _ _=>⟨by rw [hnl]; omega,hx.1,hx.2,fun _ _=>⟨hx.1,hx.2,hcm.2.1,hcm.2.2,hx.1,hx.2,fun _ _ _=>⟨t,hes.symm,rfl,by rw [hgl,hgo],by rw [hgl,hgo],hmin,by rw [hpm]; rfl,by rw [hgl,hgo],by rw [hgl,hgo],hes,hmin.symm,by rw [hpm]; rfl,by rw [hgl,hgo],hlt,fun k hk _=>⟨fun hk2=>⟨hk2,fun _=>?_⟩,fun hk2=>?_⟩⟩⟩⟩⟩
  ·rw [hgl,hgo] at hk hk2 ⊢;have q2:Option.map ap c.parents[k]? = some [D.int .i64 c.parents[k]]:=by simp -implicitDefEqProofs [hk2,ap]
   obtain ⟨p1,p2,p3⟩:=hpp _ (List.getElem_mem hk2);have st:jX r t (k+1)=jX r t k++[bD (am r) c.parents[k]]:=by rw [hpm,hpm,aX hk2,List.map_append]; rfl
   have hpl:(jX r t k).length<=1048576:=by rw [hpm]; simp; have:=hcm.1; omega
   rw [q2];generalize c.parents[k]=y at *;simp -implicitDefEqProofs [p3,ap];rw [kN,<- st];exact ⟨p1,by omega,fun _ _=>⟨by omega,by omega,by omega,by omega,fun _ _=>⟨k+1,by omega,rfl,rfl,by omega,hlt,by omega⟩⟩⟩
  ·rw [hgl,hgo] at hk hk2 ⊢;have hke:k=c.parents.length:=by omega
   have hpe:jX r t k=c.parents.map (bD (am r)):=by rw [hpm,hke]; simp
   rw [hpe,jM,<- hkc,<- hks];exact ⟨by omega,by omega,by omega,by omega,fun _ _=>⟨t+1,rfl,by omega,rfl,rfl,rfl,by omega,by omega⟩⟩
 ·obtain rfl:t=(am r).length:=by omega
  have et:(keepR r).commits.take (am r).length=(keepR r).commits:=by rw [<- hkl,List.take_length]
  have hhl:(keepR r).heads.length=r.heads.length:=by rw [kT,List.length_map]
  refine fun _=>⟨rfl,et.symm,.inl trivial,rfl,et,.inl trivial,Nat.zero_le _,fun i hi=>⟨fun hlt=>⟨hlt,fun _=>?_⟩,fun hge=>?_⟩⟩
  ·have q:Option.map bc r.heads[i]? = some (bc r.heads[i]):=by simp -implicitDefEqProofs [hlt]
   have hks:(keepR r).heads.take (i+1)=(keepR r).heads.take i++[fE (am r) r.heads[i]]:=by rw [aX (by rw [hhl]; exact hlt)]; simp -implicitDefEqProofs [keepR]
   obtain ⟨p1,p2,p3⟩:=LD h1 (List.getElem_mem hlt);have:=hsz.2.2;rw [q];generalize r.heads[i]=g at *;simp -implicitDefEqProofs [bc,D.asStr,D.asInt,p3,ap];rw [qh,show (⟨g.name,bD (am r) g.at_⟩:HeadD)=fE (am r) g from rfl,<- hks]
   exact ⟨p1,by omega,fun _ _=>⟨by omega,by omega,by omega,by omega,fun _ _=>⟨i+1,by omega,rfl,rfl,by omega,by omega⟩⟩⟩
  ·rw [List.take_of_length_le (by rw [hhl]; exact hge)]
   exact ⟨rfl,rfl⟩
theorem vf {c:UInt8} {m:Nat}:∀ {s p:Str} {n:Nat},aH s c < 0->aO (c.toNat:Int) m s p n=[p++s]
 | [],p,n,_=>by simp [aO]
 | b :: l,p,n,h=>by
  simp only [aH] at h;split at h
  ·omega
  ·rename_i hb;split at h
   ·rename_i hl;have hx:¬ (b.toNat:Int)=c.toNat:=fun e=>hb (UInt8.toNat_inj.1 (by omega))
    rw [aO];split
    ·first
      | rw [if_neg hx,vf hl]; simp
      | rw [vf hl]; simp
    ·rfl
   ·omega
theorem zr {c:UInt8} {m n:Nat} (hn:n < m):∀ {s p:Str},0<=aH s c->aO (c.toNat:Int) m s p n=(p++s.take (aH s c).toNat) :: aO (c.toNat:Int) m (s.drop ((aH s c).toNat+1)) [] (n+1)
 | [],p,h=>by simp [aH] at h
 | b :: l,p,h=>by
  by_cases hb:b=c
  ·subst hb;simp [aH,aO,hn]
  ·have hx:¬ (b.toNat:Int)=c.toNat:=fun e=>hb (UInt8.toNat_inj.1 (by omega))
   simp only [aH,if_neg hb] at h ⊢;split at h
   ·omega
   ·rename_i hl;rw [if_neg hl];have e:(aH l c+1).toNat=(aH l c).toNat+1:=by omega
    rw [e,aO,if_pos hn,if_neg hx,zr hn (by omega)]
    simp
def m5 (s:Str):Nat:=min 4 s.length
def s5:Con:=.fn 66 (Str × UInt8) (fun a=>[.str a.1,.str [a.2],.int .i64 0,.int .i64 5]) (fun a=>a.1.length<=1073741824) (fun a=>.sl false 1 (aa (aA a.1 a.2.toNat 4))) (fun _=>[])
theorem Hv:Has Tryz.prog 149 s5:=by
 refine ah mixed aw (HasL.cons xF HasL.nil) [0,1,2,3,8,9,10,11] ((fun a n (_:Nat)=>(fun a _=>⟨List Str × Str,fun t=>⟨[(0,true,.str t.2),(1,true,.str [a.2]),(2,true,.int .i64 0),(3,true,.int .i64 (m5 a.1)),(8,true,.nil),(9,true,.own 9 1 (aa (cM (m5 a.1+1) t.1))),(10,true,.int .i64 t.1.length)],dN 9 (cM (m5 a.1+1) t.1)⟩,fun t=>t.1.length<=m5 a.1/\t.1.length+t.2.length<=a.1.length/\t.1++aO (a.2.toNat:Int) 4 t.2 [] t.1.length=aA a.1 a.2.toNat 4,fun t=>m5 a.1 - t.1.length⟩) a n)) [] Tryz.func149 (by unfold Tryz.f149; rfl) (fun _=>⟨(),trivial⟩) ?_
 intro a ha;obtain ⟨s,c⟩:=a;replace ha:s.length<=1073741824:=ha;have hm:m5 s<=4/\m5 s<=s.length:=by unfold m5; omega
 have hif:(if (s.length:Int)+1 < 5 then (s.length:Int)+1 else 5)=((m5 s+1:Nat):Int):=by unfold m5; omega
 have hif':(if (s.length:Int)+1 < 5 then (s.length:Int)+1 else 5)=(m5 s:Int)+1:=by rw [hif]; omega
 simp -implicitDefEqProofs [s5,pV,Con.fn,ag]
 try dsimp only
 have hr:(List.replicate ((m5 s:Int)+1).toNat [D.str []])=aa (cM (m5 s+1) []):=by rw [show ((m5 s:Int)+1).toNat=m5 s+1 by omega,nK,bK]
 have K0:m5 s=4 \/ m5 s=s.length:=by unfold m5; omega
 have K1:∀ (a:List Str),a.length<=m5 s->a.length < (cM (m5 s+1) a).length:=fun a h=>by rw [vM _ _ (by omega)]; omega
 have K2:∀ (a:List Str) (b:Str),a.length<=m5 s->a.length+b.length<=s.length->a++aO (c.toNat:Int) 4 b [] a.length=aA s c.toNat 4->(aH b c < 0 \/ m5 s<=a.length)->aA s c.toNat 4=((cM (m5 s+1) a).set a.length b).take (a.length+1):=by
  intro a b h1 h2 h3 h4;have h5:aO (c.toNat:Int) 4 b [] a.length=[b]:=by
   rcases h4 with h | h
   ·rw [vf h]; rfl
   ·rcases K0 with k | k
    ·rw [qe (by omega)]; rfl
    ·have:b=[]:=List.eq_nil_of_length_eq_zero (by omega)
     subst this; rfl
  rw [<- h3,h5,l7 _ _ _ (by omega)]
  unfold cM;rw [List.take_left' (by simp)]
 have K3:∀ (b:Str),aH b c < b.length:=fun b=>Ag b c;have K4:∀ (a:List Str) (b:Str),a.length < m5 s->a.length+b.length<=s.length->a++aO (c.toNat:Int) 4 b [] a.length=aA s c.toNat 4->0<=aH b c ->
   ∃ x,cM (m5 s+1) x=(cM (m5 s+1) a).set a.length (b.take (aH b c).toNat)/\x.length=a.length+1/\(cM (m5 s+1) a).set a.length (b.take (aH b c).toNat)=cM (m5 s+1) x /\
    x.length<=m5 s/\x.length+(b.length - (aH b c+1).toNat)<=s.length /\
    x++aO (c.toNat:Int) 4 ((b.drop (aH b c+1).toNat).take (b.length - (aH b c+1).toNat)) [] x.length=aA s c.toNat 4/\m5 s - x.length < m5 s - a.length:=by
  intro a b h1 h2 h3 h4;have e1:(aH b c+1).toNat=(aH b c).toNat+1:=by omega
  have e2:(b.drop (aH b c+1).toNat).take (b.length - (aH b c+1).toNat)=b.drop ((aH b c).toNat+1):=by rw [e1]; exact List.take_of_length_le (by simp)
  have h7:=K3 b;have h6:=zr (c:=c) (m:=4) (n:=a.length) (p:=[]) (by omega) h4
  rw [e2];refine ⟨a++[b.take (aH b c).toNat],(l7 _ _ _ (by omega)).symm,by simp,l7 _ _ _ (by omega),by simp; omega,by simp; omega,?_,by simp; omega⟩
  rw [<- h3,h6];simp
 simp +contextual [ar,aq,bR,bm,bS,List.getElem?_eq_getElem,bW,bp,bK,bU,<- br,<- bN,bn,bw,bV,bT,bu,bJ,and_assoc,hif',hr];have K1':∀ (a:List Str),a.length<=m5 s->(cM (m5 s+1) a).length=m5 s+1:=fun a h=>vM _ _ (by omega)
 repeat' (first | intro _ | apply And.intro)
 all_goals first
  | omega
  | exact K1 _ (by omega)
  | (rw [K1' _ (by omega)]; omega)
  | exact K2 _ _ (by omega) (by omega) (by assumption) (by omega)
  | exact K4 _ _ (by omega) (by omega) (by assumption) (by omega)
  | exact ⟨[],nK _,rfl,(nK _).symm,Nat.zero_le _,Nat.le_of_eq (Nat.zero_add _),rfl⟩
  | exact Int.le_trans (Int.le_of_lt (K3 _)) (by omega)
  | exact Int.le_of_lt (K3 _)
  | exact K3 _
end Vx
end Go.Proofs.YthgfdbfmnbgkaaaGreatDoor
namespace Go.Proofs.YthgfdbfmnbgkaaaGreatDoor
set_option maxHeartbeats 4000000
namespace Vx
open Go.RowKit Go.Shelf
set_option maxRecDepth 8000
def uI:Con:=.fn 11 (Str × UInt8) (fun a=>[.str a.1,.str [a.2],.int .i64 5]) (fun a=>a.1.length<=1073741824) (fun a=>.sl false 1 (aa (aA a.1 a.2.toNat 4))) (fun _=>[])
theorem O0:Has Tryz.prog 138 uI:=by
 refine ah mixed aw (HasL.cons Hv HasL.nil) [0,1,2,6] ((fun a n (_:Nat)=>(fun _=>az) a n)) [] Tryz.func138 (by unfold Tryz.f138; rfl) (fun _=>⟨(),trivial⟩) ?_
 intro a ha;obtain ⟨s,c⟩:=a;replace ha:s.length<=1073741824:=ha;simp -implicitDefEqProofs [uI,Con.fn,ag,s5]
 try dsimp only
 try simp +contextual [ar,aq,bR,bm,bS,List.getElem?_eq_getElem,bW,bp,bK,bU,<- br,<- bN,bn,bw,bV,bT,bu,bJ,and_assoc]
 repeat' (first | intro _ | apply And.intro)
 all_goals first | omega | grind [cn]
def cu (s:Str):Int:=match Lib.atoiAll s with
 | .ok v=>v
 | .range=>Lib.atoiSat s
 | _=>0
theorem EZ:∀ n:Nat,n < 100->cu (aW n)=n:=by
 intro n h;have h1:Lib.atoiAll (aW n) = .ok (n:Int):=by revert h; revert n; decide
 unfold cu;rw [h1]
set_option maxRecDepth 100000 in
theorem E1 (s:ByteArray) (hs:s.size<=1073741824) (w:World) (hl:jp w) :
  Calls Tryz.prog 140 #[.string s] w fun e w'=>∃ v,e = .returned (.tuple #[.int .i64 (cu s.data.toList),v])/\Below w.heap.size w w':=by
 obtain ⟨⟨tp1,p1,hv1⟩,⟨tp2,p2,hv2⟩,e3,fz3,hv3⟩:=hl;rcases hx:Lib.atoiAll s.data.toList with v | _ | _
 ·have e1:cu s.data.toList=v:=by unfold cu; rw [hx]
  rw [e1];refine (Any.strconv_Atoi_ok Tryz.laysAtoi s (by omega) v hx w).mono ?_
  rintro e w' ⟨rfl,hw⟩;refine ⟨_,rfl,?_⟩;rcases hw with rfl | ⟨t,rfl⟩
  ·exact Below.refl _ _
  ·exact Lib.bytesWorld_below _ _ _
 ·have e1:cu s.data.toList=0:=by unfold cu; rw [hx]
  rw [e1];refine (Any.strconv_Atoi_syntax_var Tryz.laysAtoi s (by omega) hx tp1 p1 w hv1).mono ?_
  rintro e W1 ⟨N,rfl,-,-,hb⟩;exact ⟨_,rfl,hb⟩
 ·have e1:cu s.data.toList=Lib.atoiSat s.data.toList:=by unfold cu; rw [hx]
  rw [e1];refine (Any.strconv_Atoi_range_var Tryz.laysAtoi s (by omega) hx tp2 p2 w hv2).mono ?_
  rintro e W1 ⟨N,rfl,-,-,hb⟩;exact ⟨_,rfl,hb⟩
def yR:Con:={ (Con.fn 18 Str (fun s=>[.str s]) (fun s=>s.length<=1073741824) (fun s=>.tup [.int .i64 (cu s),.junk]) (fun _=>[])) with need:=jp }
theorem E2:Has Tryz.prog 140 yR:=by
 refine ⟨fun args w=>Go.MuLone.run_callFunc_enter Tryz.func140 (by kernel_rfl) rfl args w,fun _=>⟨(),trivial⟩,fun _ _=>rfl,?_,trivial,.inl rfl⟩
 intro (s:Str) (hp:s.length<=1073741824) c hky vs β fp hcn hpins hl1 hl2 S;have hvs:vs=[.string ⟨s.toArray⟩]:=Dm (li hl1 S) rfl;subst hvs;refine (E1 ⟨s.toArray⟩ (by simpa [ByteArray.size] using hp) c.w0 (hky _ fun _ _=>rfl)).mono ?_
 rintro e w' ⟨v,rfl,hb⟩;have hpp:c.pins=[]:=hpins;refine ⟨(),trivial,_,rfl,β,fp,⟨Array.replicate c.n undef,[]⟩,⟨?_,?_,?_,?_,?_,S.fg,fun b hb'=>⟨(S.old b hb').1,hb.block b (S.old b hb').1⟩,hb.os,hb.tape,hb.output,hb.size,rfl,by simp,?_⟩,?_⟩
 ·intro t g av ht; cases ht
 ·intro h blk hm; cases hm
 ·intro h blk hm; cases hm
 ·intro h h' blk blk' hm; cases hm
 ·intro h blk hm; cases hm
 ·rw [hpp]; intro p hp; cases hp
 ·exact .tup (.int (.junk .lnil)) .lnil
end Vx
end Go.Proofs.YthgfdbfmnbgkaaaGreatDoor
namespace Go.Proofs.YthgfdbfmnbgkaaaGreatDoor
set_option maxHeartbeats 4000000
namespace Vx
open Go.RowKit
set_option maxRecDepth 8000
--TAB dA
def fY (r:RepoD) (n:Int):List FileD:=if n < 0 then [] else aj r n
def nr:Con:=.fn 13 (RepoD × Int) (fun a=>[aM a.1,.int .i64 a.2]) (fun a=>-1<=a.2/\a.2 < a.1.commits.length) (fun a=>.sl true 2 (ac (fY a.1 a.2))) (fun _=>[])
theorem DJ:Has Tryz.prog 47 nr:=by
 refine ah mixed fw HasL.nil [0,1,2,4] ((fun a n (_:Nat)=>(fun _=>az) a n)) [] Tryz.func47 (by unfold Tryz.f47; rfl) (fun _=>⟨(),trivial⟩) ?_
 intro a ha;obtain ⟨r,n⟩:=a;obtain ⟨h1,h2⟩:-1<=n/\n < r.commits.length:=ha;by_cases h0:n < 0
 ·have e:fY r n=[]:=by unfold fY; rw [if_pos h0]
  simp -implicitDefEqProofs [nr,Con.fn,dA,ag,e,h1,h2]
  try dsimp only
  exact fun h=>absurd h (by omega)
 ·have hi:n.toNat < r.commits.length:=by omega
  have e:Option.map bI r.commits[n.toNat]? = some (bI r.commits[n.toNat]):=by simp -implicitDefEqProofs [hi]
  have e2:fY r n=r.commits[n.toNat].tree:=by unfold fY aj; rw [if_neg h0]; simp -implicitDefEqProofs [List.getD_eq_getElem?_getD,hi]
  simp -implicitDefEqProofs [nr,Con.fn,dA,ag,e,e2,bI,hi,h1,h2]
  try dsimp only
  exact fun h=>absurd h h0
theorem Ey (r:RepoD) (a:Int) (h:∀ p ∈ (r.commits.getD a.toNat default).parents,0<=p):er r a=fY r (ie r a):=by
 unfold er ie;cases hp:(r.commits.getD a.toNat default).parents with
 | nil=>rfl
 | cons p l =>
  have:=h p (by rw [hp]; simp)
  show aj r p=fY r p
  unfold fY;rw [if_neg (by omega)]
theorem Ex {r:RepoD} (h:aF r=true) {a:Int} (h0:0<=a) (h1:a < r.commits.length):er r a=fY r (ie r a):=Ey r a fun p hp=>by
 have hc:a.toNat < r.commits.length:=by omega
 exact ((gI h hc).2.1 p (by simpa [List.getD_eq_getElem?_getD,hc] using hp)).1
--TAB aB
abbrev oR (x:RepoD × Int):AV:=.tup [.agg [.own 8 3 (aD x.1.commits),.own 9 2 (al x.1.heads)],.int .i64 x.2]
abbrev oRf (x:RepoD × Int):List (Nat × Blk):=iS 8 x.1.commits++gD 9 x.1.heads
def sL:Con:=.fn 49 (RepoD × Str × Str × List FileD × List FileD) (fun a=>[aM a.1,.str a.2.1,.str a.2.2.1,.sl true 2 (ac a.2.2.2.1),.sl true 2 (ac a.2.2.2.2)]) (fun a=>aF a.1=true/\0<=atL a.1.heads a.2.1/\aC a.2.2.2.1=true/\aC a.2.2.2.2=true) (fun a=>oR (dy a.1 a.2.1 a.2.2.1 a.2.2.2.1 a.2.2.2.2)) (fun a=>oRf (dy a.1 a.2.1 a.2.2.1 a.2.2.2.1 a.2.2.2.2))
theorem ER:Has Tryz.prog 197 sL:=by
 refine ah mixed aL (HasL.cons jG (HasL.cons lu (HasL.cons AA (HasL.cons jr (HasL.cons vd (HasL.cons oJ HasL.nil)))))) [0,1,2,3,4,5,10,11,12,13,14,15] ((fun a n (_:Nat)=>(fun _=>az) a n)) [16417,16425,16426] Tryz.func197 (by unfold Tryz.f197; rfl) (fun _=>⟨(),trivial⟩) ?_
 intro a ha;obtain ⟨r,n,w,o,b⟩:=a;obtain ⟨h1,h2,h3,h4⟩:aF r=true/\0<=atL r.heads n/\aC o=true/\aC b=true:=ha;simp (maxSteps:=8000000) [-kStep_move,-kStepC_move,-Bool.exists_bool,sL,gX,iH,pw,hJ,mW,nt,kG,gG,Con.fn,aB,ag,aN]
 try dsimp only
 try simp only [and_assoc,exists_eq_left,exists_and_left,RepoD.ex1,RepoD.eta]
 obtain ⟨hz,hp⟩:=eG h1;have hn:=fS h1;have hlt:=gU h1 h2;have ht:=jB h1 ⟨h2,hlt⟩;have hP:=M6 h1 h2 h3 h4 (n:=n) (w:=w);have ta:aj r (atL r.heads n)=(r.commits[(atL r.heads n).toNat]?.getD default).tree:=by unfold aj; rw [List.getD_eq_getElem?_getD]
 have jt:=@Az o (aj r (atL r.heads n)) b;rw [ta] at hP ht jt;rw [hP];generalize dK o (r.commits[(atL r.heads n).toNat]?.getD default).tree b=J at *;refine ⟨h2,hlt,lw h3,lw ht,lw h4,fun hj=>?_,fun hj=>⟨hz,[atL r.heads n],rfl,trivial,trivial,rfl,hz.2.2,hz.1,(rS jt).1,(rS jt).2,trivial,trivial,hz,zg h1 jt,?_⟩⟩
 ·rw [if_neg (by simp -implicitDefEqProofs [hj])]; exact ⟨hz,rfl,rfl,rfl,rfl,rfl⟩
 ·rw [if_pos hj];exact ⟨fun h=>by simp -implicitDefEqProofs [h],fun h=>by simp -implicitDefEqProofs [h]⟩
def uu:Con:=.fn 50 (RepoD × Str × Str × Int × Bool) (fun a=>[aM a.1,.str a.2.1,.str a.2.2.1,.int .i64 a.2.2.2.1,.bool a.2.2.2.2]) (fun a=>aF a.1=true) (fun a=>oR (ck a.2.2.2.2 a.1 a.2.1 a.2.2.1 a.2.2.2.1)) (fun a=>oRf (ck a.2.2.2.2 a.1 a.2.1 a.2.2.1 a.2.2.2.1))
theorem MN:Has Tryz.prog 148 uu:=by
 refine ah mixed aL (HasL.cons jG (HasL.cons mo (HasL.cons qi (HasL.cons jr (HasL.cons zN (HasL.cons DJ (HasL.cons ER HasL.nil))))))) [0,1,2,3,4,5,10,11,12,13] ((fun a n (_:Nat)=>(fun _=>az) a n)) [] Tryz.func148 (by unfold Tryz.f148; rfl) (fun _=>⟨(),trivial⟩) ?_
 intro a ha;obtain ⟨r,n,w,c,k⟩:=a;replace ha:aF r=true:=ha;simp (maxSteps:=8000000) [-kStep_move,-kStepC_move,-Bool.exists_bool,uu,gX,jJ,lL,hJ,pr,nr,sL,Con.fn,aB,ag,aN]
 try dsimp only
 try simp only [and_assoc,exists_eq_left,exists_and_left,RepoD.ex1,RepoD.eta]
 obtain ⟨hz,hp⟩:=eG ha;have hn:=fS ha;refine ⟨fun h h'=>⟨h,h',by omega⟩,?_,fun _=>⟨fun h=>?_,fun c1 c2 c3 c4=>?_⟩⟩
 ·rcases Int.lt_or_le (atL r.heads n) 0 with h | h
  ·exact .inl (.inl h)
  ·cases hw:aQ w with
   | false=>exact .inl (.inr rfl)
   | true=>exact .inr ⟨h,rfl⟩
 ·rw [L9 ha (by rcases h with (h | h) | h | h; exact .inl h; exact .inr (.inl h); exact .inr (.inr (by omega)); exact .inr (.inr (by omega)))]
  exact ⟨hz,rfl,rfl,rfl,rfl,rfl⟩
 ·have hc:c < r.commits.length:=by omega
  obtain ⟨f1,f2⟩:=Hi ha c3 hc;have e1:fY r c=aj r c:=by unfold fY; rw [if_neg (by omega)]
  have e2:=Ex ha c3 hc;have g:=Mo ha (back:=k) c1 c2 ⟨c3,hc⟩;have t1:=jB ha ⟨c3,hc⟩;have t2:=Ew ha ⟨c3,hc⟩;rw [e1,<- e2,g];refine ⟨c3,hc,f1,by omega,by omega,hc,fun hk=>?_,fun hk=>?_⟩
  ·rw [hk]; exact ⟨ha,c1,t1,t2,rfl,rfl,rfl,rfl,rfl⟩
  ·rw [hk]; exact ⟨ha,c1,t2,t1,rfl,rfl,rfl,rfl,rfl⟩
end Vx
end Go.Proofs.YthgfdbfmnbgkaaaGreatDoor
