/-
  Joined by program (merge.py): Mg, Mc, Me, Ml, Mh, Dh, Di, Kc, Mi, Mj, Mm, Mn, Td, Zk, Fa, Fb, Fc, Hg, Nb, Shs, Qb, Gt, Qc, Na, Se, Nc, Qa, Sr, Sb, Sa, Sc, Sd, Da, Dc, Dg, Id, Nd, Ga, Gb, Gc, Nh. It shows what the single texts show; conditions: none but those of each lemma.
-/
import Derived.Test.YthgfdbfmnbgkaaaGreatDoorWa
import Derived.Lib.Walk
import Derived.Lib.SliceRun
import Derived.Lib.JoinLaws
import Derived.Lib.AppendZeros
import Derived.Lib.AppendZerosOnto
import Derived.Lib.Overlaps
import Derived.Laws.Externs
import Derived.Laws.IdiomCopy
import Derived.Laws.NewBlocks
import Derived.Shelf.RegionOpenPlain
import Derived.Shelf.Sort.Plain
import Derived.Shelf.Slices.In.SortNone
import Derived.Shelf.Slices.CompactS
import Derived.Test.YthgfdbfmnbgkaaaGreatDoorProg
set_option linter.unusedVariables false
set_option linter.unusedSimpArgs false
set_option linter.unusedSectionVars false
namespace Go.Proofs.YthgfdbfmnbgkaaaGreatDoor
set_option maxHeartbeats 4000000
namespace Vx
open Go.RowKit
set_option maxRecDepth 8000
def lL:Con:=.fn 48 (List Str × Str) (fun a=>[.sl true 1 (aa a.1),.str a.2]) (fun a=>a.1.length<=1073741824) (fun a=>.sl false 1 (aa (aS a.1 a.2))) (fun _=>[])
theorem tR:Has Tryz.prog 101 lL:=by
 refine ah mixed ap HasL.nil [0,1,4,5,6] ((fun a n (_:Nat)=>(fun a _=>⟨Nat,fun k=>⟨[(0,true,.sl true 1 (aa a.1)),(1,true,.str a.2),(4,true,.nil),(5,true,.int .i64 k)],[]⟩,fun k=>k<=a.1.length/\a.1.take k++aS (a.1.drop k) a.2=aS a.1 a.2,fun k=>a.1.length - k⟩) a n)) [] Tryz.func101 (by unfold Tryz.f101; rfl) (fun _=>⟨(),trivial⟩) ?_
 intro a ha;obtain ⟨l,s⟩:=a;replace ha:l.length<=1073741824:=ha;simp -implicitDefEqProofs [lL,Con.fn,ag]
 try dsimp only
 have f:∀ (t:List Str),∀ x ∈ aa t,∀ d ∈ x,match d with | .sl _ _ _=>False | _=>True:=fun t=>(eStrs_flat t).mpr trivial
 have f1:∀ t,∀ x ∈ List.take t (aa l),∀ d ∈ x,match d with | .sl _ _ _=>False | _=>True:=fun t=>by rw [bj]; exact f _
 have f2:∀ t,∀ x ∈ List.take (l.length - t) (List.drop t (aa l)),∀ d ∈ x,match d with | .sl _ _ _=>False | _=>True:=fun t=>by rw [bp,bj]; exact f _
 have fin:∀ t,aS l s=l.take t++[s]++l.drop t->aa (aS l s)=List.take t (aa l)++[D.str s] :: List.take (l.length - t) (List.drop t (aa l)):=fun t h=>by
  rw [h,bp,bj,bj,List.take_of_length_le (show (l.drop t).length<=l.length - t by simp)]
  simp -implicitDefEqProofs [aa,ak]
 refine fun t ht hp _=>⟨fun hlt=>⟨hlt,fun _=>?_⟩,fun hge _=>⟨fun hlt=>absurd hlt (by omega),fun _=>⟨ht,fun _=>⟨f1 t,⟨by omega,by omega⟩,⟨by omega,by omega⟩,ht,fun _=>⟨f2 t,⟨by omega,by omega⟩,fin t (IX hge hp)⟩⟩⟩⟩⟩
 have qq:Option.map ak l[t]? = some (ak l[t]):=by simp -implicitDefEqProofs [hlt]
 rw [qq];have g1:=I0 hlt hp;have g2:=IY hlt hp;have g3:=IZ hlt hp;generalize l[t]=y at *;simp -implicitDefEqProofs [ak,D.asStr];refine ⟨fun h=>⟨⟨by omega,by omega⟩,fun _ _=>⟨t+1,by omega,⟨by omega,g1 h⟩,by omega⟩⟩,fun h _=>⟨fun _=>⟨hlt,fun _=>⟨fun e=>g2 h e,fun e=>⟨ht,fun _=>⟨f1 t,⟨by omega,by omega⟩,⟨by omega,by omega⟩,ht,fun _=>⟨f2 t,⟨by omega,by omega⟩,fin t (g3 h e)⟩⟩⟩⟩⟩,fun hge=>absurd hlt (by omega)⟩⟩
def tV (o a b:List FileD):Inv:=⟨Nat,fun i=>⟨[(0,true,.sl true 2 (ac o)),(1,true,.sl true 2 (ac a)),(2,true,.sl true 2 (ac b)),(6,true,.nil),(7,true,.sl false 1 (aa (bG [] (o.take i)))),(8,true,.int .i64 i)],[]⟩,fun i=>i<=o.length,fun i=>o.length - i⟩
def tW (o a b:List FileD):Inv:=⟨Nat,fun i=>⟨[(0,true,.sl true 2 (ac o)),(1,true,.sl true 2 (ac a)),(2,true,.sl true 2 (ac b)),(6,true,.nil),(7,true,.sl false 1 (aa (bG (bG [] o) (a.take i)))),(9,true,.int .i64 i)],[]⟩,fun i=>i<=a.length,fun i=>a.length - i⟩
def tX (o a b:List FileD):Inv:=⟨Nat,fun i=>⟨[(0,true,.sl true 2 (ac o)),(1,true,.sl true 2 (ac a)),(2,true,.sl true 2 (ac b)),(6,true,.nil),(7,true,.sl false 1 (aa (bG (bG (bG [] o) a) (b.take i)))),(10,true,.int .i64 i)],[]⟩,fun i=>i<=b.length,fun i=>b.length - i⟩
def oL (o a b:List FileD) (n:Nat):Inv:=if n=3 then tV o a b else if n=7 then tW o a b else tX o a b
theorem Gn (o a b:List FileD):oL o a b 3=tV o a b:=rfl
theorem Gp (o a b:List FileD):oL o a b 7=tW o a b:=rfl
theorem Gm (o a b:List FileD):oL o a b 11=tX o a b:=rfl
def ri:Con:=.fn 52 (List FileD × List FileD × List FileD) (fun a=>[.sl true 2 (ac a.1),.sl true 2 (ac a.2.1),.sl true 2 (ac a.2.2)]) (fun a=>a.1.length<=1048576/\a.2.1.length<=1048576/\a.2.2.length<=1048576) (fun a=>.sl false 1 (aa (aP a.1 a.2.1 a.2.2))) (fun _=>[])
theorem Gk:Has Tryz.prog 229 ri:=by
 refine ah mixed ap (HasL.cons tR HasL.nil) [0,1,2,6,7,8,9,10] ((fun a n (_:Nat)=>(fun a n=>oL a.1 a.2.1 a.2.2 n) a n)) [] Tryz.func229 (by unfold Tryz.f229; rfl) (fun _=>⟨(),trivial⟩) ?_
 intro a ha;obtain ⟨o,a,b⟩:=a;obtain ⟨h1,h2,h3⟩:o.length<=1048576/\a.length<=1048576/\b.length<=1048576:=ha;simp -implicitDefEqProofs [ri,lL,Con.fn,ag,Gn,Gp,Gm,tV,tW,tX]
 try dsimp only
 have b1:=jp o [];have b2:=jp a (bG [] o);simp only [List.length_nil] at b1;have z:([]:List Str).length=0:=rfl;refine ⟨⟨0,⟨rfl,rfl⟩,Nat.zero_le _⟩,fun t ht _=>⟨fun hlt=>⟨hlt,fun _=>?_⟩,fun hge=>⟨⟨0,⟨by rw [List.take_of_length_le hge]; rfl,rfl⟩,Nat.zero_le _⟩,fun u hu _=>⟨fun hlt=>⟨hlt,fun _=>?_⟩,fun hge=>⟨⟨0,⟨by rw [List.take_of_length_le hge]; rfl,rfl⟩,Nat.zero_le _⟩,fun v hv _=>⟨fun hlt=>⟨hlt,fun _=>?_⟩,fun hge=>by rw [List.take_of_length_le hge]; rfl⟩⟩⟩⟩⟩⟩
 ·have hb:=jp (o.take t) ([]);have hl:(o.take t).length<=o.length:=by simp; omega
  have qq:Option.map an o[t]? = some (an o[t]):=by simp -implicitDefEqProofs [hlt]
  have hs:=uK (l:=[]) hlt;rw [qq];simp -implicitDefEqProofs [an,D.asStr];exact ⟨_,_,⟨rfl,rfl⟩,by omega,⟨by omega,by omega⟩,fun _ _=>⟨t+1,⟨hs,by omega⟩,by omega,by omega⟩⟩
 ·have hb:=jp (a.take u) (bG [] o);have hl:(a.take u).length<=a.length:=by simp; omega
  have qq:Option.map an a[u]? = some (an a[u]):=by simp -implicitDefEqProofs [hlt]
  have hs:=uK (l:=bG [] o) hlt;rw [qq];simp -implicitDefEqProofs [an,D.asStr];exact ⟨_,_,⟨rfl,rfl⟩,by omega,⟨by omega,by omega⟩,fun _ _=>⟨u+1,⟨hs,by omega⟩,by omega,by omega⟩⟩
 ·have hb:=jp (b.take v) (bG (bG [] o) a);have hl:(b.take v).length<=b.length:=by simp; omega
  have qq:Option.map an b[v]? = some (an b[v]):=by simp -implicitDefEqProofs [hlt]
  have hs:=uK (l:=bG (bG [] o) a) hlt;rw [qq];simp -implicitDefEqProofs [an,D.asStr];exact ⟨_,_,⟨rfl,rfl⟩,by omega,⟨by omega,by omega⟩,fun _ _=>⟨v+1,⟨hs,by omega⟩,by omega,by omega⟩⟩
abbrev HM (h:Nat) (a:List HeadD):List (Nat × Blk):=[(h,.own 181 2 true (ai a))]
def x6 (o a b:List FileD):Inv:=⟨Nat,fun i=>⟨[(0,true,.sl true 2 (ac o)),(1,true,.sl true 2 (ac a)),(2,true,.sl true 2 (ac b)),(6,true,.nil),(7,true,.nil),(8,true,.own 9 2 (ac (c8 o a b ((aP o a b).take i)).1)),(9,true,.own 10 2 (ai (c8 o a b ((aP o a b).take i)).2)),(10,true,.sl false 1 (aa (aP o a b))),(11,true,.int .i64 i)],[(9,.own 119 2 true (ac (c8 o a b ((aP o a b).take i)).1)),(10,.own 181 2 true (ai (c8 o a b ((aP o a b).take i)).2))]⟩,fun i=>i<=(aP o a b).length,fun i=>(aP o a b).length - i⟩
def szT (t:List FileD):Prop:=t.length<=100000 /\ ∀ f ∈ t,f.text.length<=64
def rg:Con:=.fn 64 (List FileD × List FileD × List FileD) (fun a=>[.sl true 2 (ac a.1),.sl true 2 (ac a.2.1),.sl true 2 (ac a.2.2)]) (fun a=>szT a.1/\szT a.2.1/\szT a.2.2) (fun a=>.tup [.own 8 2 (ac (of6 a.1 a.2.1 a.2.2).1),.own 9 2 (ai (of6 a.1 a.2.1 a.2.2).2)]) (fun a=>jh 8 (of6 a.1 a.2.1 a.2.2).1++HM 9 (of6 a.1 a.2.1 a.2.2).2)
theorem Gi:Has Tryz.prog 179 rg:=by
 refine ah mixed ap (HasL.cons Gk (HasL.cons Gj HasL.nil)) [0,1,2,6,7,8,9,10,11,12,13,14] ((fun a n (_:Nat)=>(fun a _=>x6 a.1 a.2.1 a.2.2) a n)) [60] Tryz.func179 (by unfold Tryz.f179; rfl) (fun _=>⟨(),trivial⟩) ?_
 intro a ha;obtain ⟨o,a,b⟩:=a;obtain ⟨⟨h1,h1'⟩,⟨h2,h2'⟩,h3,h3'⟩:szT o/\szT a/\szT b:=ha;simp -implicitDefEqProofs [rg,ri,rh,Con.fn,ag,x6]
 try dsimp only
 have hp:=zv o a b;refine ⟨o,a,b,⟨rfl,rfl,rfl⟩,⟨by omega,by omega,by omega⟩,⟨0,⟨⟨rfl,rfl,rfl,rfl⟩,rfl,rfl⟩,Nat.zero_le _⟩,fun t ht _=>⟨fun hlt=>⟨hlt,fun _=>?_⟩,fun hge=>?_⟩⟩
 ·have qq:Option.map ak (aP o a b)[t]? = some (ak (aP o a b)[t]):=by simp -implicitDefEqProofs [hlt]
  have hs:=zS (o:=o) (a:=a) (b:=b) hlt;have hb:=zR o a b ((aP o a b).take t);have hl:((aP o a b).take t).length<=(aP o a b).length:=by simp; omega
  have ho:=yQ (p:=(aP o a b)[t]) (show 10<=64 by omega) h1' h2' h3'
  rw [qq];generalize c8 o a b ((aP o a b).take t)=R at *;generalize (aP o a b)[t]=y at *;obtain ⟨X,Y⟩:=R;simp only at hb;simp -implicitDefEqProofs [ak,D.asStr];refine ⟨o,a,b,y,⟨rfl,rfl,rfl,rfl⟩,⟨h1',h2',h3'⟩,?_⟩;generalize hone:bF o a b y=O at *;obtain ⟨x1,x2,x3⟩:=O;have f:∀ (t:List Str),∀ x ∈ aa t,∀ d ∈ x,match d with | .sl _ _ _=>False | _=>True:=fun t=>(eStrs_flat t).mpr trivial
  have st:c8 o a b ((aP o a b).take (t+1))=(if x2=true then X++[⟨y,x1⟩] else X,if 0 < x3 then Y++[⟨y,x3⟩] else Y):=by rw [hs]; unfold stepJ; rw [hone]
  have snF:ac X++[[D.str y,D.sl 9 1 (aa x1)]]=ac (X++[⟨y,x1⟩]):=bH _ _ _;have snH:ai Y++[[D.str y,D.int .i64 x3]]=ai (Y++[⟨y,x3⟩]):=wY _ _ _;dsimp only at ho ⊢
  rw [snF,snH];refine ⟨fun h3=>⟨hlt,fun _=>⟨⟨by omega,by omega⟩,fun h2=>⟨hlt,fun _=>⟨f x1,⟨by omega,by omega⟩,⟨by omega,by omega⟩,⟨by omega,by omega⟩,fun _ _=>⟨t+1,?_⟩⟩⟩,fun h2=>⟨⟨by omega,by omega⟩,fun _ _=>⟨t+1,?_⟩⟩⟩⟩,fun h3=>⟨fun h2=>⟨hlt,fun _=>⟨f x1,⟨by omega,by omega⟩,⟨by omega,by omega⟩,⟨by omega,by omega⟩,fun _ _=>⟨t+1,?_⟩⟩⟩,fun h2=>⟨⟨by omega,by omega⟩,fun _ _=>⟨t+1,?_⟩⟩⟩⟩
  ·rw [st,if_pos h2,if_pos h3]; exact ⟨⟨⟨rfl,rfl,by omega⟩,rfl,rfl⟩,by omega,by omega⟩
  ·rw [st,if_neg (by simp -implicitDefEqProofs [h2]),if_pos h3]; exact ⟨⟨⟨rfl,rfl,by omega⟩,rfl,rfl⟩,by omega,by omega⟩
  ·rw [st,if_pos h2,if_neg (by omega)]; exact ⟨⟨⟨rfl,rfl,by omega⟩,rfl,rfl⟩,by omega,by omega⟩
  ·rw [st,if_neg (by simp -implicitDefEqProofs [h2]),if_neg (by omega)]; exact ⟨⟨⟨rfl,rfl,by omega⟩,rfl,rfl⟩,by omega,by omega⟩
 ·have e:(aP o a b).take t=aP o a b:=List.take_of_length_le hge;rw [e]; exact ⟨⟨rfl,rfl⟩,rfl,rfl⟩
def nF:Con:=.fn 31 (List FileD × List FileD × List FileD) (fun a=>[.sl true 2 (ac a.1),.sl true 2 (ac a.2.1),.sl true 2 (ac a.2.2)]) (fun a=>szT a.1/\szT a.2.1/\szT a.2.2) (fun a=>.tup [.sl false 2 (ac (bE a.1 a.2.1 a.2.2).1),.sl false 2 (ai (bE a.1 a.2.1 a.2.2).2)]) (fun _=>[])
theorem x5:Has Tryz.prog 113 nF:=by
 refine ah mixed ap (HasL.cons Gi (HasL.cons md (HasL.cons kU HasL.nil))) [0,1,2,6,7,8,9] ((fun a n (_:Nat)=>(fun _=>aw) a n)) [] Tryz.func113 (by unfold Tryz.f113; rfl) (fun _=>⟨(),trivial⟩) ?_
 intro a ha;obtain ⟨o,a,b⟩:=a;obtain ⟨h1,h2,h3⟩:szT o/\szT a/\szT b:=ha;simp -implicitDefEqProofs [nF,rg,jN,iS,Con.fn,ag]
 try dsimp only
 have e1:(of6 o a b).2=[]->aH (of6 o a b).1=false->bE o a b=(o,[⟨[],4⟩]):=fun h h'=>by unfold bE; rw [if_pos ⟨h,h'⟩]
 have e2:(of6 o a b).2=[]->aH (of6 o a b).1=true->bE o a b=of6 o a b:=fun h h'=>by unfold bE; rw [if_neg (by simp -implicitDefEqProofs [h'])]
 have e3:¬ (of6 o a b).2=[]->bE o a b=of6 o a b:=fun h=>by unfold bE; rw [if_neg (by simp -implicitDefEqProofs [h])]
 refine ⟨o,a,b,⟨rfl,rfl,rfl⟩,⟨h1,h2,h3⟩,fun _=>⟨fun h=>⟨fun h'=>⟨⟨by have:=h1.1; omega,fun f hf=>by have:=h1.2 f hf; omega⟩,?_⟩,fun h'=>?_⟩,fun h=>?_⟩⟩
 ·rw [e1 h h']; exact ⟨rfl,rfl⟩
 ·rw [e2 h h']; exact ⟨rfl,rfl⟩
 ·rw [e3 h]; exact ⟨rfl,rfl⟩
structure OpD where
 kind:Int
 branch:Str
 who:Str
 path:Str
 to_:Str
 at_:Int
 text:List Str
 deriving DecidableEq,Inhabited
def eOp (a:OpD):List D:=[.int .i64 a.kind,.str a.branch,.str a.who,.str a.path,.str a.to_,.int .i64 a.at_,.sl 9 1 (aa a.text)]
@[simp] theorem eOp_inj (a b:OpD):(eOp a=eOp b)=(a=b):=by cases a; cases b; simp -implicitDefEqProofs [eOp]
@[simp] theorem OpD.eta (a:OpD):(⟨a.kind,a.branch,a.who,a.path,a.to_,a.at_,a.text⟩:OpD)=a:=rfl
theorem OpD.eq_iff (a b:OpD):(a=b)=(a.kind=b.kind/\a.branch=b.branch/\a.who=b.who/\a.path=b.path/\a.to_=b.to_/\a.at_=b.at_/\a.text=b.text):=by cases a; cases b; simp
@[simp] theorem OpD.ex1 (x_kind:Int) (x_branch:Str) (x_who:Str) (x_path:Str) (x_to_:Str) (x_at_:Int) (x_text:List Str) (Q:OpD->Prop):(∃ a:OpD,a.kind=x_kind/\a.branch=x_branch/\a.who=x_who/\a.path=x_path/\a.to_=x_to_/\a.at_=x_at_/\a.text=x_text/\Q a)=Q ⟨x_kind,x_branch,x_who,x_path,x_to_,x_at_,x_text⟩:=by
 apply propext;constructor
 ·rintro ⟨⟨_,_,_,_,_,_,_⟩,rfl,rfl,rfl,rfl,rfl,rfl,rfl,h⟩; exact h
 ·intro h; exact ⟨⟨x_kind,x_branch,x_who,x_path,x_to_,x_at_,x_text⟩,rfl,rfl,rfl,rfl,rfl,rfl,rfl,h⟩
@[simp] theorem OpD.ex2 (x_kind:Int) (x_branch:Str) (x_who:Str) (x_path:Str) (x_to_:Str) (x_at_:Int) (x_text:List Str) (Q:OpD->Prop):(∃ a:OpD,(a.kind=x_kind/\a.branch=x_branch/\a.who=x_who/\a.path=x_path/\a.to_=x_to_/\a.at_=x_at_/\a.text=x_text)/\Q a)=Q ⟨x_kind,x_branch,x_who,x_path,x_to_,x_at_,x_text⟩:=by
 apply propext;constructor
 ·rintro ⟨⟨_,_,_,_,_,_,_⟩,⟨rfl,rfl,rfl,rfl,rfl,rfl,rfl⟩,h⟩; exact h
 ·intro h; exact ⟨⟨x_kind,x_branch,x_who,x_path,x_to_,x_at_,x_text⟩,⟨rfl,rfl,rfl,rfl,rfl,rfl,rfl⟩,h⟩
@[simp] theorem OpD.ex0 (x_kind:Int) (x_branch:Str) (x_who:Str) (x_path:Str) (x_to_:Str) (x_at_:Int) (x_text:List Str):(∃ a:OpD,a.kind=x_kind/\a.branch=x_branch/\a.who=x_who/\a.path=x_path/\a.to_=x_to_/\a.at_=x_at_/\a.text=x_text)=True:=by
 simp only [eq_iff_iff,iff_true];exact ⟨⟨x_kind,x_branch,x_who,x_path,x_to_,x_at_,x_text⟩,rfl,rfl,rfl,rfl,rfl,rfl,rfl⟩
def cW (l:List OpD):List (List D):=l.map eOp
@[simp] theorem eOps_length (l:List OpD):(cW l).length=l.length:=by simp -implicitDefEqProofs [cW]
@[simp] theorem eOps_nil:cW []=[]:=rfl
@[simp] theorem eOps_get (l:List OpD) (i:Nat):(cW l)[i]? = l[i]?.map eOp:=by simp -implicitDefEqProofs [cW]
@[simp] theorem eOps_getElem (l:List OpD) (i:Nat) (h:i < (cW l).length):(cW l)[i]=eOp (l[i]'(by simpa using h)):=by simp -implicitDefEqProofs [cW]
@[simp] theorem eOps_inj (a b:List OpD):(cW a=cW b)=(a=b):=by
 apply propext;constructor
 ·intro h;exact List.map_inj_right (fun x y h=>by simpa using h) |>.1 h
 ·rintro rfl; rfl
@[simp] theorem eOps_eq_nil (a:List OpD):(cW a=[])=(a=[]):=by simp -implicitDefEqProofs [cW]
@[simp] theorem nil_eq_eOps (a:List OpD):([]=cW a)=(a=[]):=by simp -implicitDefEqProofs [cW,eq_comm]
theorem w4 (a:List OpD) (k:Int) (b w p t:Str) (i:Int) (x:List Str):cW a++[[.int .i64 k,.str b,.str w,.str p,.str t,.int .i64 i,.sl 9 1 (aa x)]]=cW (a++[⟨k,b,w,p,t,i,x⟩]):=by simp -implicitDefEqProofs [cW,eOp]
abbrev vOp (o:OpD):AV:=.agg [.int .i64 o.kind,.str o.branch,.str o.who,.str o.path,.str o.to_,.int .i64 o.at_,.sl true 1 (aa o.text)]
def bOp (o:OpD):Blk:=.box 70 [.int .i64 o.kind,.str o.branch,.str o.who,.str o.path,.str o.to_,.int .i64 o.at_,.sl true 1 (aa o.text)]
def j5 (o:OpD) (p t a x:Bool):Bool:=(p || decide (o.path=[])) && (t || decide (o.to_=[])) && (a || decide (o.at_=0)) && (x || decide (o.text=[]))
def eJ (s:Str):Bool:=s.all fun b=>decide (b ≠ 124)
def kX (t:List Str):Bool:=t.all eJ && aD t
def opB (o:OpD):Bool:=(aM o.branch && aM o.who) &&
 (if o.kind=1 then j5 o true false false true && bI o.path && kX o.text
 else if o.kind=2 then j5 o true false false false && bI o.path
 else if o.kind=3 then j5 o true true false false && bI o.path && bI o.to_
 else if o.kind=4 \/ o.kind=5 then j5 o false true false false && aM o.to_
 else if o.kind=6 \/ o.kind=7 then j5 o false false true false && (decide (0<=o.at_) && decide (o.at_<=15))
 else false)
def eG (r:RepoD) (o:OpD) (x:List FileD × Bool):RepoD × Int:=if x.2 then (if (eB r o.branch o.who x.1).2 then ((eB r o.branch o.who x.1).1,0) else (r,5)) else (r,1)
def eI (r:RepoD) (n:Str):List FileD:=if 0<=atL r.heads n then aG r (atL r.heads n) else []
def cR (r:RepoD) (o:OpD):RepoD × Int :=
 if o.kind=1 then eG r o (jz (eI r o.branch) ⟨o.path,o.text⟩)
 else if o.kind=2 then eG r o (jy (eI r o.branch) o.path)
 else if o.kind=3 then eG r o (eH (eI r o.branch) o.path o.to_)
 else if o.kind=4 then (if (dR r o.to_ (atL r.heads o.branch)).2 then ((dR r o.to_ (atL r.heads o.branch)).1,0) else (r,1))
 else if o.kind=5 then bC r o.branch o.who (atL r.heads o.to_)
 else if o.kind=6 then cI false r o.branch o.who o.at_
 else cI true r o.branch o.who o.at_
def hD (l:List OpD):RepoD:=l.foldl (fun r o=>if opB o then (cR r o).1 else r) noR
theorem II {l:List OpD} {i:Nat} (h:i < l.length):hD (l.take (i+1))=if opB l[i] then (cR (hD (l.take i)) l[i]).1 else hD (l.take i):=by
 unfold hD;rw [bM h,List.foldl_append]; rfl
def mC (l:List OpD):RepoD:=hD (l.take 30)
def plR (r:RepoD):Prop:=ar r=true/\(r.commits ≠ []->r.heads ≠ [])
theorem mB:plR noR:=⟨rfl,fun h=>absurd rfl h⟩
theorem Jf {r:RepoD} {n w:Str} {t:List FileD} (h:(eB r n w t).2=true):plR (eB r n w t).1:=by
 unfold eB at h ⊢;split
 ·rename_i h1;rw [if_pos h1] at h;split
  ·rename_i h2; exact ⟨h2,fun _=>l9 _ _ _⟩
  ·rename_i h2; rw [if_neg h2] at h; cases h
 ·rename_i h1; rw [if_neg h1] at h; cases h
theorem Jd {r:RepoD} {n:Str} {a:Int} (h:(dR r n a).2=true):plR (dR r n a).1:=by
 unfold dR at h ⊢;split
 ·rename_i h1;rw [if_pos h1] at h;split
  ·rename_i h2; rw [if_pos h2] at h; cases h
  ·rename_i h2;have:ar ⟨r.commits,cS r.heads n a⟩=true:=by
    cases q:ar ⟨r.commits,cS r.heads n a⟩ with
    | true=>rfl
    | false=>exact absurd (.inr q) h2
   exact ⟨this,fun _=>l9 _ _ _⟩
 ·rename_i h1; rw [if_neg h1] at h; cases h
theorem vn {r:RepoD} {o:OpD} {x:List FileD × Bool} (h:plR r):plR (eG r o x).1:=by
 unfold eG;split
 ·split
  ·rename_i q; exact Jf q
  ·exact h
 ·exact h
theorem Dm {r:RepoD} {o:OpD} (h:plR r):plR (cR r o).1:=by
 unfold cR
 repeat' split
 ·exact vn h
 ·exact vn h
 ·exact vn h
 ·rename_i q; exact Jd q
 ·exact h
 ·exact Lr h.1 h.2
 ·exact zx h.1 h.2
 ·exact zx h.1 h.2
theorem uH (l:List OpD):plR (hD l):=by
 have:∀ (l:List OpD) (r:RepoD),plR r->plR (l.foldl (fun r o=>if opB o then (cR r o).1 else r) r):=by
  intro l
  induction l with
  | nil=>intro r h; exact h
  | cons o l ih =>
   intro r h;refine ih _ ?_
   show plR (if opB o=true then _ else _)
   split
   ·exact Dm h
   ·exact h
 exact this l noR mB
def qK:Con:=.fn 42 (OpD × Bool × Bool × Bool × Bool) (fun a=>[vOp a.1,.bool a.2.1,.bool a.2.2.1,.bool a.2.2.2.1,.bool a.2.2.2.2]) (fun a=>a.1.text.length<=1048576) (fun a=>.bool (j5 a.1 a.2.1 a.2.2.1 a.2.2.2.1 a.2.2.2.2)) (fun _=>[])
theorem FH:Has Tryz.prog 160 qK:=by
 refine ah mixed ap HasL.nil [0,1,2,3,4,5,10] ((fun a n (_:Nat)=>(fun _=>aw) a n)) [] Tryz.func160 (by unfold Tryz.f160; rfl) (fun _=>⟨(),trivial⟩) ?_
 intro a ha;obtain ⟨o,p,t,a,x⟩:=a;replace ha:o.text.length<=1048576:=ha;simp (maxSteps:=8000000) -implicitDefEqProofs [-kStep_move,-Bool.exists_bool,qK,Con.fn,ag];unfold j5;by_cases h1:o.path=[] <;> by_cases h2:o.to_=[] <;> by_cases h3:o.at_=0 <;> by_cases h4:o.text=[] <;> simp -implicitDefEqProofs [h1,h2,h3,h4] <;> cases p <;> cases t <;> cases a <;> cases x <;> simp -implicitDefEqProofs <;> omega
def tH (t:List Str):Inv:=⟨Nat,fun i=>⟨[(0,true,.sl true 1 (aa t)),(2,true,.bool false),(3,true,.int .i64 i)],[]⟩,fun i=>i<=t.length/\(t.take i).all eJ=true,fun i=>t.length - i⟩
def tF (t:List Str) (g:Nat):Inv:=⟨Nat,fun k=>⟨[(0,true,.sl true 1 (aa t)),(2,true,.bool false),(3,true,.int .i64 g),(4,true,.int .i64 k)],[]⟩,fun k=>g < t.length/\(t.take g).all eJ=true/\k<=(t.getD g []).length/\((t.getD g []).take k).all (fun b=>decide (b ≠ 124))=true,fun k=>(t.getD g []).length - k⟩
def tG (t:List Str) (n g:Nat):Inv:=if n=2 then tH t else tF t g
theorem FJ (t g):tG t 2 g=tH t:=rfl
theorem FK (t g):tG t 5 g=tF t g:=rfl
def qM:Con:=.fn 29 (List Str) (fun t=>[.sl true 1 (aa t)]) (fun _=>True) (fun t=>.bool (kX t)) (fun _=>[])
theorem FL:Has Tryz.prog 161 qM:=by
 refine ah mixed ap (HasL.cons mc HasL.nil) [0,2,3,4] (fun t=>tG t) [] Tryz.func161 (by unfold Tryz.f161; rfl) (fun _=>⟨(),trivial⟩) ?_
 intro (t:List Str) _;simp -implicitDefEqProofs [qM,jM,Con.fn,ag,FJ,FK,tH,tF]
 try dsimp only
 have e0:∀ i (h:i < t.length),¬ eJ t[i]=true->kX t=false:=fun i h hb=>by
  unfold kX;rw [Bool.and_eq_false_iff]; left
  rw [List.all_eq_false];exact ⟨_,List.getElem_mem h,hb⟩
 refine fun i hi hp _=>⟨fun hlt=>⟨i,⟨0,⟨rfl,rfl⟩,hlt,hp,Nat.zero_le _,by simp⟩,fun k _ _ hk hq=>?_⟩,fun hge=>?_⟩
 ·have e1:=e0 i hlt;have e2:t[i]?.getD []=t[i]:=by simp -implicitDefEqProofs [hlt]
  have qq:Option.map ak t[i]? = some (ak t[i]):=by simp -implicitDefEqProofs [hlt]
  have e3:(t.take (i+1)).all eJ=((t.take i).all eJ && eJ t[i]):=cm hlt;rw [e2] at hk hq ⊢;rw [qq];generalize t[i]=s at *;simp -implicitDefEqProofs [ak,D.asStr];have hex:∀ h:k < List.length s,s[k]?.getD 0=s[k]:=fun h=>by simp -implicitDefEqProofs [h]
  refine ⟨hlt,fun _ _=>⟨fun hl=>⟨hlt,fun _=>⟨hl,fun _=>?_⟩⟩,fun hg=>⟨⟨by omega,by omega⟩,fun _ _=>⟨i+1,by omega,⟨by omega,?_⟩,by omega⟩⟩⟩⟩
  ·rw [hex hl];have hb:=List.getElem_mem hl;refine ⟨fun hc=>e1 (fun hb2=>?_),fun hc=>⟨⟨by omega,by omega⟩,fun _ _=>⟨k+1,by omega,⟨hlt,‹∀ x ∈ List.take i t,eJ x=true›,by omega,fun x hx=>?_⟩,by omega⟩⟩⟩
   ·unfold eJ at hb2;have:=List.all_eq_true.1 hb2 _ hb;simp only [ne_eq,decide_not,Bool.not_eq_true',decide_eq_false_iff_not] at this;exact this (UInt8.toNat_inj.1 (by simp; omega))
   ·rw [bM hl] at hx;rcases List.mem_append.1 hx with hx | hx
    ·exact hq x hx
    ·simp only [List.mem_singleton] at hx;subst hx;intro e; rw [e] at hc; exact hc rfl
  ·have hs:eJ s=true:=by
    unfold eJ;rw [List.all_eq_true];intro x hx;have:=hq x (by rw [List.take_of_length_le hg]; exact hx)
    simp -implicitDefEqProofs [this]
   rw [hs,Bool.and_true] at e3;have hp':(List.take i t).all eJ=true:=List.all_eq_true.2 ‹∀ x ∈ List.take i t,eJ x=true›;rw [hp'] at e3;exact List.all_eq_true.1 e3
 ·have e:t.take i=t:=List.take_of_length_le hge;rw [e] at hp;unfold kX;rw [List.all_eq_true.2 hp,Bool.true_and]
def qN:Con:=.fn 72 OpD (fun o=>[vOp o]) (fun o=>o.text.length<=1048576) (fun o=>.bool (opB o)) (fun _=>[])
theorem FM:Has Tryz.prog 80 qN:=by
 refine ah mixed ap (HasL.cons i9 (HasL.cons FH (HasL.cons me (HasL.cons FL (HasL.cons i7 HasL.nil))))) [0,1,2,14,52,62] ((fun a n (_:Nat)=>(fun _=>aw) a n)) [] Tryz.func80 (by unfold Tryz.f80; rfl) (fun _=>⟨(),trivial⟩) ?_
 intro (o:OpD) (ha:o.text.length<=1048576);simp (maxSteps:=8000000) -implicitDefEqProofs [-kStep_move,-Bool.exists_bool,qN,gN,qK,jO,qM,gM,Con.fn,ag,bOp]
 try dsimp only
 simp -implicitDefEqProofs only [and_assoc,exists_eq_left,exists_and_left,OpD.ex1,OpD.eta];have hk:o.kind=1 \/ o.kind=2 \/ o.kind=3 \/ o.kind=4 \/ o.kind=5 \/ o.kind=6 \/ o.kind=7 \/ (¬ o.kind=1 /\ ¬ o.kind=2 /\ ¬ o.kind=3 /\ ¬ o.kind=4 /\ ¬ o.kind=5 /\ ¬ o.kind=6 /\ ¬ o.kind=7):=by omega
 unfold opB;generalize aM o.branch=b1;generalize aM o.who=b2;generalize bI o.path=b3;generalize bI o.to_=b4;generalize aM o.to_=b5;generalize kX o.text=b6;rcases hk with h | h | h | h | h | h | h | h <;> simp -implicitDefEqProofs [h,ha]
 all_goals grind
--TAB bO
def rn:Con:=.fn 66 (RepoD × Int) (fun a=>[bh a.1,.int .i64 a.2]) (fun a=>aQ a.1=true/\0<=a.2/\a.2 < a.1.commits.length) (fun a=>.sl false 1 (aj (al (anc a.1 a.2)))) (fun _=>[])
theorem Gr:Has Tryz.prog 111 rn:=by
 refine ah mixed c9 HasL.nil [0,1,2,4,5,6,7,8,9] (fun a=>lF a.1 a.2) [] Tryz.func111 (by unfold Tryz.f111; rfl) (fun _=>⟨(),trivial⟩) ?_
 intro a ha;obtain ⟨r,n⟩:=a;obtain ⟨h1,h2,h3⟩:aQ r=true/\0<=n/\n < r.commits.length:=ha;have h4:=iK h1;simp -implicitDefEqProofs [rn,Con.fn,bO,ag,vP,vQ,vO,alO,alI,alT,bu]
 try dsimp only
 simp only [and_assoc,exists_eq_left,exists_and_left,RepoD.ex1,RepoD.eta];have hal:=dH r n;refine fun _=>⟨by omega,fun _=>⟨h2,h3,fun _ _=>⟨by omega,⟨(List.replicate r.commits.length false).set n.toNat true,by rw [iW]; exact (eg _ _ _).symm,by rw [iW]; exact eg _ _ _,by simp,by omega,h3,rfl⟩,fun l b g1 g2 g3 g4=>⟨fun hb=>⟨b.toNat,?_⟩,fun hb=>?_⟩⟩⟩⟩
 ·have hb1:b.toNat < l.length:=by omega
  have hb2:b.toNat < r.commits.length:=by omega
  obtain ⟨p1,p2,_⟩:=jr h1 hb2;have hgd:r.commits.getD b.toNat default=r.commits[b.toNat]:=by simp -implicitDefEqProofs [List.getD_eq_getElem?_getD,hb2]
  have hgo:r.commits[b.toNat]?.getD default=r.commits[b.toNat]:=by simp -implicitDefEqProofs [hb2]
  rw [show (b+1).toNat=b.toNat+1 by omega] at g4
  have g5:fx r b.toNat (iN r l b.toNat)=anc r n:=g4;unfold iN at g5;rw [hgd] at g5;have e3:Option.map ba r.commits[b.toNat]? = some (ba r.commits[b.toNat]):=by simp -implicitDefEqProofs [hb2]
  rw [hgo,e3];generalize r.commits[b.toNat]=c at *;refine ⟨by omega,trivial,g1,hb2,Nat.zero_le _,fun h=>?_,fun h=>?_,fun m k m1 m2 m3 m4 m5=>⟨hb2,fun _=>?_⟩⟩
  ·rw [if_pos h] at g5; exact g5
  ·rw [if_neg (by rw [h]; simp)] at g5; exact g5
  ·have hbm:b.toNat < m.length:=by omega
   have hT:isT m b.toNat=m[b.toNat]:=by simp -implicitDefEqProofs [isT,List.getD_eq_getElem?_getD,hbm]
   have e4:Option.map cn m[b.toNat]? = some (cn m[b.toNat]):=by simp -implicitDefEqProofs [hbm]
   have hmx:max b 0=b:=Int.max_eq_left hb;simp -implicitDefEqProofs [ba,D.asRows,e4,cn,hbm,hb2,hmx];refine fun _=>⟨fun hl2=>⟨fun hm=>⟨hl2,fun _=>?_⟩,fun hm=>⟨by omega,by omega,fun _ _=>⟨m1,by omega,by omega,m5 (hT.trans hm),by omega⟩⟩⟩,fun hge=>⟨by omega,by omega,fun _ _=>⟨m1,by omega,by omega,?_,by omega⟩⟩⟩
   ·have hp:=p2 c.parents[k] (List.getElem_mem hl2);have qt:Option.map aq c.parents[k]? = some (aq c.parents[k]):=by simp -implicitDefEqProofs [List.getElem?_eq_getElem hl2]
    simp -implicitDefEqProofs [qt,aq,D.asInt];have hst:isT (m.set c.parents[k].toNat true) b.toNat=true:=by rw [xO _ (by omega)]; exact hT.trans hm
    refine ⟨hp.1,by omega,fun _ _=>⟨by omega,by omega,by omega,fun _ _=>⟨m.set c.parents[k].toNat true,(eg _ _ _).symm,k+1,by omega,eg _ _ _,by simp -implicitDefEqProofs [m1],by omega,fun _=>?_,fun h=>?_,by omega⟩⟩⟩
    ·have:=m4 (hT.trans hm);rw [List.drop_eq_getElem_cons hl2] at this;exact this
    ·rw [hst] at h; cases h
   ·cases hm:m[b.toNat] with
    | true =>
     have:=m4 (hT.trans hm);rw [List.drop_eq_nil_of_le hge] at this;exact this
    | false=>exact m5 (hT.trans hm)
 ·rw [show (b+1).toNat=0 by omega] at g4
  have g5:l=anc r n:=g4;refine ⟨g5.symm,⟨0,rfl,rfl,g5,rfl,Nat.zero_le _⟩,fun i hi _=>⟨fun hlt=>?_,fun hge=>?_⟩⟩
  ·have hl:=mf (anc r n) i;have hi:isT (anc r n) i=(anc r n)[i]:=by simp -implicitDefEqProofs [isT,List.getD_eq_getElem?_getD,hlt]
   rw [hal] at hlt;simp -implicitDefEqProofs [hal,hlt,cn,D.asBool,and_assoc];refine ⟨fun h=>?_,fun h=>?_⟩
   ·have e:=ug (hi.trans h);exact ⟨by omega,by omega,by omega,by omega,fun _ _=>⟨i+1,by rw [e]; simp -implicitDefEqProofs [aj,aq],by omega,by rw [e]; simp -implicitDefEqProofs [aj,aq],by omega,by omega⟩⟩
   ·have e:=uh (hi.trans h);exact ⟨by omega,by omega,fun _ _=>⟨i+1,e,by omega,e.symm,by omega,by omega⟩⟩
  ·rw [hal] at hge;have:i=r.commits.length:=by omega
   subst this;unfold al;rw [hal]
def ua (r:RepoD) (a b:Int):Inv:=⟨Nat,fun i=>⟨[(3,true,.ptr 10 0),(6,true,.nil),(7,true,.sl false 1 (aj (al (anc r a)))),(8,true,.sl false 1 (aj (al (anc r b)))),(9,true,.own 9 1 (aj (b9 r a b i))),(10,true,.int .i64 i)],[(10,cP r),(9,.own 3 1 true (aj (b9 r a b i)))]⟩,fun i=>i<=(al (anc r a)).length,fun i=>(al (anc r a)).length - i⟩
def ub (r:RepoD) (L:List Int):Inv:=⟨Nat,fun i=>⟨[(3,true,.ptr 10 0),(6,true,.nil),(9,true,.own 9 1 (aj L)),(11,true,.own 11 1 (aj (dJ r L i))),(12,true,.int .i64 i)],[(10,cP r),(9,.own 3 1 true (aj L)),(11,.own 3 1 true (aj (dJ r L i)))]⟩,fun i=>i<=L.length,fun i=>L.length - i⟩
def uc (r:RepoD) (L:List Int) (g:Nat):Inv:=⟨Nat,fun k=>⟨[(3,true,.ptr 10 0),(6,true,.nil),(9,true,.own 9 1 (aj L)),(11,true,.own 11 1 (aj (dJ r L g))),(12,true,.int .i64 g),(13,true,.bool (jK r L g k)),(14,true,.int .i64 k)],[(10,cP r),(9,.own 3 1 true (aj L)),(11,.own 3 1 true (aj (dJ r L g)))]⟩,fun k=>k<=L.length/\g < L.length,fun k=>L.length - k⟩
def oN (r:RepoD) (a b:Int) (n g:Nat):Inv:=if n=5 then ua r a b else if n=11 then ub r (b9 r a b (al (anc r a)).length) else uc r (b9 r a b (al (anc r a)).length) g
theorem Gx (r a b g):oN r a b 5 g=ua r a b:=rfl
theorem Gv (r a b g):oN r a b 11 g=ub r (b9 r a b (al (anc r a)).length):=rfl
theorem Gw (r a b g):oN r a b 15 g=uc r (b9 r a b (al (anc r a)).length) g:=rfl
def ro:Con:=.fn 83 (RepoD × Int × Int) (fun a=>[bh a.1,.int .i64 a.2.1,.int .i64 a.2.2]) (fun a=>aQ a.1=true/\(0<=a.2.1/\a.2.1 < a.1.commits.length)/\0<=a.2.2/\a.2.2 < a.1.commits.length) (fun a=>.own 8 1 (aj (eK a.1 a.2.1 a.2.2))) (fun a=>j7 8 (eK a.1 a.2.1 a.2.2))
theorem Gu:Has Tryz.prog 137 ro:=by
 refine ah mixed c9 (HasL.cons Gr (HasL.cons x9 HasL.nil)) [0,1,2,3,6,7,8,9,10,11,12,13,14] (fun a=>oN a.1 a.2.1 a.2.2) [] Tryz.func137 (by unfold Tryz.f137; rfl) (fun _=>⟨(),trivial⟩) ?_
 intro a ha;obtain ⟨r,a,b⟩:=a;obtain ⟨h1,⟨h2,h3⟩,h4,h5⟩:aQ r=true/\(0<=a/\a < r.commits.length)/\0<=b/\b < r.commits.length:=ha;simp (maxSteps:=8000000) -implicitDefEqProofs [-kStep_move,-kStepC_move,-Bool.exists_bool,ro,rn,nG,Con.fn,bO,ag,Gx,Gv,Gw,ua,ub,uc,bu]
 try dsimp only
 have hal:=dH r;have h6:=iK h1;have hmem:∀ c,∀ x ∈ al (anc r c),0<=x/\x < r.commits.length:=fun c x hx=>by
  obtain ⟨i,q1,_,rfl⟩:=listT_mem.1 hx;rw [hal] at q1;omega
 have h16:∀ c,(al (anc r c)).length<=16:=fun c=>by
  have:=mf (anc r c) (anc r c).length;rw [hal] at this;unfold al; rw [hal]; omega
 refine ⟨r,a,⟨⟨rfl,rfl⟩,rfl⟩,⟨h1,h2,h3⟩,r,b,⟨⟨rfl,rfl⟩,rfl⟩,⟨h1,h4,h5⟩,?_⟩;have hLm:=hmem a;have hL16:=h16 a;have stepB:∀ t (h:t < (al (anc r a)).length),b9 r a b (t+1)=if (al (anc r a))[t] ∈ al (anc r b) then b9 r a b t++[(al (anc r a))[t]] else b9 r a b t:=fun t h=>by
  unfold b9;rw [bM h,List.filter_append];split
  ·rename_i hq; rw [List.filter_cons_of_pos (by simpa using hq)]; simp
  ·rename_i hq; rw [List.filter_cons_of_neg (by simpa using hq)]; simp
 have bothL:∀ t,(b9 r a b t).length<=(al (anc r a)).length:=fun t=>by
  unfold b9;exact Nat.le_trans (List.length_filter_le _ _) (by simp; omega)
 have hBm:∀ x ∈ b9 r a b (al (anc r a)).length,0<=x/\x < r.commits.length:=fun x hx=>by
  unfold b9 at hx;exact hLm x (List.mem_of_mem_take (List.mem_filter.1 hx).1)
 have hout:eK r a b=dJ r (b9 r a b (al (anc r a)).length) (b9 r a b (al (anc r a)).length).length:=rfl;have hb0:b9 r a b 0=[]:=by unfold b9; simp
 generalize al (anc r a)=L at *;generalize hM:al (anc r b)=M at *;have hB16:=bothL L.length;generalize hB:b9 r a b L.length=B at *;have baseS:∀ u (h:u < B.length),dJ r B (u+1)=if jK r B u B.length then dJ r B u++[B[u]] else dJ r B u:=fun u h=>by
  unfold dJ;rw [List.range_succ,List.filter_append,List.map_append];split
  ·rename_i hq; simp -implicitDefEqProofs [hq,List.getD_eq_getElem?_getD,h]
  ·rename_i hq; simp -implicitDefEqProofs [hq]
 have baseL:∀ u,(dJ r B u).length<=u:=fun u=>by
  unfold dJ;rw [List.length_map];exact Nat.le_trans (List.length_filter_le _ _) (by simp)
 refine ⟨⟨0,⟨⟨rfl,rfl,hb0,rfl⟩,hb0⟩,Nat.zero_le _⟩,fun t ht _=>⟨fun hlt=>⟨hlt,fun _=>?_⟩,fun hge=>?_⟩⟩
 ·have qq:Option.map aq L[t]? = some (aq L[t]):=by simp -implicitDefEqProofs [hlt]
  have sB:=stepB t hlt;have bL:=bothL t;have sn:aj (b9 r a b t)++[[D.int .i64 L[t]]]=aj (b9 r a b t++[L[t]]):=w3 _ _;rw [qq];generalize L[t]=y at *;simp -implicitDefEqProofs [aq,D.asInt];rw [sn];refine ⟨M,y,⟨rfl,rfl⟩,fun h=>⟨hlt,fun _=>⟨⟨by omega,by omega⟩,⟨by omega,by omega⟩,fun _ _=>⟨t+1,by rw [sB,if_pos h]; exact ⟨⟨⟨rfl,by omega⟩,rfl⟩,by omega,by omega⟩⟩⟩⟩,fun h=>⟨⟨by omega,by omega⟩,fun _ _=>⟨t+1,by rw [sB,if_neg h]; exact ⟨⟨⟨rfl,by omega⟩,rfl⟩,by omega,by omega⟩⟩⟩⟩
 ·have ht':t=L.length:=by omega
  subst ht';rw [hB];refine ⟨⟨0,⟨⟨rfl,rfl,rfl⟩,rfl,rfl⟩,Nat.zero_le _⟩,fun u hu _=>⟨fun hlu=>⟨u,⟨0,⟨⟨rfl,rfl,rfl,rfl⟩,rfl⟩,Nat.zero_le _,hlu⟩,fun k hk _ _=>?_⟩,fun hgu=>?_⟩⟩
  ·have q2:Option.map aq B[u]? = some (aq B[u]):=by simp -implicitDefEqProofs [hlu]
   have sS:=baseS u hlu;have bL:=baseL u;have gu:B.getD u 0=B[u]:=by simp -implicitDefEqProofs [List.getD_eq_getElem?_getD,hlu]
   have sn:aj (dJ r B u)++[[D.int .i64 B[u]]]=aj (dJ r B u++[B[u]]):=w3 _ _;refine ⟨fun hkl=>?_,fun hge=>?_⟩
   ·have q1:Option.map aq B[k]? = some (aq B[k]):=by simp -implicitDefEqProofs [hkl]
    have gk:B.getD k 0=B[k]:=by simp -implicitDefEqProofs [List.getD_eq_getElem?_getD,hkl]
    have sb:jK r B u (k+1)=(jK r B u k && (decide ((k:Int)=(u:Int)) || !decide (B[u] ∈ al (anc r B[k])))):=by
     have e:decide ((k:Int)=(u:Int))=decide (k=u):=by rw [Bool.eq_iff_iff,decide_eq_true_eq,decide_eq_true_eq]; omega
     rw [e];unfold jK;rw [List.range_succ,List.all_append,gu];simp -implicitDefEqProofs [List.getD_eq_getElem?_getD,hkl]
    have hm:=hBm B[k] (List.getElem_mem hkl);rw [q1,q2];generalize B[u]=y at *;generalize B[k]=x at *;simp -implicitDefEqProofs [aq,D.asInt,hkl,hlu];refine ⟨fun a b=>⟨a,b⟩,fun _=>⟨fun a b=>⟨a,b⟩,fun _=>⟨r,x,⟨⟨rfl,rfl⟩,rfl⟩,fun a b=>⟨⟨a,b⟩,h1,hm.1,hm.2⟩,fun a b=>⟨a,b⟩,fun _=>⟨fun a b=>⟨a,b⟩,fun _=>⟨_,y,⟨rfl,rfl⟩,fun a=>⟨a,?_⟩,fun _=>⟨⟨by omega,by omega⟩,fun _ _=>⟨k+1,⟨sb,by omega⟩,by omega,by omega⟩⟩⟩⟩⟩⟩⟩
    by_cases e:(k:Int)=u
    ·exact .inl e
    ·exact .inr ⟨a,e⟩
   ·have:k=B.length:=by omega
    subst this;rw [q2];generalize B[u]=y at *;simp -implicitDefEqProofs [aq,D.asInt,hlu];rw [sn];exact ⟨fun h=>⟨⟨by omega,by omega⟩,⟨by omega,by omega⟩,fun _ _=>⟨u+1,by rw [sS,if_pos h]; exact ⟨⟨⟨rfl,by omega⟩,rfl⟩,by omega,by omega⟩⟩⟩,fun h=>⟨⟨by omega,by omega⟩,fun _ _=>⟨u+1,by rw [sS,if_neg (by simp -implicitDefEqProofs [h])]; exact ⟨⟨⟨rfl,by omega⟩,rfl⟩,by omega,by omega⟩⟩⟩⟩
  ·have:u=B.length:=by omega
   subst this;rw [<- hout];exact ⟨rfl,rfl⟩
--TAB bO
theorem Jo {r:RepoD} (h:ar r=true) (i:Nat):aH (r.commits.getD i default).tree=true:=by
 rcases Nat.lt_or_ge i r.commits.length with hi | hi
 ·have:=((c6 r).1 h).1 i hi;unfold dv eX at this;simp only [Bool.and_eq_true] at this;exact this.2.2
 ·have:r.commits.getD i default=default:=by simp -implicitDefEqProofs [List.getD_eq_getElem?_getD,hi]
  rw [this]; rfl
theorem fe {r:RepoD} (h:ar r=true) (c:Int):aH (aG r c)=true:=Jo h _
theorem pf {r:RepoD} (h:ar r=true):cE r:=by
 obtain ⟨h1,h2,h3⟩:=(c6 r).1 h;refine ⟨by omega,fun c hc=>?_,by have:=((gq _ _).1 h2).1; omega⟩
 obtain ⟨i,hi,rfl⟩:=List.getElem_of_mem hc;have h4:=h1 i hi;have e:r.commits.getD i default=r.commits[i]:=by simp -implicitDefEqProofs [List.getD_eq_getElem?_getD,hi]
 unfold dv eX at h4;rw [e] at h4;simp only [Bool.and_eq_true,decide_eq_true_eq] at h4;obtain ⟨t1,t2⟩:=ly _ h4.2.2;exact ⟨by omega,by omega,fun g hg=>by have:=t2 g hg; omega⟩
theorem gO {r:RepoD} {c:Int} (h0:0<=c) (h1:c < r.commits.length):Option.map ba r.commits[c.toNat]? = some [D.sl 3 1 (aj (r.commits.getD c.toNat default).parents),D.str (r.commits.getD c.toNat default).who,D.sl 119 2 (ac (aG r c))]:=by
 have h:c.toNat < r.commits.length:=by omega
 have e:r.commits.getD c.toNat default=r.commits[c.toNat]:=by simp -implicitDefEqProofs [List.getD_eq_getElem?_getD,h]
 unfold aG;rw [e]; simp -implicitDefEqProofs [h,ba]
theorem BL {r:RepoD} {a b:Int} {i:Nat}:∀ x ∈ b9 r a b i,0<=x/\x < r.commits.length:=fun x hx=>by
 unfold b9 at hx;obtain ⟨j,q1,_,rfl⟩:=listT_mem.1 (List.mem_of_mem_take (List.mem_filter.1 hx).1);rw [dH] at q1;omega
theorem BF {r:RepoD} {a b:Int}:∀ x ∈ eK r a b,0<=x/\x < r.commits.length:=fun x hx=>by
 unfold eK dJ at hx;obtain ⟨j,hj,rfl⟩:=List.mem_map.1 hx;have hj:=List.mem_range.1 (List.mem_filter.1 hj).1;rw [List.getD_eq_getElem?_getD,List.getElem?_eq_getElem hj,Option.getD_some];exact BL _ (List.getElem_mem hj)
theorem BE {r:RepoD} (h:aQ r=true) {a b:Int}:(eK r a b).length<=16:=by
 have h6:=iK h;have h1:=mf (anc r a) (anc r a).length;unfold eK dJ;rw [List.length_map];refine Nat.le_trans (List.length_filter_le _ _) ?_;rw [List.length_range];unfold b9;refine Nat.le_trans (List.length_filter_le _ _) ?_;rw [dH] at h1;simp only [List.length_take,al,dH]; omega
theorem kw {r:RepoD} (h:ar r=true) (a b:Int):aH (cz r a b)=true:=by
 unfold cz;split
 ·rfl
 ·exact fe h _
theorem vN {r:RepoD} (h:ar r=true) (c:Int):aH (iq r c)=true:=by
 unfold iq;split
 ·rfl
 ·exact fe h _
theorem il {t:List FileD} (h:aH t=true):szT t:=by
 obtain ⟨h1,h2⟩:=ly t h;exact ⟨by omega,h2⟩
def nH:Con:=.fn 26 (RepoD × Int × Int) (fun a=>[bh a.1,.int .i64 a.2.1,.int .i64 a.2.2]) (fun a=>ar a.1=true/\(0<=a.2.1/\a.2.1 < a.1.commits.length)/\0<=a.2.2/\a.2.2 < a.1.commits.length) (fun a=>.sl true 2 (ac (cz a.1 a.2.1 a.2.2))) (fun _=>[])
theorem ya:Has Tryz.prog 114 nH:=by
 refine ah mixed c9 (HasL.cons Gu HasL.nil) [0,1,2,3,6,7] ((fun a n (_:Nat)=>(fun _=>aw) a n)) [] Tryz.func114 (by unfold Tryz.f114; rfl) (fun _=>⟨(),trivial⟩) ?_
 intro a ha;obtain ⟨r,a,b⟩:=a;obtain ⟨h1,⟨h2,h3⟩,h4,h5⟩:ar r=true/\(0<=a/\a < r.commits.length)/\0<=b/\b < r.commits.length:=ha;simp -implicitDefEqProofs [nH,ro,Con.fn,bO,ag,bu]
 try dsimp only
 simp -implicitDefEqProofs only [and_assoc,exists_eq_left,exists_and_left,RepoD.ex1,RepoD.eta];have hI:aQ r=true:=by rw [dS]; exact h1
 have hl:=BE hI (a:=a) (b:=b);have hmm:=BF (r:=r) (a:=a) (b:=b);have hb:cz r a b=match (eK r a b).getLast? with | none=>[] | some c=>aG r c:=rfl
 refine ⟨hI,h2,h3,h4,h5,fun _=>⟨fun h=>by rw [hb,h]; rfl,fun h=>?_⟩⟩
 rcases List.eq_nil_or_concat (eK r a b) with e | ⟨m,q,e⟩
 ·exact absurd e h
 ·rw [e] at hl hmm hb ⊢;have hq:=hmm q (by simp)
  have cg:=gO hq.1 hq.2;have hb:cz r a b=aG r q:=by rw [hb]; simp
  rw [hb];simp -implicitDefEqProofs [aq,D.asInt,cg,D.asRows];simp at hl;omega
def nI:Con:=.fn 70 (RepoD × Str × Str × Int) (fun a=>[bh a.1,.str a.2.1,.str a.2.2.1,.int .i64 a.2.2.2]) (fun a=>ar a.1=true/\0<=atL a.1.heads a.2.1/\0<=a.2.2.2/\a.2.2.2 < a.1.commits.length) (fun a=>.tup [.agg [.sl false 3 (az (dm a.1 a.2.1 a.2.2.1 a.2.2.2).1.commits),.sl false 2 (ai (dm a.1 a.2.1 a.2.2.1 a.2.2.2).1.heads)],.int .i64 (dm a.1 a.2.1 a.2.2.1 a.2.2.2).2]) (fun _=>[])
theorem yb:Has Tryz.prog 59 nI:=by
 refine ah mixed c9 (HasL.cons gr (HasL.cons Gs (HasL.cons x9 (HasL.cons tZ (HasL.cons ya (HasL.cons x5 (HasL.cons tY (HasL.cons iB HasL.nil)))))))) [0,1,2,3,4,8,9,10,11,12,13] ((fun a n (_:Nat)=>(fun _=>aw) a n)) [] Tryz.func59 (by unfold Tryz.f59; rfl) (fun _=>⟨(),trivial⟩) ?_
 intro a ha;obtain ⟨r,n,w,b⟩:=a;obtain ⟨h1,h2,h3,h4⟩:ar r=true/\0<=atL r.heads n/\0<=b/\b < r.commits.length:=ha;simp -implicitDefEqProofs [nI,eM,rl,nG,lN,nH,nF,lM,gh,Con.fn,bO,ag,bu]
 try dsimp only
 simp -implicitDefEqProofs only [and_assoc,exists_eq_left,exists_and_left,RepoD.ex1,RepoD.eta];have hI:aQ r=true:=by rw [dS]; exact h1
 obtain ⟨k1,k2,k3⟩:=pf h1;have hat:=f8 (n:=n) ((c6 r).1 h1).2.1;have ga:=gO (r:=r) (c:=atL r.heads n) h2 (by omega)
 have gb:=gO (r:=r) h3 h4;rw [ga,gb];simp -implicitDefEqProofs [D.asRows];have hlen:∀ c,(da r n c).commits.length<=1073741824:=fun c=>by simp -implicitDefEqProofs [da]; omega
 refine ⟨hI,h2,by omega,fun h=>?_,fun h=>⟨hI,h3,h4,fun h'=>⟨by omega,?_⟩,fun h'=>⟨h1,h2,by omega,h3,h4,h2,by omega,fun _ _=>⟨h3,h4,fun _ _=>⟨il (kw h1 _ _),il (fe h1 _),il (fe h1 _),fun _=>⟨fun hj=>?_,fun hj=>⟨⟨[atL r.heads n,b],w,(bE (cz r (atL r.heads n) b) (aG r (atL r.heads n)) (aG r b)).1⟩,rfl,rfl,rfl,k1,k3,hlen _,fun hs=>?_,fun hs=>?_⟩⟩⟩⟩⟩⟩⟩
 ·unfold dm; rw [if_pos h]; exact ⟨rfl,rfl,rfl⟩
 ·unfold dm; rw [if_neg h,if_pos h']; exact ⟨rfl,rfl,rfl⟩
 ·unfold dm; rw [if_neg h,if_neg h',if_neg (by intro e; rw [e] at hj; simp at hj)]; exact ⟨rfl,rfl,rfl⟩
 ·unfold dm; rw [if_neg h,if_neg h',if_pos hj,if_neg (by simp -implicitDefEqProofs [hs])]; exact ⟨rfl,rfl,rfl⟩
 ·unfold dm; rw [if_neg h,if_neg h',if_pos hj,if_pos hs]; exact ⟨rfl,rfl,rfl⟩
def sm:Con:=.fn 42 (RepoD × Str × Str × Int) (fun a=>[bh a.1,.str a.2.1,.str a.2.2.1,.int .i64 a.2.2.2]) (fun a=>cE a.1) (fun a=>.tup [.agg [.sl false 3 (az (bC a.1 a.2.1 a.2.2.1 a.2.2.2).1.commits),.sl false 2 (ai (bC a.1 a.2.1 a.2.2.1 a.2.2.2).1.heads)],.int .i64 (bC a.1 a.2.1 a.2.2.1 a.2.2.2).2]) (fun _=>[])
theorem Lq:Has Tryz.prog 127 sm:=by
 refine ah mixed c9 (HasL.cons iB (HasL.cons gr (HasL.cons i9 (HasL.cons i7 (HasL.cons j2 (HasL.cons yb HasL.nil)))))) [0,1,2,3,4,8,9] ((fun a n (_:Nat)=>(fun _=>aw) a n)) [] Tryz.func127 (by unfold Tryz.f127; rfl) (fun _=>⟨(),trivial⟩) ?_
 intro a ha;obtain ⟨r,n,w,b⟩:=a;replace ha:cE r:=ha;simp -implicitDefEqProofs [sm,gh,eM,gN,gM,iv,nI,Con.fn,bO,ag,bu]
 try dsimp only
 simp -implicitDefEqProofs only [and_assoc,exists_eq_left,exists_and_left,RepoD.ex1,RepoD.eta];have e0:ar r=false->bC r n w b=(noR,1):=fun h=>by unfold bC; rw [if_neg (by simp -implicitDefEqProofs [h])]
 have e1:ar r=true->(atL r.heads n < 0 \/ aM w=false \/ ¬ (0<=b/\b < r.commits.length))->bC r n w b=(r,1):=fun h h'=>by unfold bC; rw [if_pos h,if_pos h']
 have e2:ar r=true -> ¬ (atL r.heads n < 0 \/ aM w=false \/ ¬ (0<=b/\b < r.commits.length))->bC r n w b=dm r n w b:=fun h h'=>by unfold bC; rw [if_pos h,if_neg h']
 have hr1:r.commits.length<=1048576:=ha.1;refine ⟨by omega,fun h=>by rw [e0 h]; exact ⟨rfl,rfl,rfl⟩,fun h=>⟨fun hn=>⟨ha,by rw [e1 h (.inl hn)]; exact ⟨rfl,rfl,rfl⟩⟩,fun hn=>⟨fun hw=>⟨ha,by rw [e1 h (.inr (.inl hw))]; exact ⟨rfl,rfl,rfl⟩⟩,fun hw _=>⟨by omega,by omega,fun _ _=>⟨fun hb=>⟨ha,by rw [e1 h (.inr (.inr (by omega)))]; exact ⟨rfl,rfl,rfl⟩⟩,fun hb hb'=>⟨ha,h,hn,hb,by omega,?_⟩⟩⟩⟩⟩⟩
 rw [e2 h (by rintro (q | q | q); omega; rw [hw] at q; cases q; omega)]; exact ⟨rfl,rfl,rfl⟩
def nw:Con:=.fn 26 (RepoD × Int) (fun a=>[bh a.1,.int .i64 a.2]) (fun a=>ar a.1=true/\0<=a.2/\a.2 < a.1.commits.length) (fun a=>.sl true 2 (ac (iq a.1 a.2))) (fun _=>[])
theorem xV:Has Tryz.prog 185 nw:=by
 refine ah mixed c9 HasL.nil [0,1,2,4] ((fun a n (_:Nat)=>(fun _=>aw) a n)) [] Tryz.func185 (by unfold Tryz.f185; rfl) (fun _=>⟨(),trivial⟩) ?_
 intro a ha;obtain ⟨r,c⟩:=a;obtain ⟨h1,h2,h3⟩:ar r=true/\0<=c/\c < r.commits.length:=ha;simp -implicitDefEqProofs [nw,Con.fn,bO,ag,bu]
 try dsimp only
 simp -implicitDefEqProofs only [and_assoc,exists_eq_left,exists_and_left,RepoD.ex1,RepoD.eta];have cg:=gO (r:=r) h2 h3;have hp:iq r c=match (r.commits.getD c.toNat default).parents with | []=>[] | p :: _=>aG r p:=rfl
 have hmem:∀ p ∈ (r.commits.getD c.toNat default).parents,0<=p/\p < r.commits.length:=fun p hp=>by
  have hc:c.toNat < r.commits.length:=by omega
  have:=(jr (r:=r) (by rw [dS]; exact h1) hc).2.1 p (by simpa [List.getD_eq_getElem?_getD,hc] using hp)
  omega
 have hl:(r.commits.getD c.toNat default).parents.length<=1000:=by
  have hc:c.toNat < r.commits.length:=by omega
  have:=(jr (r:=r) (by rw [dS]; exact h1) hc).1
  simpa [List.getD_eq_getElem?_getD,hc] using by omega
 rw [cg];generalize (r.commits.getD c.toNat default).parents=P at *;cases P with
 | nil=>simp -implicitDefEqProofs [D.asRows,hp]; omega
 | cons p P =>
  have hq:=hmem p (by simp)
  have cp:=gO hq.1 hq.2;have hp:iq r c=aG r p:=hp;simp -implicitDefEqProofs [D.asRows,hp,aj,aq,D.asInt,cp];exact ⟨h2,h3,fun _ _ _=>⟨h2,h3,fun _ _=>hq⟩⟩
def ny:Con:=.fn 48 (RepoD × Str × Str × List FileD × List FileD) (fun a=>[bh a.1,.str a.2.1,.str a.2.2.1,.sl true 2 (ac a.2.2.2.1),.sl true 2 (ac a.2.2.2.2)]) (fun a=>ar a.1=true/\0<=atL a.1.heads a.2.1/\aH a.2.2.2.1=true/\aH a.2.2.2.2=true) (fun a=>.tup [.agg [.sl false 3 (az (eA a.1 a.2.1 a.2.2.1 a.2.2.2.1 a.2.2.2.2).1.commits),.sl false 2 (ai (eA a.1 a.2.1 a.2.2.1 a.2.2.2.1 a.2.2.2.2).1.heads)],.int .i64 (eA a.1 a.2.1 a.2.2.1 a.2.2.2.1 a.2.2.2.2).2]) (fun _=>[])
theorem xW:Has Tryz.prog 184 ny:=by
 refine ah mixed c9 (HasL.cons gr (HasL.cons x5 (HasL.cons tY (HasL.cons iB HasL.nil)))) [0,1,2,3,4,5,10,11,12,13,14,15] ((fun a n (_:Nat)=>(fun _=>aw) a n)) [] Tryz.func184 (by unfold Tryz.f184; rfl) (fun _=>⟨(),trivial⟩) ?_
 intro a ha;obtain ⟨r,n,w,o,b⟩:=a;obtain ⟨h1,h2,h3,h4⟩:ar r=true/\0<=atL r.heads n/\aH o=true/\aH b=true:=ha;simp -implicitDefEqProofs [ny,eM,nF,lM,gh,Con.fn,bO,ag,bu]
 try dsimp only
 simp -implicitDefEqProofs only [and_assoc,exists_eq_left,exists_and_left,RepoD.ex1,RepoD.eta];obtain ⟨k1,k2,k3⟩:=pf h1;have hat:=f8 (n:=n) ((c6 r).1 h1).2.1;have ga:=gO (r:=r) (c:=atL r.heads n) h2 (by omega)
 rw [ga];simp -implicitDefEqProofs [D.asRows];have hlen:∀ c,(da r n c).commits.length<=1073741824:=fun c=>by simp -implicitDefEqProofs [da]; omega
 refine ⟨h2,by omega,fun _ _=>⟨il h3,il (fe h1 _),il h4,fun _=>⟨fun hj=>?_,fun hj=>⟨⟨[atL r.heads n],w,(bE o (aG r (atL r.heads n)) b).1⟩,rfl,rfl,rfl,k1,k3,hlen _,fun hs=>?_,fun hs=>?_⟩⟩⟩⟩
 ·unfold eA; rw [if_neg (by intro e; rw [e] at hj; simp at hj)]; exact ⟨rfl,rfl,rfl⟩
 ·unfold eA; rw [if_pos hj,if_neg (by simp -implicitDefEqProofs [hs])]; exact ⟨rfl,rfl,rfl⟩
 ·unfold eA; rw [if_pos hj,if_pos hs]; exact ⟨rfl,rfl,rfl⟩
def rN:Con:=.fn 52 (RepoD × Str × Str × Int) (fun a=>[bh a.1,.str a.2.1,.str a.2.2.1,.int .i64 a.2.2.2]) (fun a=>cE a.1) (fun a=>.tup [.agg [.sl false 3 (az (cI false a.1 a.2.1 a.2.2.1 a.2.2.2).1.commits),.sl false 2 (ai (cI false a.1 a.2.1 a.2.2.1 a.2.2.2).1.heads)],.int .i64 (cI false a.1 a.2.1 a.2.2.1 a.2.2.2).2]) (fun _=>[])
theorem Ix:Has Tryz.prog 128 rN:=by
 refine ah mixed c9 (HasL.cons iB (HasL.cons gr (HasL.cons i9 (HasL.cons i7 (HasL.cons j2 (HasL.cons xV (HasL.cons xW HasL.nil))))))) [0,1,2,3,4,8,9,10] ((fun a n (_:Nat)=>(fun _=>aw) a n)) [] Tryz.func128 (by unfold Tryz.f128; rfl) (fun _=>⟨(),trivial⟩) ?_
 intro a ha;obtain ⟨r,n,w,b⟩:=a;replace ha:cE r:=ha;simp -implicitDefEqProofs [rN,gh,eM,gN,gM,iv,nw,ny,Con.fn,bO,ag,bu]
 try dsimp only
 simp -implicitDefEqProofs only [and_assoc,exists_eq_left,exists_and_left,RepoD.ex1,RepoD.eta];have e0:ar r=false->cI false r n w b=(noR,1):=fun h=>by unfold cI; rw [if_neg (by simp -implicitDefEqProofs [h])]
 have e1:ar r=true->(atL r.heads n < 0 \/ aM w=false \/ ¬ (0<=b/\b < r.commits.length))->cI false r n w b=(r,1):=fun h h'=>by unfold cI; rw [if_pos h,if_pos h']
 have e2:ar r=true -> ¬ (atL r.heads n < 0 \/ aM w=false \/ ¬ (0<=b/\b < r.commits.length))->cI false r n w b=eA r n w (iq r b) (aG r b):=fun h h'=>by unfold cI; rw [if_pos h,if_neg h']; rfl
 have hr1:r.commits.length<=1048576:=ha.1;refine ⟨by omega,fun h=>by rw [e0 h]; exact ⟨rfl,rfl,rfl⟩,fun h=>⟨fun hn=>⟨ha,by rw [e1 h (.inl hn)]; exact ⟨rfl,rfl,rfl⟩⟩,fun hn=>⟨fun hw=>⟨ha,by rw [e1 h (.inr (.inl hw))]; exact ⟨rfl,rfl,rfl⟩⟩,fun hw _=>⟨by omega,by omega,fun _ _=>⟨fun hb=>⟨ha,by rw [e1 h (.inr (.inr (by omega)))]; exact ⟨rfl,rfl,rfl⟩⟩,fun hb hb'=>?_⟩⟩⟩⟩⟩
 rw [e2 h (by rintro (q | q | q); omega; rw [hw] at q; cases q; omega)]
 have cb:=gO hb (show b < r.commits.length by omega)
 have s1:=fe h b;have s2:=vN h b;rw [cb];simp -implicitDefEqProofs [D.asRows,h,hn,hb,s1,s2,show b < r.commits.length by omega,show cE r from ha]
def rM:Con:=.fn 52 (RepoD × Str × Str × Int) (fun a=>[bh a.1,.str a.2.1,.str a.2.2.1,.int .i64 a.2.2.2]) (fun a=>cE a.1) (fun a=>.tup [.agg [.sl false 3 (az (cI true a.1 a.2.1 a.2.2.1 a.2.2.2).1.commits),.sl false 2 (ai (cI true a.1 a.2.1 a.2.2.1 a.2.2.2).1.heads)],.int .i64 (cI true a.1 a.2.1 a.2.2.1 a.2.2.2).2]) (fun _=>[])
theorem Iu:Has Tryz.prog 129 rM:=by
 refine ah mixed c9 (HasL.cons iB (HasL.cons gr (HasL.cons i9 (HasL.cons i7 (HasL.cons j2 (HasL.cons xV (HasL.cons xW HasL.nil))))))) [0,1,2,3,4,8,9,10] ((fun a n (_:Nat)=>(fun _=>aw) a n)) [] Tryz.func129 (by unfold Tryz.f129; rfl) (fun _=>⟨(),trivial⟩) ?_
 intro a ha;obtain ⟨r,n,w,b⟩:=a;replace ha:cE r:=ha;simp -implicitDefEqProofs [rM,gh,eM,gN,gM,iv,nw,ny,Con.fn,bO,ag,bu]
 try dsimp only
 simp -implicitDefEqProofs only [and_assoc,exists_eq_left,exists_and_left,RepoD.ex1,RepoD.eta];have e0:ar r=false->cI true r n w b=(noR,1):=fun h=>by unfold cI; rw [if_neg (by simp -implicitDefEqProofs [h])]
 have e1:ar r=true->(atL r.heads n < 0 \/ aM w=false \/ ¬ (0<=b/\b < r.commits.length))->cI true r n w b=(r,1):=fun h h'=>by unfold cI; rw [if_pos h,if_pos h']
 have e2:ar r=true -> ¬ (atL r.heads n < 0 \/ aM w=false \/ ¬ (0<=b/\b < r.commits.length))->cI true r n w b=eA r n w (aG r b) (iq r b):=fun h h'=>by unfold cI; rw [if_pos h,if_neg h']; rfl
 have hr1:r.commits.length<=1048576:=ha.1;refine ⟨by omega,fun h=>by rw [e0 h]; exact ⟨rfl,rfl,rfl⟩,fun h=>⟨fun hn=>⟨ha,by rw [e1 h (.inl hn)]; exact ⟨rfl,rfl,rfl⟩⟩,fun hn=>⟨fun hw=>⟨ha,by rw [e1 h (.inr (.inl hw))]; exact ⟨rfl,rfl,rfl⟩⟩,fun hw _=>⟨by omega,by omega,fun _ _=>⟨fun hb=>⟨ha,by rw [e1 h (.inr (.inr (by omega)))]; exact ⟨rfl,rfl,rfl⟩⟩,fun hb hb'=>?_⟩⟩⟩⟩⟩
 rw [e2 h (by rintro (q | q | q); omega; rw [hw] at q; cases q; omega)]
 have cb:=gO hb (show b < r.commits.length by omega)
 have s1:=fe h b;have s2:=vN h b;rw [cb];simp -implicitDefEqProofs [D.asRows,h,hn,hb,s1,s2,show b < r.commits.length by omega,show cE r from ha]


theorem Ki {c:UInt8}:∀ {s p:Str},((spl c s p).map fun q=>q.length+1).sum=p.length+s.length+1:=by
 intro s
 induction s with
 | nil=>intro p; simp [spl]
 | cons x s ih =>
  intro p;simp only [spl];split
  ·simp [ih]; omega
  ·rw [ih]; simp; omega
def IH (t:List FileD):Prop:=∀ f ∈ t,(∀ b ∈ f.path,32 < b.toNat)/\f.text.length < 100 /\ ∀ l ∈ f.text,(10:UInt8) ∉ l
structure OkT (ok:List FileD->Bool):Prop where
 n:∀ {t},ok t=true->t.length<=8
 plain:∀ {t},ok t=true->IH t
 ten:∀ {t},ok t=true -> ∀ f ∈ t,f.text.length<=10
theorem Kg {c:UInt8}:∀ {s p:Str},∀ b ∈ s,b=c \/ ∃ q ∈ spl c s p,b ∈ q:=by
 intro s
 induction s with
 | nil=>intro p b hb; cases hb
 | cons x s ih =>
  intro p b hb;have keep:∀ (s p:Str),∀ y ∈ p,∃ q ∈ spl c s p,y ∈ q:=by
   intro s
   induction s with
   | nil=>intro p y hy; exact ⟨p,by simp [spl],hy⟩
   | cons z s ih2 =>
    intro p y hy;simp only [spl];split
    ·exact ⟨p,by simp,hy⟩
    ·exact ih2 (p++[z]) y (by simp [hy])
  simp only [spl];split
  ·rename_i hx;rcases List.mem_cons.1 hb with rfl | hb
   ·exact .inl hx
   ·rcases ih (p:=[]) b hb with h | ⟨q,h1,h2⟩
    ·exact .inl h
    ·exact .inr ⟨q,by simp [h1],h2⟩
  ·rcases List.mem_cons.1 hb with rfl | hb
   ·exact .inr (keep s (p++[b]) b (by simp))
   ·exact ih b hb
theorem Il {s:Str} (h:gH s=true):(∀ b ∈ s,32 < b.toNat)/\s.length<=20:=by
 simp only [gH,Bool.and_eq_true,decide_eq_true_eq,List.all_eq_true] at h;obtain ⟨h1,h2⟩:=h;constructor
 ·intro b hb;rcases Kg (c:=47) (p:=[]) b hb with rfl | ⟨q,hq,hbq⟩
  ·decide
  ·have h3:=h2 q hq;simp only [aM,Bool.and_eq_true,List.all_eq_true] at h3;have h4:=h3.2 b hbq;simp only [kh,Bool.or_eq_true,Bool.and_eq_true,decide_eq_true_eq] at h4;omega
 ·have h3:=Ki (c:=47) (s:=s) (p:=[]);have h4:∀ (l:List Str),(∀ q ∈ l,aM q=true)->((l.map fun q=>q.length+1).sum)<=7 * l.length:=by
   intro l
   induction l with
   | nil=>intro _; simp
   | cons q l ih =>
    intro h;have a:=ih fun x hx=>h x (by simp [hx])
    have b:=h q (by simp)
    simp only [aM,Bool.and_eq_true,decide_eq_true_eq] at b;simp only [List.map_cons,List.sum_cons,List.length_cons];omega
  have h5:=h4 _ h2;rw [h3] at h5;simp at h5;omega
theorem pF {t:List FileD} (h:aC t=true):∀ f ∈ t,((∀ b ∈ f.path,32 < b.toNat)/\f.path.length<=20)/\f.text.length<=10 /\ ∀ l ∈ f.text,(10:UInt8) ∉ l:=by
 intro f hf;simp only [aC,Bool.and_eq_true,decide_eq_true_eq,List.all_eq_true,List.mem_range,dB] at h;obtain ⟨i,hi,rfl⟩:=List.getElem_of_mem hf;have h1:=(h.2 i hi).1.1;have hg:t.getD i default=t[i]:=by simp [List.getD_eq_getElem?_getD,hi]
 rw [hg] at h1;refine ⟨Il h1.2,?_⟩;have h2:=h1.1;simp only [aD,Bool.and_eq_true,decide_eq_true_eq,List.all_eq_true] at h2;refine ⟨h2.1,fun l hl h10=>?_⟩;have h3:=h2.2 l hl;simp only [ja,Bool.and_eq_true,List.all_eq_true,decide_eq_true_eq] at h3;have:=h3.2 10 h10;simp at this
--TAB bO
def oV (o:OpD):Prop:=o.path.length<=1048576/\o.to_.length<=1048576/\o.text.length<=1048576
def qO:Con:=.fn 29 (RepoD × OpD × (List FileD × Bool)) (fun a=>[bh a.1,vOp a.2.1,.sl true 2 (ac a.2.2.1),.bool a.2.2.2]) (fun a=>cE a.1/\a.2.2.1.length<=1048576 /\ ∀ f ∈ a.2.2.1,f.text.length<=1048576) (fun a=>.tup [.agg [.sl false 3 (az (eG a.1 a.2.1 a.2.2).1.commits),.sl false 2 (ai (eG a.1 a.2.1 a.2.2).1.heads)],.int .i64 (eG a.1 a.2.1 a.2.2).2]) (fun _=>[])
theorem FN:Has Tryz.prog 123 qO:=by
 refine ah mixed c9 (HasL.cons Jg HasL.nil) [0,1,2,3,4,5,8,9,10,11] ((fun a n (_:Nat)=>(fun _=>aw) a n)) [] Tryz.func123 (by unfold Tryz.f123; rfl) (fun _=>⟨(),trivial⟩) ?_
 intro a ha;obtain ⟨r,o,t,k⟩:=a;obtain ⟨h1,h2,h3⟩:cE r/\t.length<=1048576 /\ ∀ f ∈ t,f.text.length<=1048576:=ha;simp (maxSteps:=8000000) -implicitDefEqProofs [-kStep_move,-Bool.exists_bool,qO,rQ,Con.fn,bO,ag,bu,bOp]
 try dsimp only
 simp -implicitDefEqProofs only [and_assoc,exists_eq_left,exists_and_left,RepoD.ex1,RepoD.eta,OpD.ex1,OpD.eta];refine ⟨fun h=>?_,fun h=>⟨h1,h2,h3,fun h'=>?_,fun h'=>?_⟩⟩
 ·unfold eG; rw [if_neg (by simp -implicitDefEqProofs [h])]; exact ⟨rfl,rfl,rfl⟩
 ·unfold eG; rw [if_pos h,if_neg (by simp -implicitDefEqProofs [h'])]; exact ⟨rfl,rfl,rfl⟩
 ·unfold eG; rw [if_pos h,if_pos h']; exact ⟨rfl,rfl,rfl⟩
theorem K8 {t:List FileD} (h:aH t=true) (f:FileD):aH (jz t f).1=true:=by
 unfold jz;rw [if_pos h];split
 ·assumption
 ·exact h
theorem K5 {t:List FileD} (h:aH t=true) (p to:Str):aH (eH t p to).1=true:=by
 unfold eH;rw [if_pos h];split
 ·exact h
 ·split
  ·exact h
  ·rename_i q;cases q2:aH (dC p to (bD (bv p) t) t) with
   | true=>rfl
   | false=>exact absurd (.inl q2) q
theorem KZ {t:List FileD} (h:aH t=true) (p:Str):szT (jy t p).1:=by
 unfold jy bD;rw [if_pos h];obtain ⟨h1,h2⟩:=il h;exact ⟨Nat.le_trans (List.length_filter_le _ _) h1,fun f hf=>h2 f (List.mem_filter.1 hf).1⟩
theorem Ak {t:List FileD} (h:aH t=true):∀ f ∈ t,f.path.length<=20:=fun f hf=>(pF (by rw [fW]; exact h) f hf).1.2
theorem ju {t:List FileD} (h:szT t):t.length<=1048576 /\ ∀ f ∈ t,f.text.length<=1048576:=⟨by have:=h.1; omega,fun f hf=>by have:=h.2 f hf; omega⟩
theorem K6 {r:RepoD} (h:ar r=true) (n:Str):aH (eI r n)=true:=by
 unfold eI;split
 ·exact fe h _
 ·rfl
def qL:Con:=.fn 134 (RepoD × OpD) (fun a=>[bh a.1,vOp a.2]) (fun a=>ar a.1=true/\oV a.2) (fun a=>.tup [.agg [.sl false 3 (az (cR a.1 a.2).1.commits),.sl false 2 (ai (cR a.1 a.2).1.heads)],.int .i64 (cR a.1 a.2).2]) (fun _=>[])
theorem FI:Has Tryz.prog 66 qL:=by
 refine ah mixed c9 (HasL.cons gr (HasL.cons K7 (HasL.cons KY (HasL.cons K0 (HasL.cons FN (HasL.cons Je (HasL.cons Lq (HasL.cons Ix (HasL.cons Iu HasL.nil))))))))) [0,1,2,3,4,5,6,7,8,9,10,11,12,13,14,15,30] ((fun a n (_:Nat)=>(fun _=>aw) a n)) [] Tryz.func66 (by unfold Tryz.f66; rfl) (fun _=>⟨(),trivial⟩) ?_
 intro a ha;obtain ⟨r,o⟩:=a;obtain ⟨h1,h2,h3,h4⟩:ar r=true/\oV o:=ha;simp (maxSteps:=8000000) -implicitDefEqProofs [-kStep_move,-Bool.exists_bool,qL,eM,sj,sg,si,qO,rP,sm,rN,rM,Con.fn,bO,ag,bu,bOp]
 try dsimp only
 simp -implicitDefEqProofs only [and_assoc,exists_eq_left,exists_and_left,RepoD.ex1,RepoD.eta,OpD.ex1,OpD.eta];have hsz:=pf h1;have hat:=f8 (n:=o.branch) ((c6 r).1 h1).2.1;have hT:=K6 h1 o.branch;have e1:o.kind=1->cR r o=eG r o (jz (eI r o.branch) ⟨o.path,o.text⟩):=fun h=>by unfold cR; rw [if_pos h]
 have e2:o.kind=2->cR r o=eG r o (jy (eI r o.branch) o.path):=fun h=>by unfold cR; rw [if_neg (by omega),if_pos h]
 have e3:o.kind=3->cR r o=eG r o (eH (eI r o.branch) o.path o.to_):=fun h=>by unfold cR; rw [if_neg (by omega),if_neg (by omega),if_pos h]
 have e4:o.kind=4->(dR r o.to_ (atL r.heads o.branch)).2=true->cR r o=((dR r o.to_ (atL r.heads o.branch)).1,0):=fun h h'=>by unfold cR; rw [if_neg (by omega),if_neg (by omega),if_neg (by omega),if_pos h,if_pos h']
 have e4':o.kind=4->(dR r o.to_ (atL r.heads o.branch)).2=false->cR r o=(r,1):=fun h h'=>by unfold cR; rw [if_neg (by omega),if_neg (by omega),if_neg (by omega),if_pos h,if_neg (by simp -implicitDefEqProofs [h'])]
 have e5:o.kind=5->cR r o=bC r o.branch o.who (atL r.heads o.to_):=fun h=>by unfold cR; rw [if_neg (by omega),if_neg (by omega),if_neg (by omega),if_neg (by omega),if_pos h]
 have e6:o.kind=6->cR r o=cI false r o.branch o.who o.at_:=fun h=>by unfold cR; rw [if_neg (by omega),if_neg (by omega),if_neg (by omega),if_neg (by omega),if_neg (by omega),if_pos h]
 have e7:¬ o.kind=1 -> ¬ o.kind=2 -> ¬ o.kind=3 -> ¬ o.kind=4 -> ¬ o.kind=5 -> ¬ o.kind=6->cR r o=cI true r o.branch o.who o.at_:=fun k1 k2 k3 k4 k5 k6=>by unfold cR; rw [if_neg k1,if_neg k2,if_neg k3,if_neg k4,if_neg k5,if_neg k6]
 have s1:=ju (il (K8 hT ⟨o.path,o.text⟩));have s2:=ju (KZ hT o.path);have s3:=ju (il (K5 hT o.path o.to_));have s0:=il hT;have sp:=Ak hT;have sp:∀ f ∈ eI r o.branch,f.path.length<=1048576:=fun f hf=>by have:=sp f hf; omega
 have sl:(eI r o.branch).length<=1048575:=by have:=s0.1; omega
 have st:=(ju s0).2;refine ⟨fun hp=>⟨hp,by omega,fun _ _=>?_⟩,fun hn=>?_⟩
 ·have ca:=gO (r:=r) hp (by omega)
  have eT:aG r (atL r.heads o.branch)=eI r o.branch:=by unfold eI; rw [if_pos hp]
  rw [ca,eT];simp -implicitDefEqProofs [D.asRows];exact ⟨fun h=>⟨sl,st,h4,hsz,s1.1,s1.2,by rw [e1 h]; exact ⟨rfl,rfl,rfl⟩⟩,fun k1=>⟨fun h=>⟨(ju s0).1,st,hsz,s2.1,s2.2,by rw [e2 h]; exact ⟨rfl,rfl,rfl⟩⟩,fun k2=>⟨fun h=>⟨(ju s0).1,st,h3,sp,hsz,s3.1,s3.2,by rw [e3 h]; exact ⟨rfl,rfl,rfl⟩⟩,fun k3=>⟨fun h=>⟨hsz,fun h'=>by rw [e4' h h']; exact ⟨rfl,rfl,rfl⟩,fun h'=>by rw [e4 h h']; exact ⟨rfl,rfl,rfl⟩⟩,fun k4=>⟨fun h=>⟨hsz,by rw [e5 h]; exact ⟨rfl,rfl,rfl⟩⟩,fun k5=>⟨fun h=>⟨hsz,by rw [e6 h]; exact ⟨rfl,rfl,rfl⟩⟩,fun k6=>⟨hsz,by rw [e7 k1 k2 k3 k4 k5 k6]; exact ⟨rfl,rfl,rfl⟩⟩⟩⟩⟩⟩⟩⟩
 ·have eT:eI r o.branch=[]:=by unfold eI; rw [if_neg (by omega)]
  simp -implicitDefEqProofs only [FileD.ex1];rw [<- eT];exact ⟨fun h=>⟨sl,st,h4,hsz,s1.1,s1.2,by rw [e1 h]; exact ⟨rfl,rfl,rfl⟩⟩,fun k1=>⟨fun h=>⟨(ju s0).1,st,hsz,s2.1,s2.2,by rw [e2 h]; exact ⟨rfl,rfl,rfl⟩⟩,fun k2=>⟨fun h=>⟨(ju s0).1,st,h3,sp,hsz,s3.1,s3.2,by rw [e3 h]; exact ⟨rfl,rfl,rfl⟩⟩,fun k3=>⟨fun h=>⟨hsz,fun h'=>by rw [e4' h h']; exact ⟨rfl,rfl,rfl⟩,fun h'=>by rw [e4 h h']; exact ⟨rfl,rfl,rfl⟩⟩,fun k4=>⟨fun h=>⟨hsz,by rw [e5 h]; exact ⟨rfl,rfl,rfl⟩⟩,fun k5=>⟨fun h=>⟨hsz,by rw [e6 h]; exact ⟨rfl,rfl,rfl⟩⟩,fun k6=>⟨hsz,by rw [e7 k1 k2 k3 k4 k5 k6]; exact ⟨rfl,rfl,rfl⟩⟩⟩⟩⟩⟩⟩⟩
def rpI (l:List OpD):Inv:=⟨Nat,fun i=>⟨[(0,true,.sl true 7 (cW l)),(2,true,.ptr 10 0),(3,true,.ptr 11 0),(4,true,.int .i64 i)],[(10,lH),(11,.box 35 [.sl false 3 (az (hD (l.take i)).commits),.sl false 2 (ai (hD (l.take i)).heads)])]⟩,fun i=>i<=l.length/\i<=30,fun i=>l.length - i⟩
def rS:Con:=.fn 34 (List OpD) (fun l=>[.sl true 7 (cW l)]) (fun l=>∀ o ∈ l,oV o) (fun l=>.agg [.sl false 3 (az (mC l).commits),.sl false 2 (ai (mC l).heads)]) (fun _=>[])
theorem Jk:Has Tryz.prog 164 rS:=by
 refine ah mixed c9 (HasL.cons FM (HasL.cons FI HasL.nil)) [0,2,3,4,5] ((fun a n (_:Nat)=>(fun l _=>rpI l) a n)) [12287] Tryz.func164 (by unfold Tryz.f164; rfl) (fun _=>⟨(),trivial⟩) ?_
 intro (l:List OpD) (ha:∀ o ∈ l,oV o);simp (maxSteps:=8000000) -implicitDefEqProofs [-kStep_move,-Bool.exists_bool,rS,qN,qL,Con.fn,bO,ag,rpI]
 try dsimp only
 simp -implicitDefEqProofs only [and_assoc,exists_eq_left,exists_and_left,RepoD.ex1,RepoD.eta,OpD.ex1,OpD.eta];refine ⟨rfl,rfl,Nat.zero_le _,Nat.zero_le _,fun t ht h30 _=>⟨fun hlt h30'=>⟨hlt,fun _=>?_⟩,?_⟩⟩
 ·have qq:Option.map eOp l[t]? = some (eOp l[t]):=by simp -implicitDefEqProofs [hlt]
  have hs:=II hlt;have hok:=(uH (l.take t)).1;have ho:=ha l[t] (List.getElem_mem hlt);rw [qq];generalize hD (l.take t)=R at *;generalize l[t]=o at *;simp -implicitDefEqProofs [eOp,D.asInt,D.asStr,D.asRows];refine ⟨ho.2.2,fun hb=>⟨hlt,fun _=>⟨hok,ho,by omega,by omega,fun _ _=>⟨t+1,by omega,by rw [hs,if_pos hb],by rw [hs,if_pos hb],by omega,by omega,by omega⟩⟩⟩,fun hb=>⟨by omega,by omega,fun _ _=>⟨t+1,by omega,by rw [hs,if_neg (by simp -implicitDefEqProofs [hb])],by rw [hs,if_neg (by simp -implicitDefEqProofs [hb])],by omega,by omega,by omega⟩⟩⟩
 ·intro h;have e:mC l=hD (l.take t):=by
   unfold mC;rcases Nat.lt_or_ge t l.length with h1 | h1
   ·have:=h h1;have:t=30:=by omega
    rw [this]
   ·rw [List.take_of_length_le h1,List.take_of_length_le (by omega)]
  rw [e]; exact ⟨rfl,rfl⟩
def qk:Con:={ A:=Str × Int,X:=Str,n:=6,args:=fun _=>[.ptr 0 0],boxes:=fun a=>[(0,111,[.sl true 1 (bR a.1),.int .i64 a.2])],pre:=fun a=>a.1.length<=2000/\0<=a.2/\a.2<=1073741800,post:=fun _ x=>x.length<=4,res:=fun _ x=>.str x,fin:=fun a _=>[(0,dD a.1 (a.2+1))],nob:=false }
theorem BN:Has Tryz.prog 36 qk:=by
 refine ah mixed ap (HasL.cons of_has HasL.nil) [0,2] ((fun a n (_:Nat)=>(fun _=>aw) a n)) [] Tryz.func36 (by unfold Tryz.f36; rfl) (fun _=>⟨([]:Str),Nat.zero_le 4⟩) ?_
 intro a ha;obtain ⟨s,p⟩:=a;obtain ⟨h1,h2,h3⟩:s.length<=2000/\0<=p/\p<=1073741800:=ha;simp -implicitDefEqProofs [qk,cOf,ag,gR,clash,kd,de,f5];exact ⟨s,p,⟨rfl,rfl⟩,⟨h1,by omega,by omega⟩,by simp⟩
def kK (o:OpD):Prop:=(1<=o.kind/\o.kind<=7)/\o.branch.length<=4/\o.who.length<=3/\o.path.length<=5/\o.to_.length<=5/\(0<=o.at_/\o.at_<=9)/\o.text.length<=8 /\ ∀ s ∈ o.text,s.length<=7
def rG:Con:={ A:=Str × Int,X:=OpD × Int,n:=63,args:=fun _=>[.ptr 0 0],boxes:=fun a=>[(0,111,[.sl true 1 (bR a.1),.int .i64 a.2])],pre:=fun a=>a.1.length<=2000/\0<=a.2/\a.2<=1073741500,post:=fun a x=>kK x.1/\a.2<=x.2/\x.2<=a.2+20,res:=fun _ x=>.agg [.int .i64 x.1.kind,.str x.1.branch,.str x.1.who,.str x.1.path,.str x.1.to_,.int .i64 x.1.at_,.own 8 1 (aa x.1.text)],fin:=fun a x=>(0,dD a.1 x.2) :: dw 8 x.1.text,nob:=false }
theorem HG:Has Tryz.prog 34 rG:=by
 refine ah mixed ap (HasL.cons BN (HasL.cons of_has (HasL.cons pick_has (HasL.cons Im (HasL.cons KQ HasL.nil))))) [0,2,3,11,34,42] ((fun a n (_:Nat)=>(fun _=>aw) a n)) [] Tryz.func34 (by unfold Tryz.f34; rfl) (fun a=>⟨((⟨1,[],[],[],[],0,[]⟩:OpD),a.2),(by simp -implicitDefEqProofs [kK]),Int.le_refl _,by omega⟩) ?_
 intro a ha;obtain ⟨s,p⟩:=a;obtain ⟨h1,h2,h3⟩:s.length<=2000/\0<=p/\p<=1073741500:=ha;simp (maxSteps:=8000000) -implicitDefEqProofs [-kStep_move,-Bool.exists_bool,rG,qk,cOf,ix,rK,sf,ag,gR,clash,kd,de,f5];have fin:∀ (k:Int) (b w pa t:Str) (i:Int) (q:Int),(1<=k/\k<=7)->b.length<=4->w.length<=3->pa.length<=5->t.length<=5->(0<=i/\i<=9)->(p<=q/\q<=p+20) -> ∃ (a:OpD) (c:Int),(kK a/\p<=c/\c<=p+20)/\(a.kind=k/\a.branch=b/\a.who=w/\a.path=pa/\a.to_=t/\a.at_=i/\a.text=[])/\(s=s/\c=q)/\a.text=[] :=
  fun k b w pa t i q h1 h2 h3 h4 h5 h6 h7=>⟨⟨k,b,w,pa,t,i,[]⟩,q,⟨⟨h1,h2,h3,h4,h5,h6,Nat.zero_le _,by simp⟩,h7⟩,⟨rfl,rfl,rfl,rfl,rfl,rfl,rfl⟩,⟨rfl,rfl⟩,rfl⟩
 have fin2:∀ (k:Int) (b w pa t:Str) (i:Int) (l:List Str) (q:Int),(1<=k/\k<=7)->b.length<=4->w.length<=3->pa.length<=5->t.length<=5->(0<=i/\i<=9)->(l.length<=8)->(∀ s ∈ l,s.length<=7)->(p<=q/\q<=p+20) -> ∃ (a:OpD) (c:Int),(kK a/\p<=c/\c<=p+20)/\(a.kind=k/\a.branch=b/\a.who=w/\a.path=pa/\a.to_=t/\a.at_=i/\a.text=l)/\(s=s/\c=q)/\l=a.text :=
  fun k b w pa t i l q h1 h2 h3 h4 h5 h6 g1 g2 h7=>⟨⟨k,b,w,pa,t,i,l⟩,q,⟨⟨h1,h2,h3,h4,h5,h6,g1,g2⟩,h7⟩,⟨rfl,rfl,rfl,rfl,rfl,rfl,rfl⟩,⟨rfl,rfl⟩,rfl⟩
 repeat' (first
  | intro _
  | refine ⟨_,_,⟨rfl,rfl⟩,⟨h1,by omega,by omega⟩,?_⟩
  | exact fin _ _ _ _ _ _ _ (by omega) (by first | assumption | omega | decide) (by first | assumption | omega | decide) (by first | assumption | omega | decide) (by first | assumption | omega | decide) (by omega) (by omega)
  | exact fin2 _ _ _ _ _ _ _ _ (by omega) (by first | assumption | omega | decide) (by first | assumption | omega | decide) (by first | assumption | omega | decide) (by first | assumption | omega | decide) (by omega) (by assumption) (by assumption) (by omega)
  | apply And.intro)
def rH:Con:={ A:=Str × Int,X:=List OpD × Int,n:=19,args:=fun _=>[.ptr 0 0],boxes:=fun a=>[(0,111,[.sl true 1 (bR a.1),.int .i64 a.2])],pre:=fun a=>a.1.length<=2000/\0<=a.2/\a.2<=1073741000,post:=fun a x=>(x.1.length<=20 /\ ∀ o ∈ x.1,kK o)/\a.2<=x.2/\x.2<=a.2+450,res:=fun _ x=>.own 8 7 (cW x.1),fin:=fun a x=>[(0,dD a.1 x.2),(8,.own 70 7 true (cW x.1))],nob:=false }
theorem HI:Has Tryz.prog 165 rH:=by
 refine ah mixed ap (HasL.cons one_has (HasL.cons HG HasL.nil)) [0,2,3,4] ((fun a n (_:Nat)=>(fun a _=>⟨List OpD × Int × Nat,fun t=>⟨[(0,true,.ptr 0 0),(2,true,.nil),(3,true,.own 9 7 (cW t.1)),(4,true,.int .i64 t.2.2)],[(0,dD a.1 t.2.1),(9,.own 70 7 true (cW t.1))]⟩,fun t=>t.1.length+t.2.2<=20/\(∀ o ∈ t.1,kK o)/\a.2<=t.2.1/\t.2.1+20 * t.2.2<=a.2+450,fun t=>t.2.2⟩) a n)) [] Tryz.func165 (by unfold Tryz.f165; rfl) (fun a=>⟨(([]:List OpD),a.2),⟨Nat.zero_le _,by simp⟩,Int.le_refl _,by omega⟩) ?_
 intro a ha;obtain ⟨s,p⟩:=a;obtain ⟨h1,h2,h3⟩:s.length<=2000/\0<=p/\p<=1073741000:=ha;simp (maxSteps:=8000000) -implicitDefEqProofs [-kStep_move,-Bool.exists_bool,rH,nK,rG,ag,gR,clash,kd,de,f5];refine ⟨s,p,[0,3,8,14,20],rfl,⟨rfl,rfl⟩,⟨h1,by omega,by omega,by simp,by simp⟩,fun y hy=>?_⟩
 have hy:=hy (by simp)
 have hy2:0<=y/\y<=20:=by simp only [List.mem_cons,List.not_mem_nil,or_false] at hy; omega
 refine ⟨⟨[],p+1,y.toNat,⟨⟨rfl,by omega⟩,⟨rfl,rfl⟩,rfl⟩,by simp; omega,by simp,by omega,by omega⟩,fun a q b ga gb gc gd=>⟨fun hb=>⟨s,q,⟨rfl,rfl⟩,⟨h1,by omega,by omega⟩,fun o q2 ho g1 g2=>⟨⟨by omega,by omega⟩,⟨by omega,by omega⟩,fun _ _=>⟨a++[o],q2,b - 1,⟨⟨(w4 _ _ _ _ _ _ _ _).symm,by omega⟩,⟨rfl,rfl⟩,w4 _ _ _ _ _ _ _ _⟩,⟨by simp; omega,fun x hx=>?_,by omega,by omega⟩,by omega⟩⟩⟩,fun hb=>⟨a,q,⟨⟨by omega,gb⟩,by omega,by omega⟩,rfl,rfl,rfl⟩⟩⟩
 rcases List.mem_append.1 hx with hx | hx
 ·exact gb x hx
 ·simp at hx; subst hx; exact ho
def rR:Con:={ A:=Str × Int,X:=RepoD × Int,n:=7,args:=fun _=>[.ptr 0 0],boxes:=fun a=>[(0,111,[.sl true 1 (bR a.1),.int .i64 a.2])],pre:=fun a=>a.1.length<=2000/\0<=a.2/\a.2<=1073740000,post:=fun a x=>plR x.1/\a.2<=x.2/\x.2<=a.2+450,res:=fun _ x=>.agg [.own 8 3 (az x.1.commits),.own 9 2 (ai x.1.heads)],fin:=fun a x=>(0,dD a.1 x.2) :: (iD 8 x.1.commits++gD 9 x.1.heads),nob:=false }
theorem Jh:Has Tryz.prog 83 rR:=by
 refine ah mixed ap (HasL.cons HI (HasL.cons Jk (HasL.cons j2 HasL.nil))) [0,2] ((fun a n (_:Nat)=>(fun _=>aw) a n)) [] Tryz.func83 (by unfold Tryz.f83; rfl) (fun a=>⟨(noR,a.2),mB,Int.le_refl _,by omega⟩) ?_
 intro a ha;obtain ⟨s,p⟩:=a;obtain ⟨h1,h2,h3⟩:s.length<=2000/\0<=p/\p<=1073740000:=ha;simp (maxSteps:=8000000) -implicitDefEqProofs [-kStep_move,-Bool.exists_bool,rR,rH,rS,iv,Con.fn,ag,gR,clash,kd,de,f5];refine ⟨s,p,⟨rfl,rfl⟩,⟨h1,by omega,by omega⟩,fun l q g1 g2 g3 g4=>⟨fun o ho=>?_,pf (uH _).1,mC l,q,⟨uH _,by omega,by omega⟩,⟨rfl,rfl⟩,⟨rfl,rfl⟩,rfl,rfl⟩⟩
 obtain ⟨_,_,_,k1,k2,_,k3,_⟩:=g2 o ho;exact ⟨by omega,by omega,by omega⟩
def fH (r:RepoD):Prop:=r.commits.length<=16/\r.heads.length<=100 /\ ∀ c ∈ r.commits,c.parents.length<=2/\aH c.tree=true/\c.who.length<=6
theorem lg {r:RepoD} (h:plR r):fH r:=by
 obtain ⟨h1,h2,h3⟩:=(c6 r).1 h.1;refine ⟨h3,by have:=((gq _ _).1 h2).1; omega,fun c hc=>?_⟩
 obtain ⟨i,hi,rfl⟩:=List.getElem_of_mem hc;have h4:=h1 i hi;have e:r.commits.getD i default=r.commits[i]:=by simp -implicitDefEqProofs [List.getD_eq_getElem?_getD,hi]
 unfold dv eX at h4;rw [e] at h4;simp only [Bool.and_eq_true,decide_eq_true_eq,aM] at h4;exact ⟨h4.2.1.1,h4.2.2,h4.2.1.2.1.2⟩
def qh:Con:={ A:=Str × Int,X:=RepoD × Int,n:=46,args:=fun _=>[.ptr 0 0],boxes:=fun a=>[(0,111,[.sl true 1 (bR a.1),.int .i64 a.2])],pre:=fun a=>a.1.length<=2000/\0<=a.2/\a.2<=1073739000,post:=fun a x=>fH x.1/\a.2<=x.2/\x.2<=a.2+500,res:=fun _ x=>.agg [.sl false 3 (az x.1.commits),.sl false 2 (ai x.1.heads)],fin:=fun a x=>[(0,dD a.1 x.2)],nob:=false }
theorem Bd:Has Tryz.prog 38 qh:=by
 refine ah mixed ap (HasL.cons Jh (HasL.cons pick_has HasL.nil)) [0,2,3,4,17] ((fun a n (_:Nat)=>(fun _=>aw) a n)) [] Tryz.func38 (by unfold Tryz.f38; rfl) (fun a=>⟨(noR,a.2),lg mB,Int.le_refl _,by omega⟩) ?_
 intro a ha;obtain ⟨s,p⟩:=a;obtain ⟨h1,h2,h3⟩:s.length<=2000/\0<=p/\p<=1073739000:=ha;simp (maxSteps:=8000000) -implicitDefEqProofs [-kStep_move,-Bool.exists_bool,qh,rR,ix,ag,gR,clash,kd,de,f5];refine ⟨s,p,⟨rfl,rfl⟩,⟨h1,by omega,by omega⟩,fun r q hr g1 g2 _=>⟨fun hp _=>⟨s,q,⟨rfl,rfl⟩,⟨h1,by omega,by omega,?_⟩,fun y _ hy=>⟨s,q+1,⟨rfl,rfl⟩,⟨h1,by omega,by omega⟩,fun z hz0 hz1=>?_⟩⟩,fun _=>⟨r,q,⟨lg hr,by omega,by omega⟩,⟨rfl,rfl⟩,rfl,rfl⟩⟩⟩
 ·have:=(lg hr).1; omega
 obtain ⟨k1,k2⟩:=hy (by omega)
 have hk:y.toNat < r.commits.length:=by omega
 have e:Option.map ba r.commits[y.toNat]? = some (ba r.commits[y.toNat]):=by simp -implicitDefEqProofs [hk]
 have hd:=lg hr;have hh:0 < r.heads.length:=List.length_pos_iff.2 (hr.2 (by intro h; rw [h] at hp; simp at hp))
 have e2:Option.map aW r.heads[0]? = some (aW r.heads[0]):=by simp -implicitDefEqProofs [hh]
 have ds:∀ c:CommitD,(c.parents.length<=2/\aH c.tree=true/\c.who.length<=6)->fH ⟨r.commits.set y.toNat c,r.heads⟩:=fun c hc=>⟨by simp; exact hd.1,hd.2.1,fun x hx=>(List.mem_or_eq_of_mem_set hx).elim (hd.2.2 x) fun h=>h ▸ hc⟩
 have dc:=hd.2.2 _ (List.getElem_mem hk);have dh:fH ⟨r.commits,r.heads++[r.heads[0]]⟩:=⟨hd.1,by have:=((gq _ _).1 ((c6 r).1 hr.1).2.1).1; simp; omega,hd.2.2⟩
 simp only [e,e2];simp -implicitDefEqProofs [ba,aW,D.asStr,D.asInt,hk,k1,k2,hh];have hl:r.heads.length<=100:=hd.2.1;have hA:p<=q+1+1/\q+1+1<=p+500:=⟨by omega,by omega⟩
 have es:∀ c:CommitD,az (r.commits.set y.toNat c)=(az r.commits).set y.toNat (ba c):=fun c=>by simp -implicitDefEqProofs [az,List.map_set]
 exact ⟨fun _=>⟨_,⟨ds ⟨[y],r.commits[y.toNat].who,r.commits[y.toNat].tree⟩ ⟨by simp,dc.2⟩,hA⟩,es _,rfl⟩,fun _=>⟨fun _=>⟨_,⟨ds ⟨r.commits[y.toNat].parents,[],r.commits[y.toNat].tree⟩ ⟨dc.1,dc.2.1,Nat.zero_le _⟩,hA⟩,es _,rfl⟩,fun _=>⟨fun _=>⟨⟨by omega,by omega⟩,_,⟨dh,hA⟩,rfl,by simp -implicitDefEqProofs [ai,aW]⟩,fun _=>⟨r,⟨hd,hA⟩,rfl,rfl⟩⟩⟩⟩
def eq:Con:={ cOf with bty:=[111] }
theorem ofB_has:Has Tryz.prog 35 eq :=
 ⟨of_has.enter,of_has.tot,of_has.nob,fun a h c hk vs β fp h1 h2 h3 h4 S=>of_has.calls a h c hk vs β fp h1 h2 h3 h4 S,of_has.bldr,
  .inr fun a=>⟨fun b hb=>(by simp only [eq,eq,cOf,List.mem_cons,List.not_mem_nil,or_false] at hb; subst hb; simp -implicitDefEqProofs [eq]),fun x p hp ty vs e=>(by simp only [eq,eq,cOf,List.mem_cons,List.not_mem_nil,or_false] at hp; subst hp; cases e; simp -implicitDefEqProofs [eq])⟩⟩

--TAB aV
def jP:Con:={ eq with post:=fun _ _=>True }
theorem yM:Has Tryz.prog 35 jP :=
 ⟨ofB_has.enter,fun a=>(let ⟨y,_⟩:=ofB_has.tot a; ⟨y,trivial⟩),ofB_has.nob,fun a h c hk vs β fp h1 h2 h3 h4 S=>(ofB_has.calls a h c hk vs β fp h1 h2 h3 h4 S).mono fun e w' q=>(let ⟨y,_,q⟩:=q; ⟨y,trivial,q⟩),ofB_has.bldr,
  .inr fun a=>⟨fun b hb=>(by simp only [jP,eq,cOf,List.mem_cons,List.not_mem_nil,or_false] at hb; subst hb; simp -implicitDefEqProofs [jP,eq]),fun x p hp ty vs e=>(by simp only [jP,eq,cOf,List.mem_cons,List.not_mem_nil,or_false] at hp; subst hp; cases e; simp -implicitDefEqProofs [jP,eq])⟩⟩
def wD:Con:={ ix with mv:=true,bld:=(0,1,0,0) }
theorem Iw:Has Tryz.prog 32 wD :=
 ⟨pick_has.enter,pick_has.tot,pick_has.nob,fun a h c hk vs β fp h1 h2 h3 h4 S=>pick_has.calls a h c hk vs β fp h1 h2 h3 h4 S,pick_has.bldr,.inl rfl⟩
def owWords:List Str:=[[97],[98],[100],[100,47,101],[103]]
def jT (l:List OwnerD):Prop:=l.length<=5 /\ ∀ o ∈ l,o.path.length<=3
def rJ:Con:={ A:=Str × Int,X:=List OwnerD × Int,n:=40,args:=fun _=>[.ptr 0 0],boxes:=fun a=>[(0,111,[.sl true 1 (bR a.1),.int .i64 a.2])],pre:=fun a=>a.1.length<=2000/\0<=a.2/\a.2<=1073739900,post:=fun a x=>jT x.1/\a.2<=x.2/\x.2<=a.2+12,res:=fun _ x=>.own 8 2 (aT x.1),fin:=fun a x=>[(0,dD a.1 x.2),(8,.own 44 2 true (aT x.1))],nob:=false }
theorem HT:Has Tryz.prog 39 rJ:=by
 refine ah mixed bK (HasL.cons Iw (HasL.cons yM HasL.nil)) [0,2,3,4,5] ((fun a n (_:Nat)=>(fun a _=>⟨List OwnerD × Int × Nat,fun t=>⟨[(0,true,.ptr 0 0),(2,true,.nil),(3,true,.own 9 2 (aT t.1)),(4,true,.own 11 1 (aa owWords)),(5,true,.int .i64 t.2.2)],[(0,dD a.1 t.2.1),(9,.own 44 2 true (aT t.1)),(11,.own 9 1 true (aa owWords))]⟩,fun t=>(t.1.length<=t.2.2 /\ ∀ o ∈ t.1,o.path.length<=3)/\t.2.2<=5/\a.2<=t.2.1/\t.2.1<=a.2+2 * t.2.2,fun t=>5 - t.2.2⟩) a n)) [8191] Tryz.func39 (by unfold Tryz.f39; rfl) (fun a=>⟨(([]:List OwnerD),a.2),⟨Nat.zero_le _,by simp⟩,Int.le_refl _,by omega⟩) ?_
 intro a ha;obtain ⟨s,p⟩:=a;obtain ⟨h1,h2,h3⟩:s.length<=2000/\0<=p/\p<=1073739900:=ha;simp (maxSteps:=8000000) -implicitDefEqProofs [-kStep_move,-Bool.exists_bool,rJ,wD,ix,jP,eq,cOf,Con.fn,aV,ag,gR,clash,kd,de,f5];have hw:owWords.length=5:=rfl;have hs:∀ w ∈ owWords,w.length<=3:=by decide
 refine ⟨⟨[],p,0,⟨⟨rfl,rfl,rfl⟩,rfl,rfl,rfl⟩,⟨Nat.le_refl _,by simp⟩,by omega,by omega,by omega⟩,fun l q b g1 g2 g3 g4 g5 _=>⟨fun hb=>⟨s,q,⟨rfl,rfl⟩,⟨h1,by omega,by omega⟩,fun z _ _=>⟨fun _=>⟨hb,fun _=>?_⟩,fun _=>⟨⟨by omega,by omega⟩,fun _ _=>⟨l,q+1,b+1,⟨⟨rfl,by omega⟩,⟨rfl,rfl⟩,rfl⟩,⟨⟨by omega,g2⟩,by omega,by omega,by omega⟩,by omega⟩⟩⟩⟩,fun hb _=>⟨fun hl=>⟨s,q,⟨rfl,rfl⟩,⟨hl,h1,by omega,by omega⟩,fun z _ _=>⟨fun _ _=>⟨hl,fun _=>?_⟩,fun _=>⟨l,q+1,⟨⟨by omega,g2⟩,by omega,by omega⟩,rfl,⟨rfl,rfl⟩,rfl⟩⟩⟩,fun he=>⟨he,fun _=>⟨fun hl=>(by rw [he] at hl; simp at hl),fun _=>⟨l,q,⟨⟨by omega,g2⟩,by omega,by omega⟩,rfl,rfl,rfl⟩⟩⟩⟩⟩⟩
 ·have q1:Option.map ak owWords[b]? = some (ak owWords[b]):=by simp -implicitDefEqProofs [hb]
  have k1:=hs _ (List.getElem_mem hb);rw [q1];generalize owWords[b]=w at *;simp -implicitDefEqProofs [ak,D.asStr];refine ⟨_,_,⟨rfl,rfl⟩,⟨h1,by omega,by omega⟩,fun y=>⟨⟨by omega,by omega⟩,⟨by omega,by omega⟩,fun _ _=>⟨l++[⟨w,y⟩],q+1+1,b+1,⟨⟨(w6 _ _ _).symm,by omega⟩,⟨rfl,rfl⟩,w6 _ _ _⟩,⟨⟨by simp; omega,fun o ho=>?_⟩,by omega,by omega,by omega⟩,by omega⟩⟩⟩
  rcases List.mem_append.1 ho with ho | ho
  ·exact g2 o ho
  ·rw [List.mem_singleton.1 ho]; exact k1
 ·have q1:Option.map cf l[0]? = some (cf l[0]):=by simp -implicitDefEqProofs [hl]
  have k1:=g2 _ (List.getElem_mem hl);rw [q1];simp -implicitDefEqProofs [cf,hl];refine ⟨l.set 0 ⟨l[0].path,[]⟩,q+1,⟨⟨by simp; omega,fun o ho=>?_⟩,by omega,by omega⟩,(w5 _ _ _ _).symm,rfl,w5 _ _ _ _⟩
  rcases List.mem_or_eq_of_mem_set ho with ho | ho
  ·exact g2 o ho
  ·rw [ho]; exact k1
def jU (v:ReviewD):Prop:=v.yes.length<=4
def jQ:Con:={ A:=Str × Int,X:=ReviewD × Int,n:=44,args:=fun _=>[.ptr 0 0],boxes:=fun a=>[(0,111,[.sl true 1 (bR a.1),.int .i64 a.2])],pre:=fun a=>a.1.length<=2000/\0<=a.2/\a.2<=1073739900,post:=fun a x=>jU x.1/\a.2<=x.2/\x.2<=a.2+12,res:=fun _ x=>.agg [.str x.1.branch,.str x.1.into,.str x.1.by_,.own 8 1 (aa x.1.yes)],fin:=fun a x=>[(0,dD a.1 x.2),(8,.own 9 1 true (aa x.1.yes))],nob:=false,bty:=[111] }
def yesWords:List Str:=[[97,110,110],[98,111,98],[99,105,100]]
theorem Jt:Has Tryz.prog 40 jQ:=by
 refine ah mixed bK (HasL.cons pick_has (HasL.cons yM HasL.nil)) [0,2,3,4,5] ((fun a n (_:Nat)=>(fun a _=>⟨ReviewD × Int × Nat,fun t=>⟨[(0,true,.ptr 0 0),(2,true,.ptr 13 0),(3,true,.ptr 10 0),(4,true,.own 11 1 (aa yesWords)),(5,true,.int .i64 t.2.2)],[(0,dD a.1 t.2.1),(10,.box 38 [.str t.1.branch,.str t.1.into,.str t.1.by_,.own 9 1 (aa t.1.yes)]),(13,.box 38 [.str [],.str [],.str [],.nil]),(9,.own 9 1 true (aa t.1.yes)),(11,.own 9 1 true (aa yesWords))]⟩,fun t=>t.1.yes.length<=t.2.2/\t.2.2<=3/\a.2+3<=t.2.1/\t.2.1<=a.2+3+t.2.2,fun t=>3 - t.2.2⟩) a n)) [] Tryz.func40 (by unfold Tryz.f40; rfl) (fun a=>⟨((⟨[],[],[],[]⟩:ReviewD),a.2),Nat.zero_le _,Int.le_refl _,by omega⟩) ?_ (hbt:=.inr fun a=>⟨fun b hb=>(by simp only [jQ,List.mem_cons,List.not_mem_nil,or_false] at hb; subst hb; simp -implicitDefEqProofs [jQ]),fun x p hp ty vs e=>(by simp only [jQ,List.mem_cons,List.not_mem_nil,or_false] at hp; rcases hp with rfl | rfl <;> cases e <;> simp -implicitDefEqProofs [jQ])⟩)
 intro a ha;obtain ⟨s,p⟩:=a;obtain ⟨h1,h2,h3⟩:s.length<=2000/\0<=p/\p<=1073739900:=ha;simp (maxSteps:=8000000) -implicitDefEqProofs [-kStep_move,-Bool.exists_bool,jQ,ix,jP,eq,cOf,Con.fn,aV,ag,gR,clash,kd,de,f5];have hw:yesWords.length=3:=rfl;refine ⟨_,_,⟨rfl,rfl⟩,⟨h1,by omega,by omega⟩,fun y1=>⟨_,_,⟨rfl,rfl⟩,⟨h1,by omega,by omega⟩,fun y2=>⟨_,_,⟨rfl,rfl⟩,⟨h1,by omega,by omega⟩,fun y3=>⟨⟨⟨y1,y2,y3,[]⟩,p+1+1+1,0,⟨⟨rfl,rfl⟩,⟨⟨rfl,rfl⟩,rfl,rfl,rfl,rfl⟩,rfl,rfl⟩,Nat.zero_le _,by omega,by omega,by omega⟩,fun v q b g1 g2 g3 g4 _=>⟨fun hb=>⟨s,q,⟨rfl,rfl⟩,⟨h1,by omega,by omega⟩,fun z _ _=>⟨fun _=>⟨hb,fun _=>?_⟩,fun _=>⟨⟨by omega,by omega⟩,fun _ _=>⟨v,q+1,b+1,?_,?_⟩⟩⟩⟩,fun hb=>⟨s,q,⟨rfl,rfl⟩,⟨h1,by omega,by omega⟩,fun z _ _=>⟨fun _=>⟨⟨by omega,by omega⟩,?_⟩,fun _=>⟨v,q+1,⟨by show v.yes.length<=4; omega,by omega,by omega⟩,⟨rfl,rfl,rfl,rfl⟩,⟨rfl,rfl⟩,rfl⟩⟩⟩⟩⟩⟩⟩⟩
 ·have q1:Option.map ak yesWords[b]? = some (ak yesWords[b]):=by simp -implicitDefEqProofs [hb]
  rw [q1];generalize yesWords[b]=w at *;simp -implicitDefEqProofs [ak,D.asStr];exact ⟨⟨by omega,by omega⟩,⟨by omega,by omega⟩,fun _ _=>⟨⟨v.branch,v.into,v.by_,v.yes++[w]⟩,q+1,b+1,⟨by omega,⟨rfl,rfl,rfl,rfl,(aU _ _).symm⟩,aU _ _⟩,⟨by simp; omega,by omega,by omega,by omega⟩,by omega⟩⟩
 ·exact ⟨by omega,⟨⟨rfl,rfl⟩,rfl,rfl,rfl,rfl⟩,rfl⟩
 ·exact ⟨⟨by omega,by omega,by omega,by omega⟩,by omega⟩
 ·exact ⟨⟨v.branch,v.into,v.by_,v.yes++[[97,110,110]]⟩,q+1,⟨by show (v.yes++[[97,110,110]]).length<=4; simp; omega,by omega,by omega⟩,⟨rfl,rfl,rfl,(aU _ _).symm⟩,⟨rfl,rfl⟩,aU _ _⟩
def nt:Con:={ A:=Str,X:=RepoD × List OwnerD × ReviewD,n:=18,args:=fun s=>[.sl true 1 (bR s)],boxes:=fun _=>[],pre:=fun _=>True,post:=fun _ x=>fH x.1/\jT x.2.1/\jU x.2.2,res:=fun _ x=>.tup [.agg [.sl false 3 (az x.1.commits),.sl false 2 (ai x.1.heads)],.sl false 2 (aT x.2.1),.agg [.str x.2.2.branch,.str x.2.2.into,.str x.2.2.by_,.sl false 1 (aa x.2.2.yes)]],fin:=fun _ _=>[] }
theorem wU:Has Tryz.prog 14 nt:=by
 refine ah mixed bK (HasL.cons FX (HasL.cons Bd (HasL.cons HT (HasL.cons Jt HasL.nil)))) [0,2,3,4,5,6,7] ((fun a n (_:Nat)=>(fun _=>aw) a n)) [8191,12287] Tryz.func14 (by unfold Tryz.f14; rfl) (fun _=>⟨(noR,[],⟨[],[],[],[]⟩),lg mB,⟨Nat.zero_le _,by simp⟩,Nat.zero_le _⟩) ?_
 intro (s:Str) _;simp (maxSteps:=8000000) -implicitDefEqProofs [-kStep_move,-Bool.exists_bool,nt,qU,qh,rJ,jQ,Con.fn,aV,ag,gR,clash,kd,de,f5];have hl:(s.take 2000).length<=2000:=by simp; omega
 exact ⟨_,_,⟨rfl,rfl⟩,⟨hl,by omega,by omega⟩,fun r q g1 g2 g3=>⟨_,_,⟨rfl,rfl⟩,⟨hl,by omega,by omega⟩,fun o q2 g4 g5 g6=>⟨_,_,⟨rfl,rfl⟩,⟨hl,by omega,by omega⟩,fun v q3 g7 g8 g9=>⟨r,o,v,⟨g1,g4,g7⟩,⟨rfl,rfl⟩,rfl,rfl,rfl,rfl,rfl⟩⟩⟩⟩
def qu:Con:={ A:=Str,X:=RepoD × List OwnerD × ReviewD,n:=10,args:=fun s=>[.sl true 1 (bR s)],boxes:=fun _=>[],pre:=fun _=>True,post:=fun _ x=>fH x.1/\jT x.2.1/\jU x.2.2,res:=fun _ x=>.tup [.agg [.sl false 3 (az x.1.commits),.sl false 2 (ai x.1.heads)],.sl false 2 (aT x.2.1),.agg [.str x.2.2.branch,.str x.2.2.into,.str x.2.2.by_,.sl false 1 (aa x.2.2.yes)]],fin:=fun _ _=>[] }
theorem Dn:Has Tryz.prog 20 qu:=by
 refine ah mixed bK (HasL.cons wU HasL.nil) [0,2,3,4] ((fun a n (_:Nat)=>(fun _=>aw) a n)) [] Tryz.func20 (by unfold Tryz.f20; rfl) (fun _=>⟨(noR,[],⟨[],[],[],[]⟩),lg mB,⟨Nat.zero_le _,by simp⟩,Nat.zero_le _⟩) ?_
 intro (s:Str) _;simp (maxSteps:=8000000) -implicitDefEqProofs [-kStep_move,-Bool.exists_bool,qu,nt,Con.fn,aV,ag];exact fun r o v g1 g2 g3=>⟨r,o,v,⟨g1,g2,g3⟩,⟨rfl,rfl⟩,rfl,rfl,rfl,rfl,rfl⟩
end Vx
end Go.Proofs.YthgfdbfmnbgkaaaGreatDoor
set_option linter.unusedVariables false
set_option linter.unusedSimpArgs false
namespace Go.Proofs.YthgfdbfmnbgkaaaGreatDoor
namespace Vx
open Go.RowKit Go.Lib
theorem pm {P:Program} (k:Nat) (w:World) (dT sT ty elem:TypeId) (b o dLen dCap:Nat) (a:Addr) (sLen sCap:Nat) (cs:List Value)
  (hu:P.underlying dT=some (.slice elem)) (hs:(P.info? elem).map (·.size)=some k) (hn:cs.length=Nat.min sLen dLen * k)
  (hsrc:∀ (j:Nat) v,cs[j]? = some v->w.cell? (a.add j)=some v) (hc:∀ j,j < cs.length->(w.cell? ⟨b,o+j,none⟩).isSome=true) (hf:∀ j,j < cs.length->w.frozen? ⟨b,o+j,none⟩=false) (h1:∀ v ∈ cs,v.oneCell'=true) :
  (Builtin.copy_ #[dT,sT] ty #[.slice (some ⟨b,o,none⟩) dLen dCap,.slice (some a) sLen sCap]).run P w = .ok (goInt (Nat.min sLen dLen)) (w.setCells b o cs):=by
 have hl:=run_loadCells_list (P:=P) w a cs hsrc;have hst:=run_storeCells_cells (P:=P) b o cs 0 w (by simpa using hc) (by simpa using hf) h1
 cases hq:P.info? elem with
 | none=>simp [hq] at hs
 | some i =>
  have hi:i.size=k:=by simpa [hq] using hs
  simp [Builtin.copy_,run_underlying hu,Builtin.lenOf,Builtin.firstCells,sizeOf,typeInfo,hq,hi,<- hn,hl,hst]
theorem wp_copy_runI {P:Program} (w:World) {o:Oper} {a:Act} {K:Act->World->Prop} {Q:Exit->Act->World->Prop} (d s:Operand) (t t':TypeId)
  (ho:o.op = .call { callee:=.builtin .copy,args:=#[d,s],argTypes:=#[t,t'] }) (v u:Value) (hd:a.eval d=v) (hs:a.eval s=u) {v':Value} {w':World}
  (hr:(Builtin.copy_ #[t,t'] o.type #[v,u]).run P w = .ok v' w') (h:K (a.put o.dst v') w'):o.wp P a w K Q:=by
 unfold Oper.wp execOp;simp only [ho,resolve,invoke,builtin,Sem.run_bind,Sem.run_pure,Result.andThen_ok,List.map_toArray,List.map_cons,List.map_nil,hd,hs,hr];exact h
theorem wpList_copy_runI {P:Program} (w:World) {ops:Array Oper} {rest:List Oper} {o:Oper} {a:Act} {Q:Exit->Act->World->Prop} (hgd:o.guard=none) (d s:Operand) (t t':TypeId)
  (ho:o.op = .call { callee:=.builtin .copy,args:=#[d,s],argTypes:=#[t,t'] }) (v u:Value) (hd:a.eval d=v) (hs:a.eval s=u) {v':Value} {w':World}
  (hr:(Builtin.copy_ #[t,t'] o.type #[v,u]).run P w = .ok v' w') (h:wpList P ops Q rest (a.put o.dst v') w'):wpList P ops Q (o :: rest) a w :=
 wpList_plain hgd fun _ hK=>wp_copy_runI w d s t t' ho v u hd hs hr (hK _ _ h)
theorem step_copy_runI {P:Program} {ops:Array Oper} {o:Oper} {a:Act} {w:World} {K:Act->World->Prop} {Q:Exit->Act->World->Prop} {E:Prop}
  (hg:o.guard=none) (d x:Operand) (dT sT:TypeId) (hop:o.op=Op.call { callee:=Callee.builtin Builtin.copy,args:=#[d,x],argTypes:=#[dT,sT] })
  (v u:Value) (hd:a.eval d=v) (hx:a.eval x=u) {v':Value} {w':World} (hr:(Builtin.copy_ #[dT,sT] o.type #[v,u]).run P w = .ok v' w') (hK:K (a.put o.dst v') w') :
  if Region.wanted o (yielded ops a.tmps)=true then Oper.wp P o a w K Q else E:=by
 have hw:Region.wanted o (yielded ops a.tmps)=true:=by simp [Region.wanted,hg]
 rw [if_pos hw];unfold Oper.wp;simp [execOp,hop,resolve,invoke,builtin,hd,hx,hr,Result.andThen];exact hK
theorem xM (b:Nat) (vs:List Value) (o:Nat) (w:World) (h:∀ j,j < vs.length->(w.cell? ⟨b,o+j,none⟩).isSome=true) (k:Nat) (hk:(w.cell? ⟨b,k,none⟩).isSome=true):((w.setCells b o vs).cell? ⟨b,k,none⟩).isSome=true:=by
 by_cases hin:o<=k/\k < o+vs.length
 ·have:=World.cell?_setCells_in b vs o w h (k - o) (by omega)
  rw [show o+(k - o)=k by omega] at this
  rw [this]; rfl
 ·rw [World.cell?_setCells_out b vs o w ⟨b,k,none⟩ (fun _ _=>by show k < o \/ o+vs.length<=k; omega)]
  exact hk
end Vx
end Go.Proofs.YthgfdbfmnbgkaaaGreatDoor
namespace Go.Proofs.YthgfdbfmnbgkaaaGreatDoor
namespace Vx
open Go.RowKit
theorem HF {c:Cx} {s:St} {a:Act} {w:World} {β:Nat->Value} {fp:Nat->List (Nat × Nat)} (S:SatI c s a w β fp) (hp:c.pins=[]) {e k:Nat} {R:List (List D)} (h8:s.m 8=some (.own e k true R)) :
  ∃ a',SatI c ⟨fun _=>none,ae [(8,.own e k true R)]⟩ a' w β fp/\RelL w (ae [(8,.own e k true R)]) β c [.own 8 k R] [β 8]:=by
 have hb:BlkOk w (ae [(8,Blk.own e k true R)]) β c 8 (fp 8) (.own e k true R):=by
  obtain ⟨p1,p2,p3⟩:=S.mem 8 _ h8;refine ⟨p1,p2,?_⟩;rcases p3 with p3 | ⟨b',cap,cs,f0,r1,r2,r3,r4,r5,r6,r7,r8⟩
  ·exact .inl p3
  ·exact .inr ⟨b',cap,cs,f0,r1,r2,r3,r4,r5,r6,r7,by simp⟩
 refine ⟨⟨Array.replicate c.n undef,[]⟩,⟨?_,?_,?_,?_,?_,S.fg,S.old,S.os,S.tape,S.output,S.size,rfl,by simp,by simp [hp]⟩,?_⟩
 ·intro t g av h; cases h
 ·intro h blk hm; obtain ⟨rfl,rfl⟩:=dA hm; exact hb
 ·intro h blk hm; obtain ⟨rfl,rfl⟩:=dA hm; exact S.nodup 8 _ h8
 ·intro h h' blk blk' hm hm' hne; obtain ⟨rfl,rfl⟩:=dA hm; obtain ⟨rfl,rfl⟩:=dA hm'; exact absurd rfl hne
 ·intro h blk hm x hx; obtain ⟨rfl,rfl⟩:=dA hm; exact S.free 8 _ h8 x hx
 ·exact gE (h:=8) (fps:=fp) rfl hb (S.nodup 8 _ h8) (fun h' blk' hm hne=>by obtain ⟨rfl,rfl⟩:=dA hm; exact absurd rfl hne) (S.free 8 _ h8)
theorem pH {w:World} {b:Nat} {cs:Array Value} {ty:Nat} {n:Nat} (h:w.heap[b]? = some (.cells cs ty (0,0))):∀ (j:Nat) v,(cs.toList.take n)[j]? = some v->w.cell? ⟨b,j,none⟩=some v:=by
 intro j v hj;rw [World.cell_of h];rw [List.getElem?_take] at hj;split at hj
 ·simpa using hj
 ·cases hj
theorem EE {L olds news R:List Value} {i n:Nat} (hLl:(n+1) * 2<=L.length) (ho:olds.length=n * 2) (hn:news.length=2) (hi:i<=n) (hL:L.take (i * 2)=olds.take (i * 2)) :
  (((L.take ((i+1) * 2)++(olds.drop (i * 2)++R)).take (i * 2))++(news++((L.take ((i+1) * 2)++(olds.drop (i * 2)++R)).drop (i * 2+news.length)))).take ((n+1) * 2)=olds.take (i * 2)++(news++olds.drop (i * 2)):=by
 have hl:(L.take ((i+1) * 2)).length=(i+1) * 2:=by rw [List.length_take]; omega
 have a1:(L.take ((i+1) * 2)++(olds.drop (i * 2)++R)).take (i * 2)=olds.take (i * 2):=by rw [List.take_append_of_le_length (by omega),List.take_take,Nat.min_eq_left (by omega),hL]
 have a2:(L.take ((i+1) * 2)++(olds.drop (i * 2)++R)).drop (i * 2+news.length)=olds.drop (i * 2)++R:=List.drop_left' (by omega)
 rw [a1,a2];rw [show olds.take (i * 2)++(news++(olds.drop (i * 2)++R))=(olds.take (i * 2)++(news++olds.drop (i * 2)))++R by simp]
 exact List.take_left' (by simp only [List.length_append,List.length_take,List.length_drop]; omega)
theorem EF {L olds news R:List Value} {i n m:Nat} (hLl:(n+1) * 2<=L.length) (ho:olds.length=n * 2) (hn:news.length=2) (hi:i<=n) (hL:L.take (i * 2)=olds.take (i * 2)) :
  (((L.take (i * 2)++(news++L.drop m)).take ((i+1) * 2))++(olds.drop (i * 2)++R)).take ((n+1) * 2)=olds.take (i * 2)++(news++olds.drop (i * 2)):=by
 have hl:(L.take (i * 2)).length=i * 2:=by rw [List.length_take]; omega
 have a1:(L.take (i * 2)++(news++L.drop m)).take ((i+1) * 2)=olds.take (i * 2)++news:=by
  rw [<- List.append_assoc,hL];rw [hL] at hl;exact List.take_left' (by rw [List.length_append]; omega)
 rw [a1];rw [show (olds.take (i * 2)++news)++(olds.drop (i * 2)++R)=(olds.take (i * 2)++(news++olds.drop (i * 2)))++R by simp]
 exact List.take_left' (by simp only [List.length_append,List.length_take,List.length_drop]; omega)
end Vx
end Go.Proofs.YthgfdbfmnbgkaaaGreatDoor
namespace Go.Proofs.YthgfdbfmnbgkaaaGreatDoor
set_option maxHeartbeats 4000000
namespace Vx
open Go.RowKit Go.Lib
set_option maxRecDepth 100000 in
theorem EB (b n c i vb m vc:Nat) (cs vs:List Value) (w:World) (hi:i < n) (hm:0 < m) (hroom:n+m<=c) (hc63:c<=9223372036854775807) (hvb:vb ≠ b)
  (hcl:cs.length=n * 2) (hvl:vs.length=m * 2)
  (hcs:∀ (j:Nat) v,cs[j]? = some v->w.cell? ⟨b,j,none⟩=some v) (hsp:∀ j,j < (n+m) * 2->(w.cell? ⟨b,j,none⟩).isSome=true) (hfz:∀ j,j < (n+m) * 2->w.frozen? ⟨b,j,none⟩=false)
  (hvs:∀ (j:Nat) v,vs[j]? = some v->w.cell? ⟨vb,j,none⟩=some v) (h1c:∀ v ∈ cs,v.oneCell'=true) (h1v:∀ v ∈ vs,v.oneCell'=true)
  (tA tB:TypeId) (kA kB:Nat) (hsa:w.shape? vb=some (tA,kA)) (hsb:w.shape? b=some (tB,kB)) (hkB:kB ≠ 0) (hfa:w.frozen? ⟨vb,0,none⟩=false) (hfe:w.frozen? ⟨vb,kA,none⟩=false) :
  Calls Tryz.prog 225 #[.slice (some ⟨b,0,none⟩) n c,.int .i64 i,.slice (some ⟨vb,0,none⟩) m vc] w fun e w' =>
   e = .returned (.slice (some ⟨b,0,none⟩) (n+m) c)/\w'=(w.drew.setCells b ((i+m) * 2) (cs.drop (i * 2))).setCells b (i * 2) vs:=by
 have hz1:¬ ((m:Int)=0):=by omega
 have hz2:¬ ((i:Int)=(n:Int)):=by omega
 have hsz:(Tryz.prog.info? 96).map (·.size)=some 2:=by kernel_rfl
 have hov:∀ lb cb,(callFunc 260 #[.slice (some ⟨vb,0,none⟩) m vc,.slice (some ⟨b,(i+m) * 2,none⟩) lb cb]).run Tryz.prog w = .ok (.value (.bool false)) w:=fun lb cb=>by
  rw [run_callFunc_extern Tryz.func260 (by kernel_rfl) (by kernel_rfl) (by kernel_rfl) (e:=Extern.SlicesOverlaps.overlaps #[33,33] #[4]) (by kernel_rfl),
   Lib.run_overlaps_apart w 33 4 96 Tryz.underlying33 2 Tryz.sizeOf96 ⟨vb,0,none⟩ ⟨b,(i+m) * 2,none⟩ m vc lb cb hvb tA tB kA kB hsa hsb hkB hfa hfe]
  rfl
 have hdl:(cs.drop (i * 2)).length=(n - i) * 2:=by rw [List.length_drop,hcl]; omega
 have mixed:Tryz.prog.follows .mixedOrders=true:=mixed;have hw1:IntKind.i64.wrap ((i:Int)+(m:Int))=(i:Int)+(m:Int):=by rw [IntKind.wrap_i64]; omega
 have hb1:(0:Int)<=(i:Int)+(m:Int):=by omega
 have hin:i<=n:=by omega
 have htn:((i:Int)+(m:Int)).toNat=i+m:=by omega
 have hb2:¬ (c=i+m):=by omega
 have hb3:(i:Int)<=(n:Int)+(m:Int):=by omega
 have hb4:¬ (c=i):=by omega
 have hcp1:∀ ty dc sc,(Builtin.copy_ #[33,33] ty #[.slice (some ⟨b,(i+m) * 2,none⟩) (n+m - (i+m)) dc,.slice (some ⟨b,i * 2,none⟩) (n+m - i) sc]).run Tryz.prog w.drew = .ok (goInt (Nat.min (n+m - i) (n+m - (i+m)))) (w.drew.setCells b ((i+m) * 2) (cs.drop (i * 2))):=fun ty dc sc =>
  pm 2 w.drew _ _ ty 96 b ((i+m) * 2) (n+m - (i+m)) dc ⟨b,i * 2,none⟩ (n+m - i) sc (cs.drop (i * 2)) Tryz.underlying33 hsz (by rw [hdl]; simp only [Nat.min_def]; split <;> omega)
   (fun j v hj=>by rw [Addr.add_lit]; exact hcs (i * 2+j) v (by rwa [List.getElem?_drop] at hj))
   (fun j hj=>hsp _ (by omega)) (fun j hj=>hfz _ (by omega)) (fun v hv=>h1c v (List.mem_of_mem_drop hv))
 obtain ⟨W1,hW1⟩:∃ W1,W1=w.drew.setCells b ((i+m) * 2) (cs.drop (i * 2)):=⟨_,rfl⟩;have hsp1:∀ k,k < (n+m) * 2->(W1.cell? ⟨b,k,none⟩).isSome=true:=fun k hk=>by
  rw [hW1];exact xM b (cs.drop (i * 2)) ((i+m) * 2) w.drew (fun j hj=>hsp _ (by omega)) _ (hsp k hk)
 have hcp2:∀ (W:World),(∀ x,W.cell? x=W1.cell? x)->(∀ x,W.frozen? x=W1.frozen? x) -> ∀ ty dc,(Builtin.copy_ #[33,33] ty #[.slice (some ⟨b,i * 2,none⟩) (n+m - i) dc,.slice (some ⟨vb,0,none⟩) m vc]).run Tryz.prog W = .ok (goInt (Nat.min m (n+m - i))) (W.setCells b (i * 2) vs):=fun W hWc hWf ty dc =>
  pm 2 W _ _ ty 96 b (i * 2) (n+m - i) dc ⟨vb,0,none⟩ m vc vs Tryz.underlying33 hsz (by rw [hvl]; simp only [Nat.min_def]; split <;> omega)
   (fun j v hj=>by
    rw [Addr.add_lit,Nat.zero_add,hWc,hW1,World.cell?_setCells_out b _ _ _ _ (fun h _=>absurd h hvb)];exact hvs j v hj)
   (fun j hj=>by rw [hWc]; exact hsp1 _ (by omega)) (fun j hj=>by rw [hWf,hW1,World.frozen?_setCells]; exact hfz _ (by omega)) h1v
 rw [<- hW1] at hcp1
 go_enter Tryz.func225,Tryz.ntmps225
 go_wp2_with (simp only [hov])
 go_region_law_o (refine step_copy_runI rfl _ _ 33 33 rfl _ _ (by simp [Act.eval,Act.put]) (by simp [Act.eval,Act.put]) (hcp1 _ _ _) ?_)
 go_wp2_with (at_builtin; refine wpList_copy_runI _ rfl _ _ 33 33 rfl _ _ rfl rfl (hcp2 _ (fun _=>rfl) (fun _=>rfl) _ _) ?_)
 go_ret
 first | exact ⟨rfl,rfl⟩ | exact ⟨rfl,by rw [hW1]⟩
set_option maxRecDepth 100000 in
theorem xL (v1 v2:Value) (base:Option Addr) (n c vb m vc:Nat) (w w':World) (v':Value) (hm:0 < m) (h1:v1 = .slice base n c) (hn:n<=c) (hb:base=none->c=0) (h2:v2 = .slice (some ⟨vb,0,none⟩) m vc)
  (hrun:(Builtin.append_ #[33,33] 33 #[v1,v2]).run Tryz.prog w = .ok v' w') :
  Calls Tryz.prog 225 #[v1,.int .i64 n,v2] w fun e w1=>e = .returned v'/\w1=w':=by
 subst h1 h2;have hz1:¬ ((m:Int)=0):=by omega
 have mixed:Tryz.prog.follows .mixedOrders=true:=mixed
 go_enter Tryz.func225,Tryz.ntmps225
 cases base with
 | none =>
  have h0:=hb rfl;have h00:n=0:=by omega
  subst h0 h00
  go_wp2_with (at_builtin; refine Lib.wpList_append_run _ rfl _ _ _ _ rfl _ _ rfl rfl _ _ hrun ?_)
  go_ret
  exact ⟨rfl,rfl⟩
 | some a =>
  obtain ⟨ab,ao,asp⟩:=a
  go_wp2_with (at_builtin; refine Lib.wpList_append_run _ rfl _ _ _ _ rfl _ _ rfl rfl _ _ hrun ?_)
  all_goals (go_ret; exact ⟨rfl,rfl⟩)
set_option maxRecDepth 100000 in
theorem Ez (b n c i vb m vc:Nat) (cs vs:List Value) (w:World) (hi:i < n) (hm:0 < m) (hnc:n<=c) (hroom:c < n+m) (hbig:(n+m) * 24<=140737488355328)
  (hcl:cs.length=n * 2) (hvl:vs.length=m * 2)
  (hcs:∀ (j:Nat) v,cs[j]? = some v->w.cell? ⟨b,j,none⟩=some v)
  (hvs:∀ (j:Nat) v,vs[j]? = some v->w.cell? ⟨vb,j,none⟩=some v) (h1c:∀ v ∈ cs,v.oneCell'=true) (h1v:∀ v ∈ vs,v.oneCell'=true) :
  Calls Tryz.prog 225 #[.slice (some ⟨b,0,none⟩) n c,.int .i64 i,.slice (some ⟨vb,0,none⟩) m vc] w fun e w' =>
   e = .returned (.slice (some ⟨w.heap.size,0,none⟩) (n+m) (grownCap w (n+m) c 96)) /\
   w'=(((w.alloc (.cells ((cs.take (i * 2)).toArray++Builtin.zeroCells #[.string ⟨#[]⟩,.int .i64 0] (n+m - i)++Builtin.zeroCells #[.string ⟨#[]⟩,.int .i64 0] (grownCap w (n+m) c 96 - (n+m))) 96)).drew.setCells w.heap.size (i * 2) vs).drew).setCells w.heap.size ((i+m) * 2) (cs.drop (i * 2)):=by
 have mixed:Tryz.prog.follows .mixedOrders=true:=mixed;obtain ⟨i0,hi0,hz0,hzs,hzb⟩:∃ i0,Tryz.prog.info? 96=some i0/\i0.zero=some (.agg #[.string ⟨#[]⟩,.int .i64 0])/\i0.size=2/\i0.bytes=24 :=
  info_parts (show (Tryz.prog.info? 96).map (fun i=>(i.zero,i.size,i.bytes))=some (some (.agg #[.string ⟨#[]⟩,.int .i64 0]),2,24) by kernel_rfl)
 have hz1:¬ ((m:Int)=0):=by omega
 have hz2:¬ ((i:Int)=(n:Int)):=by omega
 have hz3:(c:Int) < (n:Int)+(m:Int):=by omega
 have hsz:(Tryz.prog.info? 96).map (·.size)=some 2:=by rw [hi0]; simp [hzs]
 have hbw:b < w.heap.size:=block_lt_of_cell (hcs 0 _ (List.getElem?_eq_getElem (by omega)))
 have hvw:vb < w.heap.size:=block_lt_of_cell (hvs 0 _ (List.getElem?_eq_getElem (by omega)))
 have hkk:(n:Int)+(m:Int) - (i:Int)=((n+m - i:Nat):Int):=by omega
 have hik:i+(n+m - i)=n+m:=by omega
 have hold:(Builtin.firstCells i0.size i (.slice (some ⟨b,0,none⟩) i c)).run Tryz.prog w.drew = .ok (cs.take (i * 2)).toArray w.drew:=by
  rw [hzs];exact run_firstCells_some w.drew 2 i ⟨b,0,none⟩ i c (cs.take (i * 2)) (by rw [List.length_take]; omega) (fun j v hj=>by
   rw [Addr.add_lit];rw [List.getElem?_take] at hj;split at hj
   ·rw [Nat.zero_add]; exact hcs j v hj
   ·cases hj)
 have hrz:∀ ty,(Builtin.append_ #[33,3] ty #[.slice (some ⟨b,0,none⟩) i c,.int .i64 ((n:Int)+(m:Int) - (i:Int))]).run Tryz.prog w =
   .ok (.slice (some ⟨w.heap.size,0,none⟩) (n+m) (grownCap w (n+m) c 96)) (w.drew.alloc (.cells ((cs.take (i * 2)).toArray++Builtin.zeroCells #[.string ⟨#[]⟩,.int .i64 0] (n+m - i)++Builtin.zeroCells #[.string ⟨#[]⟩,.int .i64 0] (grownCap w (n+m) c 96 - (n+m))) 96)):=fun ty=>by
  have h:=Lib.run_append_grow_zeros w 33 3 ty 96 i0 _ .i64 .i64 Tryz.underlying33 Tryz.underlying3 hi0 hz0 (some ⟨b,0,none⟩) i c (cs.take (i * 2)) hold (n+m - i) (by omega) (by omega) (by omega) (by omega) (by rw [hzb]; omega) (by rw [hzb,hik]; exact growslice_fits hroom hbig)
  rw [hik] at h;rw [hkk];exact h
 obtain ⟨G,hG⟩:∃ G,G=grownCap w (n+m) c 96:=⟨_,rfl⟩;obtain ⟨ROW,hROW⟩:∃ ROW:Array Value,ROW=(cs.take (i * 2)).toArray++Builtin.zeroCells #[.string ⟨#[]⟩,.int .i64 0] (n+m - i)++Builtin.zeroCells #[.string ⟨#[]⟩,.int .i64 0] (G - (n+m)):=⟨_,rfl⟩;rw [<- hG] at hrz ⊢;rw [<- hROW] at hrz ⊢;have hRl:(n+m) * 2<=ROW.size:=by
  rw [hROW];simp [Builtin.zeroCells];omega
 obtain ⟨W1,hW1⟩:∃ W1,W1=w.drew.alloc (.cells ROW 96):=⟨_,rfl⟩;rw [<- hW1] at hrz;have hN:∀ j,j < (n+m) * 2->(W1.cell? ⟨w.heap.size,j,none⟩).isSome=true:=fun j hj=>by rw [hW1,World.cell?_alloc_at (w:=w.drew) ROW _ w.heap.size j rfl,Array.getElem?_eq_getElem (by omega)]; rfl
 have hNf:∀ j,W1.frozen? ⟨w.heap.size,j,none⟩=false:=fun j=>by rw [hW1]; exact World.frozen?_alloc_at (w:=w.drew) ROW _ w.heap.size j rfl
 have hOb:∀ j v,w.cell? ⟨b,j,none⟩=some v->W1.cell? ⟨b,j,none⟩=some v:=fun j v h=>by rw [hW1,World.cell?_alloc_past (w:=w.drew) _ b j hbw]; exact h
 have hOv:∀ j v,w.cell? ⟨vb,j,none⟩=some v->W1.cell? ⟨vb,j,none⟩=some v:=fun j v h=>by rw [hW1,World.cell?_alloc_past (w:=w.drew) _ vb j hvw]; exact h
 have hcpA:∀ (W:World),(∀ x,W.cell? x=W1.cell? x)->(∀ x,W.frozen? x=W1.frozen? x) -> ∀ ty dc,(Builtin.copy_ #[33,33] ty #[.slice (some ⟨w.heap.size,i * 2,none⟩) (n+m - i) dc,.slice (some ⟨vb,0,none⟩) m vc]).run Tryz.prog W = .ok (goInt (Nat.min m (n+m - i))) (W.setCells w.heap.size (i * 2) vs):=fun W hWc hWf ty dc =>
  pm 2 W _ _ ty 96 w.heap.size (i * 2) (n+m - i) dc ⟨vb,0,none⟩ m vc vs Tryz.underlying33 hsz (by rw [hvl]; simp only [Nat.min_def]; split <;> omega)
   (fun j v hj=>by rw [Addr.add_lit,Nat.zero_add,hWc]; exact hOv _ v (hvs j v hj))
   (fun j hj=>by rw [hWc]; exact hN _ (by omega)) (fun j hj=>by rw [hWf]; exact hNf _) h1v
 have hGn:n+m<=G:=by rw [hG]; exact grownCap_ge w _ _ _
 have hG63:G<=9223372036854775807:=by
  have:=grownCap_le_maxLen w (n+m) c 96 (by unfold maxLen; omega)
  rw [<- hG] at this;unfold maxLen at this;omega
 have hGi:¬ (G=i):=by omega
 have hGim:¬ (G=i+m):=by omega
 have hci:¬ (c=i):=by omega
 have hbN:b ≠ w.heap.size:=by omega
 have hdl:(cs.drop (i * 2)).length=(n - i) * 2:=by rw [List.length_drop,hcl]; omega
 have hcpB:∀ (W:World),(∀ x,W.cell? x=(W1.setCells w.heap.size (i * 2) vs).cell? x)->(∀ x,W.frozen? x=(W1.setCells w.heap.size (i * 2) vs).frozen? x) -> ∀ ty dc sc,(Builtin.copy_ #[33,33] ty #[.slice (some ⟨w.heap.size,(i+m) * 2,none⟩) (n+m - (i+m)) dc,.slice (some ⟨b,i * 2,none⟩) (n - i) sc]).run Tryz.prog W = .ok (goInt (Nat.min (n - i) (n+m - (i+m)))) (W.setCells w.heap.size ((i+m) * 2) (cs.drop (i * 2))):=fun W hWc hWf ty dc sc =>
  pm 2 W _ _ ty 96 w.heap.size ((i+m) * 2) (n+m - (i+m)) dc ⟨b,i * 2,none⟩ (n - i) sc (cs.drop (i * 2)) Tryz.underlying33 hsz (by rw [hdl]; simp only [Nat.min_def]; split <;> omega)
   (fun j v hj=>by
    rw [Addr.add_lit,hWc,World.cell?_setCells_out _ _ _ _ _ (fun h _=>absurd h hbN)];exact hOb _ v (hcs (i * 2+j) v (by rwa [List.getElem?_drop] at hj)))
   (fun j hj=>by rw [hWc]; exact xM w.heap.size vs (i * 2) W1 (fun t ht=>hN _ (by omega)) _ (hN _ (by omega)))
   (fun j hj=>by rw [hWf,World.frozen?_setCells]; exact hNf _) (fun v hv=>h1c v (List.mem_of_mem_drop hv))
 subst hW1;have hE1:∀ x,((w.alloc (.cells ROW 96)).drew).cell? x=(w.drew.alloc (.cells ROW 96)).cell? x:=fun x=>rfl;have hE2:∀ x,((w.alloc (.cells ROW 96)).drew).frozen? x=(w.drew.alloc (.cells ROW 96)).frozen? x:=fun x=>rfl;have hF1:∀ x,(((w.alloc (.cells ROW 96)).drew.setCells w.heap.size (i * 2) vs).drew).cell? x=((w.drew.alloc (.cells ROW 96)).setCells w.heap.size (i * 2) vs).cell? x:=fun x=>rfl;have hF2:∀ x,(((w.alloc (.cells ROW 96)).drew.setCells w.heap.size (i * 2) vs).drew).frozen? x=((w.drew.alloc (.cells ROW 96)).setCells w.heap.size (i * 2) vs).frozen? x:=fun x=>rfl;have hw1:IntKind.i64.wrap ((i:Int)+(m:Int))=(i:Int)+(m:Int):=by rw [IntKind.wrap_i64]; omega
 have hb1:(0:Int)<=(i:Int)+(m:Int):=by omega
 have hin:i<=n:=by omega
 have htn:((i:Int)+(m:Int)).toNat=i+m:=by omega
 have hb3:(i:Int)<=(n:Int):=by omega
 clear hkk hik hold hROW hG hRl
 go_enter Tryz.func225,Tryz.ntmps225
 go_wp2_with (first
  | (at_builtin; refine Lib.wpList_append_run _ rfl _ _ _ _ rfl _ _ rfl rfl _ _ (hrz _) ?_)
  | (at_builtin; refine wpList_copy_runI _ rfl _ _ 33 33 rfl _ _ rfl rfl (hcpA _ hE1 hE2 _ _) ?_)
  | (at_builtin; refine wpList_copy_runI _ rfl _ _ 33 33 rfl _ _ rfl rfl (hcpB _ (fun _=>rfl) (fun _=>rfl) _ _ _) ?_))
 go_region_law_o (refine step_copy_runI rfl _ _ 33 33 rfl (.slice (some ⟨w.heap.size,(i+m) * 2,none⟩) (n+m - (i+m)) (G - (i+m))) (.slice (some ⟨b,i * 2,none⟩) (n - i) (c - i)) (by simp [Act.eval,Act.put]) (by simp [Act.eval,Act.put]) (hcpB _ hF1 hF2 3 (G - (i+m)) (c - i)) ?_)
 go_wp2
 go_ret
 exact ⟨rfl,rfl⟩
def eQ (l:List HeadD) (i:Nat) (f:HeadD):List HeadD:=l.take i++(f :: l.drop i)
theorem Dt (l:List HeadD) (i:Nat) (f:HeadD):(ai l).take i++(ai [f]++(ai l).drop i)=ai (eQ l i f):=by simp [ai,eQ,List.map_take,List.map_drop]
def cInsH:Con:={ A:=List HeadD × Nat × HeadD,X:=Unit,n:=95,args:=fun a=>[.own 0 2 (ai a.1),.int .i64 a.2.1,.own 1 2 (ai [a.2.2])],boxes:=fun _=>[],pre:=fun a=>a.2.1<=a.1.length/\a.1.length<=1048576,post:=fun _ _=>True,res:=fun a _=>.own 8 2 (ai (eQ a.1 a.2.1 a.2.2)),fin:=fun a _=>[(8,.own 96 2 true (ai (eQ a.1 a.2.1 a.2.2)))],owns:=fun a=>[(0,96,2,ai a.1),(1,96,2,ai [a.2.2])],mv:=true }
theorem EA:Has Tryz.prog 225 cInsH:=by
 refine ⟨fun args w=>Go.MuLone.run_callFunc_enter Tryz.func225 (by kernel_rfl) rfl args w,fun _=>⟨(),trivial⟩,fun _ _=>rfl,?_,trivial,.inl rfl⟩
 rintro ⟨l,i,f⟩ ⟨h1,h2⟩ c _ vs β fp hn hpin hlen hlen2 S;replace h1:i<=l.length:=h1;replace h2:l.length<=1048576:=h2;have hp:c.pins=[]:=hpin;have hr:=pr hlen S;obtain ⟨v0,vs1,rfl,r0,hr⟩:=hr.uncons;obtain ⟨v1,vs2,rfl,r1,hr⟩:=hr.uncons;obtain ⟨v2,vs3,rfl,r2,hr⟩:=hr.uncons;cases hr;have m0:(cInsH.start2 (l,i,f)).m 0=some (.own 96 2 true (ai l)):=rfl;have m1:(cInsH.start2 (l,i,f)).m 1=some (.own 96 2 true (ai [f])):=rfl;have m8:(cInsH.start2 (l,i,f)).m 8=none:=rfl;have e0:v0 = β 0:=by cases r0 with | own _ _ h3 _=>exact (h3 _ _ _ _ m0).1
 have e2:v2 = β 1:=by cases r2 with | own _ _ h3 _=>exact (h3 _ _ _ _ m1).1
 have e1:v1 = .int .i64 i:=by cases r1; rfl
 subst e1;obtain ⟨_,hR1,B1⟩:=S.mem 1 _ m1;rcases B1 with ⟨_,hc,_⟩ | ⟨b1,cap1,cs1,f1,q1,q2,q3,q4,q5,q6,q7,_⟩
 ·simp [ai] at hc
 have q7:=q7 rfl;have hl1:(ai [f]).length=1:=rfl;rw [hl1] at q1 q3 q6;have hm1:(ai [f]).flatten=aW f:=by simp [ai]
 have fin:∀ {v':Value} {w':World},(∃ β' fp' a',SatI c ⟨fun _=>none,ae [(8,.own 96 2 true (ai (eQ l i f)))]⟩ a' w' β' fp'/\RelL w' (ae [(8,.own 96 2 true (ai (eQ l i f)))]) β' c [.own 8 2 (ai (eQ l i f))] [v']) ->
   ∃ x,cInsH.post (l,i,f) x /\ ∃ v,Ending.returned v'=Ending.returned v /\ ∃ β' fp' a',SatI c (cInsH.end_ (l,i,f) x) a' w' β' fp'/\RelL w' (ae (cInsH.fin (l,i,f) x)) β' c [cInsH.res (l,i,f) x] [v] :=
  fun ⟨β',fp',a',g1,g2⟩=>⟨(),trivial,_,rfl,β',fp',a',g1,g2⟩
 by_cases hin:i=l.length
 ·-- at the end
  have hap:=vW (P:=Tryz.prog) ap S (ty:=33) (d:=8) (K:=fun av m=>av = .own 8 2 (ai l++ai [f])/\m 8=some (.own 96 2 true (ai l++ai [f]))) (t:=33) (t2:=33) r0 r2 (by
   simp -implicitDefEqProofs [cInsH,show ai [f]=[aW f] from rfl,aW,nZ,fL,fy,ag,aY,AV.base,AV.moved,m0,m1,m8,TI.flat,jI]
   omega)
  obtain ⟨v',w',av,m,β',fp',g1,⟨rfl,hm8⟩,g3,g4⟩:=hap;have hins:ai l++ai [f]=ai (eQ l i f):=by subst hin; simp [ai,eQ]
  have hlast:=HF g3 hp (e:=96) (k:=2) (R:=ai l++ai [f]) hm8;obtain ⟨a',s1,s2⟩:=hlast;have hv:v' = β' 8:=by cases g4 with | own _ _ h3 _=>exact (h3 96 2 true (ai l++ai [f]) hm8).1
  rw [<- hv] at s2;rw [hins] at s1 s2;have hcall:Calls Tryz.prog 225 #[v0,.int .i64 i,v2] c.w0 fun e w1=>e = .returned v'/\w1=w':=by
   obtain ⟨_,_,B0⟩:=S.mem 0 _ m0;subst hin;rcases B0 with ⟨p1,p2,p3⟩ | ⟨b,cap,cs,f0,p1,p2,p3,p4,p5,p6,p7,_⟩
   ·have:l=[]:=by cases l with | nil=>rfl | cons=>simp [ai] at p2
    subst this;exact xL v0 v2 none 0 0 b1 1 cap1 c.w0 w' v' (by omega) (by rw [e0,p1]) (by omega) (by simp) (by rw [e2,q1]) g1
   ·rw [eHeads_length] at p1 p3;exact xL v0 v2 (some ⟨b,0,none⟩) l.length cap b1 1 cap1 c.w0 w' v' (by omega) (by rw [e0,p1]) p3 (by simp) (by rw [e2,q1]) g1
  refine hcall.mono ?_;rintro e w1 ⟨rfl,rfl⟩;exact fin ⟨β',fp',a',s1,s2⟩
 ·have hlt:i < l.length:=by omega
  obtain ⟨_,hR0,B0⟩:=S.mem 0 _ m0;rcases B0 with ⟨_,p2,_⟩ | ⟨b,cap,cs,f0,p1,p2,p3,p4,p5,p6,p7,_⟩
  ·exfalso;have:l.length=0:=by rw [<- eHeads_length,p2]; rfl
   omega
  have p7:=p7 rfl;rw [eHeads_length] at p1 p3 p6;have hcsl:cs.toList.length=cap * 2:=by rw [Array.length_toList,p5]
  have hcsl1:cs1.toList.length=cap1 * 2:=by rw [Array.length_toList,q5]
  have hcl:(cs.toList.take (l.length * 2)).length=l.length * 2:=by rw [List.length_take,hcsl]; omega
  have hvl:(cs1.toList.take (1 * 2)).length=1 * 2:=by rw [List.length_take,hcsl1]; omega
  have hvb:b1 ≠ b:=fun e=>S.disj 0 1 _ _ m0 m1 (by decide) b (by simp [Ob,p1]) (by simp [Ob,q1,e])
  have hI:=fun {w':World} {b' cap':Nat} {cs':Array Value} hblk hcap hmax hsz hcells hb' hother hsize hos htape hout =>
   EG (w':=w') (b':=b') (cap':=cap') (cs':=cs') (i:=i) S hp m0 m1 (by rw [eHeads_length]; exact h1) (by rw [p7]; exact p6) (by rw [q7]; exact q6) hblk hcap hmax hsz hcells hb' hother hsize hos htape hout
  rw [eHeads_length,hl1] at hI;rw [Dt] at hI;have hother0:∀ x,(∀ n cc,β 0 ≠ .slice (some ⟨x,0,none⟩) n cc)->x ≠ b:=fun x h e=>h l.length cap (by rw [e]; exact p1)
  by_cases hroom:l.length+1<=cap
  ·have hcall:=EB b l.length cap i b1 1 cap1 (cs.toList.take (l.length * 2)) (cs1.toList.take (1 * 2)) c.w0 hlt (by omega) hroom (by unfold maxLen at p4; omega) hvb hcl hvl (pH p2)
    (fun j hj=>by rw [World.cell_of p2,Array.getElem?_eq_getElem (show j < cs.size by omega)]; rfl) (fun j hj=>by simp [World.frozen?,p2]) (pH q2) p6.oneCell q6.oneCell
    _ _ _ _ (by simp [World.shape?,q2]; exact ⟨rfl,rfl⟩) (by simp [World.shape?,p2]; exact ⟨rfl,rfl⟩) (by rw [p5]; omega) (by simp [World.frozen?,q2]) (by simp [World.frozen?,q2])
   rw [e0,e2,p1,q1];refine hcall.mono ?_;rintro e w' ⟨rfl,rfl⟩;have hcs:cs=cs.toList.toArray:=by simp
   have hb0:c.w0.drew.heap[b]? = some (.cells cs.toList.toArray 96 (0,0)):=by rw [<- hcs]; exact p2
   have hdl:((cs.toList.take (l.length * 2)).drop (i * 2)).length=(l.length - i) * 2:=by rw [List.length_drop,hcl]; omega
   obtain ⟨z1,z2,z3,z4,z5,z6⟩:=iL b ((cs.toList.take (l.length * 2)).drop (i * 2)) ((i+1) * 2) c.w0.drew cs.toList _ _ hb0 (by rw [hdl,hcsl]; omega)
   obtain ⟨y1,y2,y3,y4,y5,y6⟩:=iL b (cs1.toList.take (1 * 2)) (i * 2) _ _ _ _ z1 (by rw [hvl]; simp; omega)
   refine fin (hI y1 hroom p4 ?_ ?_ (.inr ⟨_,_,p1⟩) (fun x _ hx=>(y2 x (hother0 x hx)).trans (z2 x (hother0 x hx))) ?_ (y4.trans z4) (y5.trans z5) (y6.trans z6))
   ·simp only [List.size_toArray]; simp; omega
   ·rw [List.toList_toArray];exact EE (by omega) hcl (by simpa using hvl) h1 (by rw [List.take_take,Nat.min_eq_left (by omega)])
   ·rw [y3,z3]; exact Nat.le_refl _
  ·have hcall:=Ez b l.length cap i b1 1 cap1 (cs.toList.take (l.length * 2)) (cs1.toList.take (1 * 2)) c.w0 hlt (by omega) p3 (by omega) (by omega) hcl hvl (pH p2) (pH q2) p6.oneCell q6.oneCell
   rw [e0,e2,p1,q1];refine hcall.mono ?_;rintro e w' ⟨rfl,rfl⟩;have hGn:l.length+1<=grownCap c.w0 (l.length+1) cap 96:=grownCap_ge c.w0 _ _ _;have hGm:=grownCap_le_maxLen c.w0 (l.length+1) cap 96 (by unfold maxLen; omega)
   generalize grownCap c.w0 (l.length+1) cap 96=G at hGn hGm ⊢;generalize hrow:((cs.toList.take (l.length * 2)).take (i * 2)).toArray++Builtin.zeroCells #[.string ⟨#[]⟩,.int .i64 0] (l.length+1 - i)++Builtin.zeroCells #[.string ⟨#[]⟩,.int .i64 0] (G - (l.length+1))=ROW;have hrl:ROW.size=G * 2:=by
    rw [<- hrow];simp [Builtin.zeroCells];omega
   have hrt:ROW.toList.take (i * 2)=(cs.toList.take (l.length * 2)).take (i * 2):=by
    rw [<- hrow];simp only [Array.toList_append,List.append_assoc];rw [List.take_left' (by rw [List.length_take,hcl]; omega)]
   have hrl2:ROW.toList.length=G * 2:=by rw [Array.length_toList,hrl]
   have hb0:(c.w0.alloc (.cells ROW 96)).drew.heap[c.w0.heap.size]? = some (.cells ROW.toList.toArray 96 (0,0)):=by
    have:ROW=ROW.toList.toArray:=by simp
    rw [<- this];exact heap_alloc_new c.w0 _
   have hdl:((cs.toList.take (l.length * 2)).drop (i * 2)).length=(l.length - i) * 2:=by rw [List.length_drop,hcl]; omega
   obtain ⟨z1,z2,z3,z4,z5,z6⟩:=iL c.w0.heap.size (cs1.toList.take (1 * 2)) (i * 2) (c.w0.alloc (.cells ROW 96)).drew ROW.toList _ _ hb0 (by rw [hvl,hrl2]; omega)
   obtain ⟨y1,y2,y3,y4,y5,y6⟩:=iL c.w0.heap.size ((cs.toList.take (l.length * 2)).drop (i * 2)) ((i+1) * 2) ((c.w0.alloc (.cells ROW 96)).drew.setCells c.w0.heap.size (i * 2) (cs1.toList.take (1 * 2))).drew _ _ _ z1 (by
    rw [hdl];simp only [List.length_append,List.length_take,List.length_drop,hrl2,hcsl1];omega)
   refine fin (hI y1 hGn hGm ?_ ?_ (.inl (Nat.le_refl _)) (fun x hx _=>(y2 x (by omega)).trans ((z2 x (by omega)).trans (heap_alloc_old c.w0 _ hx))) ?_ (y4.trans z4) (y5.trans z5) (y6.trans z6))
   ·simp only [List.size_toArray,List.length_append,List.length_take,List.length_drop,hrl2,hcsl1,hcsl];omega
   ·rw [List.toList_toArray];exact EF (by omega) hcl (by simpa using hvl) h1 hrt
   ·rw [y3]
    show _<=(World.setCells _ _ _ _).heap.size
    rw [z3]
    show _<=(c.w0.alloc _).heap.size
    simp
end Vx
end Go.Proofs.YthgfdbfmnbgkaaaGreatDoor
namespace Go.Proofs.YthgfdbfmnbgkaaaGreatDoor
set_option maxHeartbeats 4000000
namespace Vx
open Go.RowKit
set_option maxRecDepth 8000
theorem wW (b:HeadD) (p:Str) (x:Int):(ai [b]=[[D.str p,D.int .i64 x]])=(b=⟨p,x⟩):=by
 obtain ⟨q,y⟩:=b;simp -implicitDefEqProofs [ai,aW]
theorem Ds (b:HeadD) (p:Str) (x:Int):([[D.str p,D.int .i64 x]]=ai [b])=(b=⟨p,x⟩):=by rw [<- wW]; exact propext ⟨Eq.symm,Eq.symm⟩
def gtB (a b:Str):Bool:=!Go.Op.bytesLess a b && !decide (a=b)
def di (t:List HeadD) (p:Str):Nat->Nat
 | 0=>0
 | k+1=>if gtB (t.getD k default).name p then di t p k else k+1
theorem Eh (t:List HeadD):∀ x:List D,x ∈ ai t -> ∀ d:D,d ∈ x->match d with | D.sl _ _ _=>False | _=>True:=by
 intro x hx d hd;simp only [ai,List.mem_map] at hx;obtain ⟨h,_,rfl⟩:=hx;simp only [aW,List.mem_cons,List.not_mem_nil,or_false] at hd;rcases hd with rfl | rfl <;> trivial
def i6 (t:List HeadD) (f:HeadD):List HeadD:=eQ t (di t f.name t.length) f
theorem ED (t:List HeadD) (p:Str):∀ k,di t p k<=k:=by
 intro k
 induction k with
 | zero=>exact Nat.le_refl _
 | succ k ih=>unfold di; split <;> omega
def qB:Con:=.fn 30 (List HeadD × HeadD) (fun a=>[.sl true 2 (ai a.1),.agg [.str a.2.name,.int .i64 a.2.at_]]) (fun a=>a.1.length<=1048576) (fun a=>.own 8 2 (ai (i6 a.1 a.2))) (fun a=>gD 8 (i6 a.1 a.2))
theorem EH:Has Tryz.prog 175 qB:=by
 refine ah mixed ap (HasL.cons EA HasL.nil) [0,1,3,4,5] ((fun a n (_:Nat)=>(fun a _=>⟨Nat,fun k=>⟨[(0,true,.sl true 2 (ai a.1)),(3,true,.ptr 10 0),(4,true,.nil),(5,true,.int .i64 k)],[(10,.box 96 [.str a.2.name,.int .i64 a.2.at_])]⟩,fun k=>k<=a.1.length/\di a.1 a.2.name k=di a.1 a.2.name a.1.length,fun k=>k⟩) a n)) [] Tryz.func175 (by unfold Tryz.f175; rfl) (fun _=>⟨(),trivial⟩) ?_
 intro a ha;obtain ⟨t,f⟩:=a;replace ha:t.length<=1048576:=ha;have g1:∀ k,0 < k->(h:k - 1 < t.length)->gtB t[k - 1].name f.name=true->di t f.name (k - 1)=di t f.name k:=fun k h0 h hb=>by
  obtain ⟨j,rfl⟩:∃ j,k=j+1:=⟨k - 1,by omega⟩
  simp only [Nat.add_sub_cancel] at h hb ⊢;rw [di,if_pos (by simp -implicitDefEqProofs [List.getD_eq_getElem?_getD,h,hb])]
 have g2:∀ k,0 < k->(h:k - 1 < t.length)->gtB t[k - 1].name f.name=false->di t f.name k=k:=fun k h0 h hb=>by
  obtain ⟨j,rfl⟩:∃ j,k=j+1:=⟨k - 1,by omega⟩
  simp only [Nat.add_sub_cancel] at h hb;rw [di,if_neg (by simp -implicitDefEqProofs [List.getD_eq_getElem?_getD,h,hb])]
 have hfl:=Eh t;simp -implicitDefEqProofs [qB,cInsH,Con.fn,ag,wW,Ds]
 try dsimp only
 have hfin:∀ k,di t f.name k=di t f.name t.length->di t f.name k=k->i6 t f=eQ t k f:=fun k h1 h2=>by unfold i6; rw [<- h1,h2]
 refine fun _=>⟨⟨t.length,rfl,Nat.le_refl _,rfl⟩,fun k hk hp=>⟨fun h0=>⟨⟨by omega,by omega⟩,fun _ _=>⟨⟨by omega,by omega⟩,fun _ _=>?_⟩⟩,fun h0=>?_⟩⟩
 ·have hlt:k - 1 < t.length:=by omega
  simp -implicitDefEqProofs [hlt,aW,D.asStr];refine ⟨fun hb hn=>⟨⟨by omega,by omega⟩,fun _ _=>⟨k - 1,by omega,⟨by omega,by rw [g1 k h0 hlt (by simp -implicitDefEqProofs [gtB,hb,hn]),hp]⟩,by omega⟩⟩,fun hx=>?_⟩
  have e:=hfin k hp (g2 k h0 hlt (by cases hq:Go.Op.bytesLess t[k - 1].name f.name with
   | true=>simp -implicitDefEqProofs [gtB,hq]
   | false=>simp -implicitDefEqProofs [gtB,hx hq]))
  exact ⟨hfl,⟨by omega,by omega⟩,t,k,f,⟨rfl,rfl,rfl⟩,⟨rfl,rfl⟩,⟨by omega,by omega⟩,e,e.symm⟩
 ·subst h0;have e:=hfin 0 hp rfl;exact ⟨hfl,⟨by omega,by omega⟩,t,0,f,⟨rfl,rfl,rfl⟩,⟨rfl,rfl⟩,⟨by omega,by omega⟩,e,e.symm⟩
def srt (l:List Str):Prop:=l.Pairwise fun a b=>a < b
theorem mG (l:List Str) (s x:Str):x ∈ aS l s ↔ x=s \/ x ∈ l:=by
 induction l with
 | nil=>simp -implicitDefEqProofs [aS]
 | cons y l ih =>
  unfold aS;split
  ·simp only [List.mem_cons,ih];constructor
   ·rintro (h | h | h) <;> simp -implicitDefEqProofs [h]
   ·rintro (h | h | h) <;> simp -implicitDefEqProofs [h]
  ·split
   ·rename_i h;subst h;simp only [List.mem_cons];constructor
    ·intro h; exact .inr h
    ·rintro (h | h)
     ·exact .inl h
     ·exact h
   ·simp only [List.mem_cons]
theorem pd {l:List Str} (h:srt l) (s:Str):srt (aS l s):=by
 induction l with
 | nil=>simp -implicitDefEqProofs [aS,srt]
 | cons y l ih =>
  obtain ⟨h1,h2⟩:=List.pairwise_cons.1 h;unfold aS;rw [gv];split
  ·rename_i hl;have hl:y < s:=by simpa using hl
   refine List.pairwise_cons.2 ⟨fun z hz=>?_,ih h2⟩;rcases (mG l s z).1 hz with rfl | hz
   ·exact hl
   ·exact h1 z hz
  ·rename_i hl;have hl:¬ y < s:=by simpa using hl
   split
   ·exact h
   ·rename_i hn;have hs:=pw y s hl hn;refine List.pairwise_cons.2 ⟨fun z hz=>?_,h⟩;rcases List.mem_cons.1 hz with rfl | hz
    ·exact hs
    ·exact vd hs (h1 z hz)
theorem uJ (t:List FileD):∀ {l:List Str},srt l->srt (bG l t) /\ ∀ x,x ∈ bG l t ↔ x ∈ l \/ x ∈ t.map (·.path):=by
 induction t with
 | nil=>intro l h; exact ⟨h,fun x=>by simp -implicitDefEqProofs [bG]⟩
 | cons f t ih =>
  intro l h;obtain ⟨h1,h2⟩:=ih (pd h f.path);refine ⟨h1,fun x=>?_⟩
  show x ∈ bG (aS l f.path) t ↔ _
  rw [h2,mG,List.map_cons,List.mem_cons];constructor
  ·rintro ((h | h) | h) <;> simp -implicitDefEqProofs [h]
  ·rintro (h | h | h) <;> simp -implicitDefEqProofs [h]
theorem zw (o a b:List FileD):srt (aP o a b) /\ ∀ x,x ∈ aP o a b ↔ x ∈ (o++a++b).map (·.path):=by
 obtain ⟨h1,h2⟩:=uJ o (l:=[]) .nil;obtain ⟨h3,h4⟩:=uJ a h1;obtain ⟨h5,h6⟩:=uJ b h3;refine ⟨h5,fun x=>?_⟩
 show x ∈ bG (bG (bG [] o) a) b ↔ _
 rw [h6,h4,h2];simp -implicitDefEqProofs [or_assoc]
theorem mO:∀ {l m:List Str},srt l->srt m->(∀ x,x ∈ l ↔ x ∈ m)->l=m
 | [],[],_,_,_=>rfl
 | [],y :: m,_,_,h=>absurd ((h y).2 (by simp)) (by simp)
 | x :: l,[],_,_,h=>absurd ((h x).1 (by simp)) (by simp)
 | x :: l,y :: m,hl,hm,h=>by
  obtain ⟨l1,l2⟩:=List.pairwise_cons.1 hl;obtain ⟨m1,m2⟩:=List.pairwise_cons.1 hm;have e:x=y:=by
   rcases List.mem_cons.1 ((h x).1 (by simp)) with e | hx
   ·exact e
   ·rcases List.mem_cons.1 ((h y).2 (by simp)) with e | hy
    ·exact e.symm
    ·exact absurd (l1 y hy) (pt (m1 x hx))
  subst e
  congr 1
  refine mO l2 m2 fun z=>?_;have hz:=h z;simp only [List.mem_cons] at hz;constructor
  ·intro q;rcases hz.1 (.inr q) with rfl | q2
   ·exact absurd (l1 z q) (kf z)
   ·exact q2
  ·intro q;rcases hz.2 (.inr q) with rfl | q2
   ·exact absurd (m1 z q) (kf z)
   ·exact q2
theorem EC (l:List HeadD) (f:HeadD) (hp:l.Pairwise fun a b=>Go.Op.bytesLess a.name b.name=true):∀ k,k<=l.length->(∀ i,di l f.name k<=i->i < k->gtB (l.getD i default).name f.name=true)/\(0 < di l f.name k->gtB (l.getD (di l f.name k - 1) default).name f.name=false):=by
 intro k
 induction k with
 | zero=>intro _; exact ⟨fun i h1 h2=>by omega,fun h=>by simp -implicitDefEqProofs [di] at h⟩
 | succ k ih =>
  intro hk;unfold di;split
  ·rename_i h;obtain ⟨h1,h2⟩:=ih (by omega)
   refine ⟨fun i h3 h4=>?_,h2⟩;rcases Nat.lt_or_ge i k with h5 | h5
   ·exact h1 i h3 h5
   ·have:i=k:=by omega
    subst this; exact h
  ·rename_i h;exact ⟨fun i h3 h4=>by omega,fun _=>by simpa using h⟩
theorem xu (n:Str) (a:Int):∀ (l X:List HeadD) (k:Nat),k<=l.length->(∀ i,i < k->Go.Op.bytesLess (l.getD i default).name n=true)->(∀ i,k<=i->i < l.length->Go.Op.bytesLess (l.getD i default).name n=false /\ ¬ (l.getD i default).name=n) ->
  l.foldl (ct n a) (X,false)=if k < l.length then (X++l.take k++[⟨n,a⟩]++l.drop k,true) else (X++l,false)
 | [],X,k,hk,_,_=>by simp
 | g :: l,X,0,_,_,h2=>by
  have hg:=h2 0 (by omega) (by simp)
  have hg1:Go.Op.bytesLess g.name n=false /\ ¬ g.name=n:=by simpa using hg
  have e:ct n a (X,false) g=(X++[⟨n,a⟩]++[g],true):=by unfold ct; simp -implicitDefEqProofs [hg1]
  have e2:l.filter (fun g=>decide (g.name ≠ n))=l:=by
   rw [List.filter_eq_self];intro z hz;obtain ⟨i,hi,rfl⟩:=List.getElem_of_mem hz;have:=h2 (i+1) (by omega) (by simp; omega)
   simp -implicitDefEqProofs [List.getD_eq_getElem?_getD,hi] at this;simp -implicitDefEqProofs [this.2]
  rw [List.foldl_cons,e,oc,e2]; simp
 | g :: l,X,k+1,hk,h1,h2=>by
  have hg:=h1 0 (by omega)
  have hg:Go.Op.bytesLess g.name n=true:=by simpa using hg
  have hn:¬ g.name=n:=fun e=>by rw [e,oQ] at hg; cases hg
  have e:ct n a (X,false) g=(X++[g],false):=by unfold ct; simp -implicitDefEqProofs [hg,hn]
  rw [List.foldl_cons,e,xu n a l (X++[g]) k (by simpa using hk) (fun i hi=>by have:=h1 (i+1) (by omega); simpa using this) (fun i h3 h4=>by have:=h2 (i+1) (by omega) (by simp; omega); simpa using this)]
  by_cases hc:k < l.length
  ·simp -implicitDefEqProofs [hc]
  ·simp -implicitDefEqProofs [hc]
theorem D2 {l:List HeadD} {n:Str} {a:Int} (hl:∀ i,0 < i->i < l.length->Go.Op.bytesLess (l.getD (i - 1) default).name (l.getD i default).name=true) (hn:∀ h ∈ l,¬ h.name=n) :
  cS l n a=i6 l ⟨n,a⟩:=by
 have hp:=od hl;obtain ⟨h1,h2⟩:=EC l ⟨n,a⟩ hp l.length (Nat.le_refl _);have hk:=ED l n l.length;unfold i6;generalize hkk:di l (⟨n,a⟩:HeadD).name l.length=k at h1 h2 ⊢;have hk:k<=l.length:=by rw [<- hkk]; exact hk
 have hne:∀ i (hi:i < l.length),¬ (l.getD i default).name=n:=fun i hi=>by
  have:=hn l[i] (List.getElem_mem hi)
  simpa [List.getD_eq_getElem?_getD,hi] using this
 have hlt:∀ i j,(hij:i < j)->(hj:j < l.length)->Go.Op.bytesLess (l.getD i default).name (l.getD j default).name=true:=fun i j hij hj=>by
  have:=List.pairwise_iff_getElem.1 hp i j (by omega) hj hij
  simpa [List.getD_eq_getElem?_getD,hj,(show i < l.length by omega)] using this
 have b1:∀ i,i < k->Go.Op.bytesLess (l.getD i default).name n=true:=fun i hi=>by
  have q:=h2 (by omega)
  have q:Go.Op.bytesLess (l.getD (k - 1) default).name n=true:=by
   unfold gtB at q;simp only [Bool.and_eq_false_iff,Bool.not_eq_false',decide_eq_true_eq] at q;rcases q with q | q
   ·exact q
   ·exact absurd q (hne (k - 1) (by omega))
  rcases Nat.lt_or_ge i (k - 1) with h3 | h3
  ·exact uf (hlt i (k - 1) h3 (by omega)) q
  ·have:i=k - 1:=by omega
   rw [this]; exact q
 have b2:∀ i,k<=i->i < l.length->Go.Op.bytesLess (l.getD i default).name n=false /\ ¬ (l.getD i default).name=n:=fun i h3 h4=>by
  have q:=h1 i h3 h4;unfold gtB at q;simp only [Bool.and_eq_true,Bool.not_eq_true',decide_eq_false_iff_not] at q;exact q
 unfold cS hL;rw [xu n a l [] k hk b1 b2];by_cases hc:k < l.length
 ·simp -implicitDefEqProofs [hc,eQ]
 ·have:k=l.length:=by omega
  subst this;simp -implicitDefEqProofs [eQ]
end Vx
end Go.Proofs.YthgfdbfmnbgkaaaGreatDoor
/-
  DERIVED: THE SHELF's CONTRACTS AT THIS DUMP, IN PLAIN WORDS (tools/lay-plain.mjs out of 'YthgfdbfmnbgkaaaGreatDoorShelf.lean', which tools/lay-shelf.mjs wrote): THE SAME DECLARATIONS UNDER THE SAME NAMES: 'import', 'namespace', 'open', 'def', 'theorem' AND NOTHING ELSE: no command of the shelf's: FOR A HAND-IN. Each laying: the table of numbers ('.._ren') and one theorem, a field a fact of the dump's own or the kernel's comparison; each contract: ONE APPLICATION.
-/
namespace Go.Proofs
open Go.Shelf
def Tryz.laysSort_ren:Go.Shelf.Ren:=⟨fun | 190=>86 | 125=>167 | 258=>166 | 128=>216 | 129=>217 | 302=>207 | 303=>208 | 304=>209 | 305=>210 | 306=>211 | 307=>212 | 308=>213 | 309=>214 | 310=>215 | 333=>252 | 329=>253 | 330=>254 | 334=>255 | 335=>256 | 336=>257 | 344=>284 | n=>n,fun | 31=>22 | 9=>9 | 3=>3 | 46=>173 | 0=>0 | 51=>210 | 53=>212 | 4=>4 | 183=>203 | 182=>202 | 131=>207 | 5=>5 | 218=>243 | 222=>247 | 228=>272 | 229=>273 | n=>n,fun | n=>n⟩
theorem Tryz.laysSort:Go.Proofs.Lays.n190 Tryz.prog Tryz.laysSort_ren:={
  mixed:=by kernel_rfl
  f125:=Tryz.func167.trans (congrArg some (by kernel_rfl))
  f128:=Tryz.func216.trans (congrArg some (by kernel_rfl))
  f129:=Tryz.func217.trans (congrArg some (by kernel_rfl))
  f190:=Tryz.func86.trans (congrArg some (by kernel_rfl))
  f258:=Tryz.func166.trans (congrArg some (by kernel_rfl))
  f302:=Tryz.func207.trans (congrArg some (by kernel_rfl))
  f303:=Tryz.func208.trans (congrArg some (by kernel_rfl))
  f304:=Tryz.func209.trans (congrArg some (by kernel_rfl))
  f305:=Tryz.func210.trans (congrArg some (by kernel_rfl))
  f306:=Tryz.func211.trans (congrArg some (by kernel_rfl))
  f307:=Tryz.func212.trans (congrArg some (by kernel_rfl))
  f308:=Tryz.func213.trans (congrArg some (by kernel_rfl))
  f309:=Tryz.func214.trans (congrArg some (by kernel_rfl))
  f310:=Tryz.func215.trans (congrArg some (by kernel_rfl))
  f329:=Tryz.func253.trans (congrArg some (by kernel_rfl))
  f330:=Tryz.func254.trans (congrArg some (by kernel_rfl))
  f333:=Tryz.func252.trans (congrArg some (by kernel_rfl))
  f334:=Tryz.func255.trans (congrArg some (by kernel_rfl))
  f335:=Tryz.func256.trans (congrArg some (by kernel_rfl))
  f336:=Tryz.func257.trans (congrArg some (by kernel_rfl))
  f344:=Tryz.func284.trans (congrArg some (by kernel_rfl))
  t0:=Tryz.underlying0
  a0:=Tryz.isAgg0
  z0:=Tryz.sizeOf0
  v0:=Tryz.zeroValue0
  t3:=Tryz.underlying3
  a3:=Tryz.isAgg3
  z3:=Tryz.sizeOf3
  v3:=Tryz.zeroValue3
  t4:=Tryz.underlying4
  a4:=Tryz.isAgg4
  z4:=Tryz.sizeOf4
  v4:=Tryz.zeroValue4
  t5:=Tryz.underlying5
  a5:=Tryz.isAgg5
  z5:=Tryz.sizeOf5
  v5:=Tryz.zeroValue5
  t9:=Tryz.underlying9
  a9:=Tryz.isAgg9
  z9:=Tryz.sizeOf9
  v9:=Tryz.zeroValue9
  t31:=Tryz.underlying22
  a31:=Tryz.isAgg22
  z31:=Tryz.sizeOf22
  v31:=Tryz.zeroValue22
  t46:=Tryz.underlying173
  a46:=Tryz.isAgg173
  z46:=Tryz.sizeOf173
  v46:=Tryz.zeroValue173
  t51:=Tryz.underlying210
  a51:=Tryz.isAgg210
  z51:=Tryz.sizeOf210
  v51:=Tryz.zeroValue210
  t53:=Tryz.underlying212
  a53:=Tryz.isAgg212
  z53:=Tryz.sizeOf212
  v53:=Tryz.zeroValue212
  t131:=Tryz.underlying207
  a131:=Tryz.isAgg207
  z131:=Tryz.sizeOf207
  v131:=Tryz.zeroValue207
  t182:=Tryz.underlying202
  a182:=Tryz.isAgg202
  z182:=Tryz.sizeOf202
  v182:=Tryz.zeroValue202
  t183:=Tryz.underlying203
  a183:=Tryz.isAgg203
  z183:=Tryz.sizeOf203
  v183:=Tryz.zeroValue203
  t218:=Tryz.underlying243
  a218:=Tryz.isAgg243
  z218:=Tryz.sizeOf243
  v218:=Tryz.zeroValue243
  t222:=Tryz.underlying247
  a222:=Tryz.isAgg247
  z222:=Tryz.sizeOf247
  v222:=Tryz.zeroValue247
  t228:=Tryz.underlying272
  a228:=Tryz.isAgg272
  z228:=Tryz.sizeOf272
  v228:=Tryz.zeroValue272
  t229:=Tryz.underlying273
  a229:=Tryz.isAgg273
  z229:=Tryz.sizeOf273
  v229:=Tryz.zeroValue273 }
def Tryz.laysCompact_ren:Go.Shelf.Ren:=⟨fun | 194=>94 | n=>n,fun | 31=>22 | 9=>9 | 3=>3 | 4=>4 | 0=>0 | n=>n,fun | n=>n⟩
theorem Tryz.laysCompact:Go.Proofs.Lays.n194 Tryz.prog Tryz.laysCompact_ren:={
  mixed:=by kernel_rfl
  f194:=Tryz.func94.trans (congrArg some (by kernel_rfl))
  t0:=Tryz.underlying0
  a0:=Tryz.isAgg0
  z0:=Tryz.sizeOf0
  v0:=Tryz.zeroValue0
  t3:=Tryz.underlying3
  a3:=Tryz.isAgg3
  z3:=Tryz.sizeOf3
  v3:=Tryz.zeroValue3
  t4:=Tryz.underlying4
  a4:=Tryz.isAgg4
  z4:=Tryz.sizeOf4
  v4:=Tryz.zeroValue4
  t9:=Tryz.underlying9
  a9:=Tryz.isAgg9
  z9:=Tryz.sizeOf9
  v9:=Tryz.zeroValue9
  t31:=Tryz.underlying22
  a31:=Tryz.isAgg22
  z31:=Tryz.sizeOf22
  v31:=Tryz.zeroValue22 }
end Go.Proofs
namespace Go.Proofs.YthgfdbfmnbgkaaaGreatDoor
set_option maxHeartbeats 4000000
namespace Vx
open Go.RowKit Go.Sort
theorem oX {j:Nat} {v:Value} {c:Cx} {s:St} {a:Act} {w w':World} {β:Nat->Value} {fp:Nat->List (Nat × Nat)} (S:SatI c s a w β fp) {e k:Nat} {R:List (List D)} {f:List (Nat × Nat)}
  (hpin:∀ p ∈ c.pins,v=p.2/\p.1=j) (hb:BlkOk w' (ae [(j,Blk.own e k true R)]) (fun _=>v) c j f (.own e k true R)) (hnd:(Ob (fun _=>v) j f (.own e k true R)).Nodup) (hfree:∀ x ∈ Ob (fun _=>v) j f (.own e k true R),¬ c.G x)
  (hG:∀ b,c.G b->w'.heap[b]? = w.heap[b]?) (hsize:w.heap.size<=w'.heap.size) (hos:w'.os=w.os) (htape:w'.tape=w.tape) (hout:w'.output=w.output) :
  ∃ β' fp' a',SatI c ⟨fun _=>none,ae [(j,.own e k true R)]⟩ a' w' β' fp'/\RelL w' (ae [(j,.own e k true R)]) β' c [.own j k R] [v]:=by
 refine ⟨fun _=>v,fun _=>f,⟨Array.replicate c.n undef,[]⟩,⟨?_,?_,?_,?_,?_,S.fg,fun b hb=>⟨(S.old b hb).1,(hG b hb).trans (S.old b hb).2⟩,hos.trans S.os,htape.trans S.tape,hout.trans S.output,Nat.le_trans S.size hsize,rfl,by simp,fun p hp=>?_⟩,?_⟩
 ·intro t g av h; cases h
 ·intro h blk hm; obtain ⟨rfl,rfl⟩:=dA hm; exact hb
 ·intro h blk hm; obtain ⟨rfl,rfl⟩:=dA hm; exact hnd
 ·intro h h' blk blk' hm hm' hne; obtain ⟨rfl,rfl⟩:=dA hm; obtain ⟨rfl,rfl⟩:=dA hm'; exact absurd rfl hne
 ·intro h blk hm x hx; obtain ⟨rfl,rfl⟩:=dA hm; exact hfree x hx
 ·obtain ⟨h1,h2⟩:=hpin p hp;exact ⟨h1,by rw [h2]; simp [ae]⟩
 ·exact gE (h:=j) (fps:=fun _=>f) (by simp [ae]) hb hnd (fun h' blk' hm hne=>by obtain ⟨rfl,rfl⟩:=dA hm; exact absurd rfl hne) hfree
theorem uM {q:Bool} {w:World}:∀ {l:List Str},(∀ s ∈ l,s.length<=maxLen)->RdL q w (aa l).flatten (l.map encStr) []
 | [],_=>.nil
 | s :: l,h=>.str (h s (by simp)) (uM fun x hx=>h x (by simp [hx]))
theorem uN {q:Bool} {w:World}:∀ {l:List Str} {vs f},RdL q w (aa l).flatten vs f->vs=l.map encStr/\f=[] /\ ∀ s ∈ l,s.length<=maxLen
 | [],vs,f,h=>by cases h; exact ⟨rfl,rfl,by simp⟩
 | s :: l,vs,f,h=>by
  cases h with
  | str h1 h2 =>
   obtain ⟨rfl,rfl,h3⟩:=uN (l:=l) h2;exact ⟨rfl,rfl,by simpa using ⟨h1,h3⟩⟩
theorem zG {w:World} {n b:Nat} {d:List Str} {os:Array Obj} {cs:Array Value} {e:Nat} {fr:Nat × Nat} (hb:w.heap[b]? = some (.cells cs e fr)) :
  (grow (putRow encStr (Sort.ahead w n) b 0 d.toArray) os).heap[b]? = some (.cells (putCells encStr 0 d.toArray cs) e fr) /\
  (∀ x,x < w.heap.size->x ≠ b->(grow (putRow encStr (Sort.ahead w n) b 0 d.toArray) os).heap[x]? = w.heap[x]?)/\w.heap.size<=(grow (putRow encStr (Sort.ahead w n) b 0 d.toArray) os).heap.size /\
  (putCells encStr 0 d.toArray cs).size=cs.size /\ ∀ k,k<=d.length->k<=cs.size->(putCells encStr 0 d.toArray cs).toList.take k=(d.take k).map encStr:=by
 have hlt:b < w.heap.size:=(Array.getElem?_eq_some_iff.1 hb).1;refine ⟨?_,fun x hx hne=>?_,?_,by simp [putCells],fun k hk hk2=>?_⟩
 ·simp only [grow,putRow,mapBlock,Sort.ahead];rw [Array.getElem?_append_left (by simpa using hlt),Array.getElem?_modify,if_pos rfl,hb]
  rfl
 ·simp only [grow,putRow,mapBlock,Sort.ahead];rw [Array.getElem?_append_left (by simpa using hx),Array.getElem?_modify,if_neg (Ne.symm hne)]
 ·simp [grow,putRow,mapBlock,Sort.ahead]
 ·apply List.ext_getElem
  ·simp [putCells]; omega
  ·intro i h1 h2;have hi:i < d.length:=by simp at h2; omega
   simp only [List.getElem_take,List.getElem_map,putCells,Array.getElem_toList,Array.getElem_mapIdx];rw [if_pos (by simp; omega)]
   simp [hi]
def ck (l:List Str):List Str:=l.mergeSort fun x y=>decide (x<=y)
def cSortS:Con:={ A:=List Str,X:=Unit,n:=11,args:=fun l=>[.own 0 1 (aa l)],boxes:=fun _=>[],pre:=fun l=>l.length<=1048576,post:=fun _ _=>True,res:=fun _ _=>.tup [],fin:=fun l _=>[(0,.own 9 1 true (aa (ck l)))],owns:=fun l=>[(0,9,1,aa l)],lends:=[0],mv:=true }
theorem kc (l:List Str):(ck l).length=l.length:=by simp [ck]
theorem uY (l:List Str) (x:Str):x ∈ ck l ↔ x ∈ l:=by simp [ck]
theorem uZ:Has Tryz.prog 86 cSortS:=by
 refine ⟨fun args w=>Go.MuLone.run_callFunc_enter Tryz.func86 (by kernel_rfl) rfl args w,fun _=>⟨(),trivial⟩,fun _ _=>rfl,?_,trivial,.inl rfl⟩
 intro (l:List Str) (h1:l.length<=1048576) c _ vs β fp hn hpin hlen hlen2 S;have hp:c.pins=[(0,β 0)]:=hpin;have hr:=pr hlen S;obtain ⟨v0,vs1,rfl,r0,hr⟩:=hr.uncons;cases hr;have m0:(cSortS.start2 l).m 0=some (.own 9 1 true (aa l)):=rfl;have e0:v0 = β 0:=by cases r0 with | own _ _ h3 _=>exact (h3 _ _ _ _ m0).1
 subst e0;have hnd:=S.nodup 0 _ m0;have hfr:=S.free 0 _ m0;have hGlt:∀ b,c.G b->b < c.w0.heap.size:=fun b hG=>(S.old b hG).1;have fin:∀ {w':World},(∃ β' fp' a',SatI c ⟨fun _=>none,ae [(0,.own 9 1 true (aa (ck l)))]⟩ a' w' β' fp'/\RelL w' (ae [(0,.own 9 1 true (aa (ck l)))]) β' c [.own 0 1 (aa (ck l))] [β 0]) ->
   ∃ x,cSortS.post l x /\ ∃ v,Ending.returned (.tuple #[])=Ending.returned v /\ ∃ β' fp' a',SatI c (cSortS.end_ l x) a' w' β' fp'/\RelL w' (ae (cSortS.fin l x)) β' c [cSortS.res l x] [v] :=
  fun ⟨β',fp',a',g1,g2⟩=>⟨(),trivial,_,rfl,β',fp',a',g1,.tup .lnil .lnil⟩
 obtain ⟨_,_,B0⟩:=S.mem 0 _ m0;rcases B0 with ⟨q1,q2,q3⟩ | ⟨b,cap,cs,f0,q1,q2,q3,q4,q5,q6,q7,_⟩
 ·have hl:l=[]:=by simpa using q2
  subst hl;rw [q1];refine (Any.slices_Sort_string_none Tryz.laysSort none 0 c.w0).mono ?_;rintro e w' ⟨rfl,rfl⟩;have:=oX (w':=c.w0) (j:=0) (v:=β 0) (f:=[]) (e:=9) (k:=1) (R:=[]) S (by rw [hp]; intro p hp; simp at hp; subst hp; exact ⟨rfl,rfl⟩) ⟨by omega,by simp,.inl ⟨q1,rfl,rfl⟩⟩ (by simp [Ob,q1]) (by simp [Ob,q1]) (fun _ _=>rfl) (Nat.le_refl _) rfl rfl rfl
  exact fin (by simpa [ck] using this)
 ·rw [eStrs_length] at q1 q3 q6;obtain ⟨u1,u2,u3⟩:=uN q6;have q7:=q7 rfl;rw [u2] at q7;have hlt:b < c.w0.heap.size:=(Array.getElem?_eq_some_iff.1 q2).1;have hH:Holds encStr c.w0 b 0 l.toArray:=by
   intro j hj;have hj:j < l.length:=by simpa using hj
   have hjc:j < cs.size:=by omega
   constructor
   ·have:(cs.toList.take (l.length * 1))[j]? = some (encStr l[j]):=by rw [u1]; simp [hj]
    rw [List.getElem?_take,if_pos (by omega)] at this
    simp only [World.cell?,q2]
    simpa [hj] using this
   ·simp [World.frozen?,q2]
  rw [q1];refine (Any.slices_Sort_string Tryz.laysSort b 0 cap l c.w0 hH hlt (by omega)).mono ?_
  rintro e w' ⟨rfl,n,os,rfl⟩;obtain ⟨z1,z2,z3,z4,z5⟩:=zG (n:=n) (d:=ck l) (os:=os) q2;have hob:Ob β 0 (fp 0) (.own 9 1 true (aa l))=[b]:=by simp [Ob,q1,q7]
  rw [hob] at hfr;have:=oX (j:=0) (v:=β 0) (f:=[]) (e:=9) (k:=1) (R:=aa (ck l)) (w':=grow (putRow encStr (Sort.ahead c.w0 n) b 0 (ck l).toArray) os) S (by rw [hp]; intro p hp; simp at hp; subst hp; exact ⟨rfl,rfl⟩)
   ⟨by omega,by simp [aa,ak],.inr ⟨b,cap,putCells encStr 0 (ck l).toArray cs,[],by rw [eStrs_length,kc]; exact q1,z1,by rw [eStrs_length,kc]; exact q3,q4,by rw [z4]; exact q5,by
    rw [eStrs_length,Nat.mul_one,z5 _ (Nat.le_refl _) (by rw [kc]; omega),List.take_length]
    exact uM fun s hs=>u3 s ((uY l s).1 hs),fun _=>rfl,by simp⟩⟩
   (by simp [Ob,q1]) (by simpa [Ob,q1] using hfr) (fun x hG=>z2 x (hGlt x hG) fun e=>by subst e; exact hfr x (by simp) hG) z3 rfl rfl rfl
  rw [q1] at this fin;exact fin this
theorem DS {w:World} {m:Nat->Option Blk} {β:Nat->Value} {c:Cx} {h b cap:Nat} {cells:Array Value} {C:List Str} (hv:β h = .slice (some ⟨b,0,none⟩) C.length cap) (hw:w.heap[b]? = some (.cells cells 9 (0,0))) (hcap:C.length<=cap) (q4:cap<=maxLen) (q5:cells.size=cap * 1)
  (htk:cells.toList.take C.length=C.map encStr) (hu:∀ s ∈ C,s.length<=maxLen):BlkOk w m β c h [] (.own 9 1 true (aa C)):=by
 refine ⟨by omega,by simp [aa,ak],.inr ⟨b,cap,cells,[],?_,hw,?_,q4,q5,?_,fun _=>rfl,by simp⟩⟩
 ·rw [eStrs_length]; exact hv
 ·rw [eStrs_length]; exact hcap
 ·rw [eStrs_length,Nat.mul_one,htk];exact uM hu
def cCompactS:Con:={ A:=List Str,X:=Unit,n:=61,args:=fun l=>[.own 0 1 (aa l)],boxes:=fun _=>[],pre:=fun l=>l.length<=1048576,post:=fun _ _=>True,res:=fun l _=>.own 8 1 (aa (Lib.compact l)),fin:=fun l _=>[(8,.own 9 1 true (aa (Lib.compact l)))],owns:=fun l=>[(0,9,1,aa l)],mv:=true }
theorem sG (l:List Str):(Lib.compact l).length<=l.length:=by
 unfold Lib.compact Lib.compactUpTo;rw [List.length_map];exact Nat.le_trans (List.length_filter_le _ _) (by simp)
theorem CY (l:List Str):∀ s ∈ Lib.compact l,s ∈ l:=by
 intro s hs;unfold Lib.compact Lib.compactUpTo at hs;obtain ⟨j,hj,rfl⟩:=List.mem_map.1 hs;have hj:j < l.length:=by simpa using (List.mem_filter.1 hj).1
 rw [getElem!_pos _ j (by simpa using hj)]
 simp
set_option maxHeartbeats 400000 in
theorem wP:Has Tryz.prog 94 cCompactS:=by
 refine ⟨fun args w=>Go.MuLone.run_callFunc_enter Tryz.func94 (by kernel_rfl) rfl args w,fun _=>⟨(),trivial⟩,fun _ _=>rfl,?_,trivial,.inl rfl⟩
 intro (l:List Str) (h1:l.length<=1048576) c _ vs β fp hn hpin hlen hlen2 S;have hp:c.pins=[]:=hpin;have hr:=pr hlen S;obtain ⟨v0,vs1,rfl,r0,hr⟩:=hr.uncons;cases hr;have m0:(cCompactS.start2 l).m 0=some (.own 9 1 true (aa l)):=rfl;have e0:v0 = β 0:=by cases r0 with | own _ _ h3 _=>exact (h3 _ _ _ _ m0).1
 subst e0;have hfr:=S.free 0 _ m0;have hGlt:∀ b,c.G b->b < c.w0.heap.size:=fun b hG=>(S.old b hG).1;have fin:∀ {w':World} {v:Value},(∃ β' fp' a',SatI c ⟨fun _=>none,ae [(8,.own 9 1 true (aa (Lib.compact l)))]⟩ a' w' β' fp'/\RelL w' (ae [(8,.own 9 1 true (aa (Lib.compact l)))]) β' c [.own 8 1 (aa (Lib.compact l))] [v]) ->
   ∃ x,cCompactS.post l x /\ ∃ v',Ending.returned v=Ending.returned v' /\ ∃ β' fp' a',SatI c (cCompactS.end_ l x) a' w' β' fp'/\RelL w' (ae (cCompactS.fin l x)) β' c [cCompactS.res l x] [v'] :=
  fun ⟨β',fp',a',g1,g2⟩=>⟨(),trivial,_,rfl,β',fp',a',g1,g2⟩
 obtain ⟨_,_,B0⟩:=S.mem 0 _ m0;rcases B0 with ⟨q1,q2,q3⟩ | ⟨b,cap,cs,f0,q1,q2,q3,q4,q5,q6,q7,_⟩
 ·have hl:l=[]:=by simpa using q2
  subst hl;rw [q1];refine (Any.slices_Compact_string_empty Tryz.laysCompact none 0 c.w0).mono ?_;rintro e w' ⟨rfl,rfl⟩;have:=oX (w':=c.w0) (j:=8) (v:=.slice none 0 0) (f:=[]) (e:=9) (k:=1) (R:=[]) S (by rw [hp]; simp) ⟨by omega,by simp,.inl ⟨rfl,rfl,rfl⟩⟩ (by simp [Ob]) (by simp [Ob]) (fun _ _=>rfl) (Nat.le_refl _) rfl rfl rfl
  exact fin (by simpa [Lib.compact,Lib.compactUpTo] using this)
 ·rw [eStrs_length] at q1 q3 q6;obtain ⟨u1,u2,u3⟩:=uN q6;have q7:=q7 rfl;rw [u2] at q7;have hlt:b < c.w0.heap.size:=(Array.getElem?_eq_some_iff.1 q2).1;have hH:Holds encStr c.w0 b 0 l.toArray:=by
   intro j hj;have hj:j < l.length:=by simpa using hj
   have hjc:j < cs.size:=by omega
   constructor
   ·have:(cs.toList.take (l.length * 1))[j]? = some (encStr l[j]):=by rw [u1]; simp [hj]
    rw [List.getElem?_take,if_pos (by omega)] at this
    simp only [World.cell?,q2]
    simpa [hj] using this
   ·simp [World.frozen?,q2]
  rw [q1];refine (Any.slices_Compact_string Tryz.laysCompact b 0 cap l c.w0 hH (by omega) q3).mono ?_
  rintro e w' ⟨rfl,n,rfl⟩;have hcl:=sG l;obtain ⟨z1,z2,z3,z4,z5⟩:=zG (n:=n) (d:=Lib.compact l++List.replicate (l.length - (Lib.compact l).length) []) (os:=#[]) q2;simp only [grow_empty] at z1 z2 z3 z4 z5;have hob:Ob β 0 (fp 0) (.own 9 1 true (aa l))=[b]:=by simp [Ob,q1,q7]
  rw [hob] at hfr;have htk:=z5 (Lib.compact l).length (by simp) (by omega)
  rw [List.take_left] at htk;have hu:∀ s ∈ Lib.compact l,s.length<=maxLen:=fun s hs=>u3 s (CY l s hs);generalize hcs:putCells encStr 0 (Lib.compact l++List.replicate (l.length - (Lib.compact l).length) []).toArray cs=cells at z1 z4 htk;generalize hw':putRow encStr (Sort.ahead c.w0 n) b 0 (Lib.compact l++List.replicate (l.length - (Lib.compact l).length) []).toArray=w1 at z1 z2 z3;have hos:w1.os=c.w0.os:=by rw [<- hw']; rfl
  have htp:w1.tape=c.w0.tape:=by rw [<- hw']; rfl
  have hou:w1.output=c.w0.output:=by rw [<- hw']; rfl
  have hw'':putRow encStr (Sort.ahead c.w0 n) b 0 (Lib.compact l++List.replicate (l.length - (Lib.compact l).length) []).toArray=w1:=hw';clear hw' hcs;generalize hC:Lib.compact l=C at *;have:=oX (j:=8) (v:=.slice (some ⟨b,0,none⟩) C.length cap) (f:=[]) (e:=9) (k:=1) (R:=aa C) (w':=w1) S (by rw [hp]; simp)
   (DS (cells:=cells) rfl z1 (by omega) q4 (by rw [z4]; exact q5) htk hu) (by simp [Ob]) (by simpa [Ob] using hfr) (fun x hG=>z2 x (hGlt x hG) fun e=>by subst e; exact hfr x (by simp) hG) z3 hos htp hou
  exact fin this
end Vx
end Go.Proofs.YthgfdbfmnbgkaaaGreatDoor
namespace Go.Proofs.YthgfdbfmnbgkaaaGreatDoor
set_option maxHeartbeats 4000000
namespace Vx
open Go.RowKit
set_option maxRecDepth 8000
def fN (t:List FileD) (p:Str):List Str × Bool:=match t.find? (fun f=>decide (f.path=p)) with
 | some f=>(f.text,true)
 | none=>([],false)
theorem DX {t:List FileD} {p:Str} {i:Nat} (h:i < t.length) (h1:∀ j (hj:j < t.length),j < i -> ¬ t[j].path=p) (h2:t[i].path=p):fN t p=(t[i].text,true):=by
 have:t.find? (fun f=>decide (f.path=p))=some t[i]:=by
  rw [List.find?_eq_some_iff_getElem];refine ⟨by simp -implicitDefEqProofs [h2],i,h,rfl,fun j hj=>?_⟩
  simpa using h1 j (by omega) hj
 unfold fN; rw [this]
theorem DY {t:List FileD} {p:Str} (h:∀ j (hj:j < t.length),¬ t[j].path=p):fN t p=([],false):=by
 have:t.find? (fun f=>decide (f.path=p))=none:=by
  rw [List.find?_eq_none];intro f hf;obtain ⟨j,hj,rfl⟩:=List.getElem_of_mem hf
  simpa using h j hj
 unfold fN; rw [this]
def nv:Con:=.fn 22 (List FileD × Str) (fun a=>[.sl true 2 (ac a.1),.str a.2]) (fun a=>∀ f ∈ a.1,f.text.length<=1048576) (fun a=>.tup [.own 8 1 (aa (fN a.1 a.2).1),.bool (fN a.1 a.2).2]) (fun a=>dw 8 (fN a.1 a.2).1)
theorem xr:Has Tryz.prog 87 nv:=by
 refine ah mixed ap (HasL.cons lV HasL.nil) [0,1,4,5,7,8,9,10] ((fun a n (_:Nat)=>(fun a _=>⟨Nat,fun i=>⟨[(1,true,.str a.2),(4,true,.nil),(5,true,.bool false),(8,true,.sl true 2 (ac a.1)),(9,true,.int .i64 a.1.length),(10,true,.int .i64 i)],[]⟩,fun i=>i<=a.1.length /\ ∀ j (hj:j < a.1.length),j < i -> ¬ a.1[j].path=a.2,fun i=>a.1.length - i⟩) a n)) [] Tryz.func87 (by unfold Tryz.f87; rfl) (fun _=>⟨(),trivial⟩) ?_
 intro a ha;obtain ⟨t,p⟩:=a;replace ha:∀ f ∈ t,f.text.length<=1048576:=ha;simp -implicitDefEqProofs [nv,jL,Con.fn,ag]
 try dsimp only
 refine fun _ i hi hb=>⟨fun hlt=>⟨hlt,fun _=>?_⟩,fun hge=>?_⟩
 ·have hf:=ha t[i] (List.getElem_mem hlt);have e1:=fun h=>DX (p:=p) hlt hb h;simp -implicitDefEqProofs [hlt,an,D.asStr,D.asRows,and_assoc];refine ⟨fun h=>⟨hf,by rw [e1 h]; exact ⟨rfl,rfl,rfl⟩⟩,fun h=>⟨by omega,by omega,fun _ _=>⟨i+1,by omega,by omega,fun j hj hji=>?_,by omega⟩⟩⟩
  by_cases e:j=i
  ·subst e; exact h
  ·exact hb j hj (by omega)
 ·rw [DY fun j hj=>hb j hj (by omega)]
  exact ⟨⟨rfl,rfl⟩,rfl⟩
theorem sX (t:List FileD) (p:Str):fN t p=am t p:=by
 unfold fN
 induction t with
 | nil=>rfl
 | cons f t ih =>
  unfold am;by_cases h:f.path=p
  ·simp -implicitDefEqProofs [h]
  ·rw [List.find?_cons_of_neg (by simpa using h),if_neg h]; exact ih
--TAB dF
def dF:List (Nat × TI):=(253,⟨false,[.sl 82 1],24,[],82⟩) :: (220,⟨true,[.sl 9 1,.bool],32,[(22,0),(4,1)],0⟩) :: ag
theorem fo:∀ t ti,ae dF t=some ti->TOk Tryz.prog t ti:=px (by kernel_rfl)
theorem Kv {a b c:Str} (h:a<=b) (h':b<=c):a<=c:=List.le_trans h h'
theorem va {a b:Str} (h:a<=b) (hne:a ≠ b):a < b:=pw b a h (Ne.symm hne)
theorem zZ (l:List Str):(ck l).Pairwise (· <= ·):=by
 have:=List.pairwise_mergeSort (le:=fun x y:Str=>decide (x<=y)) (fun a b c h h'=>by simp only [decide_eq_true_eq] at *; exact Kv h h') (fun a b=>by
  simp only [Bool.or_eq_true,decide_eq_true_eq];exact List.le_total a b) l
 refine List.Pairwise.imp ?_ this;intro a b h; simpa using h
theorem wQ {l:List Str} (h:l.Pairwise (· <= ·)):∀ m,m<=l.length->srt (Lib.compactUpTo l.toArray m) /\ ∀ x,x ∈ Lib.compactUpTo l.toArray m ↔ x ∈ l.take m
 | 0,_=>⟨by simp -implicitDefEqProofs [Lib.compactUpTo,srt],by simp -implicitDefEqProofs [Lib.compactUpTo]⟩
 | m+1,hm=>by
  obtain ⟨h1,h2⟩:=wQ h m (by omega)
  have hlt:m < l.length:=by omega
  have e:l.toArray[m]! = l[m]:=by simp -implicitDefEqProofs [hlt]
  have hall:∀ x ∈ l.take m,x<=l[m]:=by
   intro x hx;obtain ⟨i,hi,rfl⟩:=List.getElem_of_mem hx;have hi':i < m:=by simp at hi; omega
   rw [List.getElem_take];exact List.pairwise_iff_getElem.1 h i m (by omega) hlt hi'
  rw [Lib.compactUpTo_succ,e,bM hlt];by_cases hk:Lib.keeps l.toArray m=true
  ·rw [if_pos hk];refine ⟨List.pairwise_append.2 ⟨h1,by simp,fun x hx y hy=>?_⟩,fun x=>by rw [List.mem_append,List.mem_append,h2]⟩
   have:y=l[m]:=by simpa using hy
   subst this;have hx:=(h2 x).1 hx;have hle:=hall x hx;refine va hle fun e2=>?_;have hm0:0 < m:=by
    rcases Nat.eq_zero_or_pos m with h0 | h0
    ·subst h0; simp at hx
    ·exact h0
   have hne:l[m] ≠ l[m - 1]:=by
    have:=hk;unfold Lib.keeps at this;simp only [decide_eq_true_eq] at this;rcases this with h0 | h0
    ·omega
    ·simpa [hlt,show m - 1 < l.length by omega] using h0
   obtain ⟨i,hi,rfl⟩:=List.getElem_of_mem hx;have hi':i < m:=by simp at hi; omega
   rw [List.getElem_take] at e2 hle;rcases Nat.lt_or_ge i (m - 1) with hq | hq
   ·have q1:=List.pairwise_iff_getElem.1 h i (m - 1) (by omega) (by omega) hq
    have q2:=List.pairwise_iff_getElem.1 h (m - 1) m (by omega) hlt (by omega)
    have q3:=va q2 (Ne.symm hne);rw [<- e2] at q3;exact q1 q3
   ·have:i=m - 1:=by omega
    subst this;exact hne e2.symm
  ·rw [if_neg hk,List.append_nil];refine ⟨h1,fun x=>?_⟩;rw [h2,List.mem_append];have hk:Lib.keeps l.toArray m=false:=by simpa using hk
   unfold Lib.keeps at hk;simp only [decide_eq_false_iff_not,not_or,Classical.not_not] at hk;obtain ⟨k1,k2⟩:=hk;have k3:l[m]=l[m - 1]:=by simpa [hlt,show m - 1 < l.length by omega] using k2
   refine ⟨.inl,fun hx=>hx.elim id fun hx=>?_⟩;have:x=l[m]:=by simpa using hx
   rw [this,k3];exact List.mem_take_iff_getElem.2 ⟨m - 1,by omega,rfl⟩
theorem sH (l:List Str):srt (Lib.compact (ck l)) /\ ∀ x,x ∈ Lib.compact (ck l) ↔ x ∈ l:=by
 obtain ⟨h1,h2⟩:=wQ (zZ l) (ck l).length (Nat.le_refl _);exact ⟨h1,fun x=>by
  unfold Lib.compact;rw [h2,List.take_length,uY]⟩
def na (ts:List (List FileD)):List Str:=Lib.compact (ck (ts.flatten.map (·.path)))
theorem pW (o a b:List FileD):na [o,a,b]=aP o a b:=by
 obtain ⟨h1,h2⟩:=sH (([o,a,b]:List (List FileD)).flatten.map (·.path));obtain ⟨h3,h4⟩:=zw o a b;refine mO h1 h3 fun x=>?_;unfold na at *;rw [h2,h4]; simp
def lX (t:List FileD):List D:=[.sl 119 2 (ac t)]
def jW (ts:List (List FileD)):List (List D):=ts.map lX
@[simp] theorem eTrees_length (l:List (List FileD)):(jW l).length=l.length:=by simp -implicitDefEqProofs [jW]
@[simp] theorem eTrees_get (l:List (List FileD)) (i:Nat):(jW l)[i]? = l[i]?.map lX:=by simp -implicitDefEqProofs [jW]
def dx (ts:List (List FileD)) (i j:Nat):List Str:=((ts.take i).flatten++(ts.getD i []).take j).map (·.path)
theorem zz (ts:List (List FileD)):dx ts 0 0=[]:=by simp -implicitDefEqProofs [dx]
theorem IJ (ts:List (List FileD)):dx ts ts.length 0=ts.flatten.map (·.path):=by simp -implicitDefEqProofs [dx]
theorem zA {ts:List (List FileD)} {i:Nat} (h:i < ts.length):dx ts i (ts.getD i []).length=dx ts (i+1) 0:=by
 have e3:ts.getD i []=ts[i]:=by simp -implicitDefEqProofs [List.getD_eq_getElem?_getD,h]
 unfold dx;rw [bM h,e3,List.take_length,List.flatten_append,List.take_zero,List.append_nil];simp only [List.flatten_cons,List.flatten_nil,List.append_nil]
theorem IL {ts:List (List FileD)} {i j:Nat} (h:j < (ts.getD i []).length):dx ts i (j+1)=dx ts i j++[(ts.getD i [])[j].path]:=by
 unfold dx;rw [bM h,<- List.append_assoc,List.map_append]; rfl
theorem DI {ts:List (List FileD)} {i:Nat} (j:Nat) (h:i < ts.length):((ts.take i).flatten++(ts.getD i []).take j).length<=ts.flatten.length:=by
 have e:=List.take_append_drop (i+1) ts;have e2:ts.flatten.length=((ts.take (i+1)).flatten++(ts.drop (i+1)).flatten).length:=by rw [<- List.flatten_append,e]
 rw [e2,bM h];have e3:ts.getD i []=ts[i]:=by simp -implicitDefEqProofs [List.getD_eq_getElem?_getD,h]
 rw [e3];have:(List.take j ts[i]).length<=ts[i].length:=by rw [List.length_take]; omega
 simp only [List.length_append,List.flatten_append,List.flatten_cons,List.flatten_nil,List.append_nil];omega
theorem IK {ts:List (List FileD)} {i:Nat} (j:Nat) (h:i < ts.length):(dx ts i j).length<=ts.flatten.length:=by unfold dx; rw [List.length_map]; exact DI j h
def apI (ts:List (List FileD)):Inv:=⟨Nat,fun i=>⟨[(2,true,.nil),(3,true,.own 9 1 (aa (dx ts i 0))),(8,true,.sl true 1 (jW ts)),(9,true,.int .i64 ts.length),(10,true,.int .i64 i)],[(9,.own 9 1 true (aa (dx ts i 0)))]⟩,fun i=>i<=ts.length,fun i=>ts.length - i⟩
def apJ (ts:List (List FileD)) (g:Nat):Inv:=⟨Nat,fun j=>⟨[(2,true,.nil),(3,true,.own 9 1 (aa (dx ts g j))),(8,true,.sl true 1 (jW ts)),(9,true,.int .i64 ts.length),(10,true,.int .i64 g),(14,true,.sl true 2 (ac (ts.getD g []))),(15,true,.int .i64 (ts.getD g []).length),(16,true,.int .i64 j)],[(9,.own 9 1 true (aa (dx ts g j)))]⟩,fun j=>g < ts.length/\j<=(ts.getD g []).length,fun j=>(ts.getD g []).length - j⟩
def pZ (ts:List (List FileD)) (n g:Nat):Inv:=if n=3 then apI ts else apJ ts g
theorem Be (ts g):pZ ts 3 g=apI ts:=rfl
theorem Bf (ts g):pZ ts 6 g=apJ ts g:=rfl
def qg:Con:=.fn 31 (List (List FileD)) (fun ts=>[.sl true 1 (jW ts)]) (fun ts=>ts.flatten.length<=1048576/\ts.length<=1048576) (fun ts=>.own 8 1 (aa (na ts))) (fun ts=>dw 8 (na ts))
theorem A7:Has Tryz.prog 226 qg:=by
 refine ah mixed fo (HasL.cons uZ (HasL.cons wP HasL.nil)) [0,2,3,5,7,8,9,10,14,15,16] (pZ) [] Tryz.func226 (by unfold Tryz.f226; rfl) (fun _=>⟨(),trivial⟩) ?_
 intro (ts:List (List FileD)) ha;obtain ⟨h1,h2⟩:ts.flatten.length<=1048576/\ts.length<=1048576:=ha;simp (maxSteps:=4000000) [qg,cSortS,cCompactS,Con.fn,dF,ag,Be,Bf,apI,apJ]
 try dsimp only
 refine fun _=>⟨⟨0,⟨⟨zz ts,rfl⟩,zz ts⟩,Nat.zero_le _⟩,fun i hi=>⟨fun hlt=>⟨hlt,fun _=>?_⟩,fun hge=>?_⟩⟩
 ·have qq:Option.map lX ts[i]? = some (lX ts[i]):=by simp -implicitDefEqProofs [hlt]
  have e3:ts[i]?.getD []=ts[i]:=by simp -implicitDefEqProofs [hlt]
  have e4:(ts[i]?.getD []).length=ts[i].length:=by rw [e3]
  have hb:∀ j,(dx ts i j).length<=ts.flatten.length:=fun j=>IK j hlt;rw [qq];simp -implicitDefEqProofs [lX,D.asRows];refine fun _=>⟨i,⟨0,⟨⟨rfl,rfl,by rw [e3],by rw [e3],rfl⟩,rfl⟩,hlt,Nat.zero_le _⟩,fun j hg hj=>⟨fun hjl=>⟨hjl,fun _=>?_⟩,fun hjg=>⟨by omega,fun _ _=>⟨i+1,⟨⟨?_,by omega⟩,?_⟩,by omega,by omega⟩⟩⟩⟩
  ·have q2:Option.map an (ts[i]?.getD [])[j]? = some (an (ts[i]?.getD [])[j]):=by simp -implicitDefEqProofs [hjl]
   have q3:dx ts i (j+1)=dx ts i j++[(ts[i]?.getD [])[j].path]:=IL (ts:=ts) (i:=i) (j:=j) hjl;have hbj:=hb j;rw [q2];simp -implicitDefEqProofs [an,D.asRows,D.asStr];refine ⟨⟨by omega,by omega⟩,by omega,fun _ _=>⟨j+1,⟨⟨?_,by omega⟩,?_⟩,⟨hg,by omega⟩,by omega⟩⟩
   ·rw [q3,<- aU]
   ·rw [q3,<- aU]
  ·rw [show j=(ts.getD i []).length by rw [List.getD_eq_getElem?_getD]; omega,zA hlt]
  ·rw [show j=(ts.getD i []).length by rw [List.getD_eq_getElem?_getD]; omega,zA hlt]
 ·have:i=ts.length:=by omega
  subst this;rw [kc,IJ,List.length_map];exact ⟨h1,h1,rfl,rfl⟩
def qw:Con:=.fn 16 (List FileD × Str) (fun a=>[.sl true 2 (ac a.1),.str a.2]) (fun a=>∀ f ∈ a.1,f.text.length<=1048576) (fun a=>.agg [.own 8 1 (aa (fN a.1 a.2).1),.bool (fN a.1 a.2).2]) (fun a=>dw 8 (fN a.1 a.2).1)
theorem D4:Has Tryz.prog 228 qw:=by
 refine ah mixed fo (HasL.cons xr HasL.nil) [0,1,4,5,6] ((fun a n (_:Nat)=>(fun _=>aw) a n)) [] Tryz.func228 (by unfold Tryz.f228; rfl) (fun _=>⟨(),trivial⟩) ?_
 intro a ha;obtain ⟨t,p⟩:=a;replace ha:∀ f ∈ t,f.text.length<=1048576:=ha;simp -implicitDefEqProofs [qw,nv,Con.fn,dF,ag]
 try dsimp only
 exact ⟨t,p,⟨rfl,rfl⟩,ha,fun h=>⟨⟨rfl,h⟩,rfl⟩,fun h=>⟨⟨rfl,h⟩,rfl⟩⟩
def dM (l:List Bool) (i:Int) (ks:List Int):List Bool:=ks.foldl (fun l k=>if k=i then l else l.set k.toNat false) l
theorem wJ (i:Int) (ks:List Int):∀ l:List Bool,(dM l i ks).length=l.length:=by
 induction ks with
 | nil=>intro l; rfl
 | cons p r ih =>
  intro l
  show (dM (if p=i then l else l.set p.toNat false) i r).length=_
  rw [ih]; split <;> simp
def aO (r:RepoD) (a b:Int):List Bool:=(List.range r.commits.length).map fun i=>isT (anc r a) i && isT (anc r b) i
theorem nV (r:RepoD) (a b:Int):(aO r a b).length=r.commits.length:=by simp -implicitDefEqProofs [aO]
def dK (r:RepoD) (L:List Int) (l:List Bool):List Bool:=L.foldl (fun l i=>dM l i (al (anc r i))) l
theorem ni (r:RepoD) (L:List Int):∀ l:List Bool,(dK r L l).length=l.length:=by
 induction L with
 | nil=>intro l; rfl
 | cons i L ih =>
  intro l
  show (dK r L (dM l i (al (anc r i)))).length=_
  rw [ih,wJ]
def db (r:RepoD) (a b:Int):List Int:=al (dK r (al (aO r a b)) (aO r a b))
theorem EJ {l:List Bool} {p g:Nat}:isT (l.set p false) g=(isT l g && !decide (p=g)):=by
 unfold isT;rw [List.getD_eq_getElem?_getD,List.getD_eq_getElem?_getD];by_cases h:p=g
 ·subst h;rw [List.getElem?_set_self'];cases l[p]? <;> simp
 ·rw [List.getElem?_set_ne h]; simp -implicitDefEqProofs [h]
theorem CK (i:Int) {ks:List Int} (hk:∀ k ∈ ks,0<=k) (g:Nat):∀ l:List Bool,isT (dM l i ks) g=(isT l g && (decide ((g:Int)=i) || !decide ((g:Int) ∈ ks))):=by
 induction ks with
 | nil=>intro l; simp -implicitDefEqProofs [dM]
 | cons p r ih =>
  intro l
  show isT (dM (if p=i then l else l.set p.toNat false) i r) g=_
  rw [ih (fun k hk'=>hk k (by simp -implicitDefEqProofs [hk']))]
  have hp:=hk p (by simp)
  split
  ·rename_i h;subst h;cases hq:isT l g <;> simp
   by_cases hg:(g:Int)=p
   ·simp -implicitDefEqProofs [hg]
   ·simp -implicitDefEqProofs [hg]
  ·rename_i h;rw [EJ];have e:(p.toNat=g)=((g:Int)=p):=by apply propext; omega
   cases hq:isT l g <;> simp -implicitDefEqProofs [e]
   by_cases hg:(g:Int)=p
   ·simp -implicitDefEqProofs [hg,h]
   ·simp -implicitDefEqProofs [hg]
theorem GO {l:List Bool}:∀ k ∈ al l,0<=k:=fun k hk=>by obtain ⟨i,_,_,rfl⟩:=listT_mem.1 hk; omega
theorem BI (r:RepoD) (L:List Int) (g:Nat):∀ l:List Bool,isT (dK r L l) g=(isT l g && L.all fun i=>decide ((g:Int)=i) || !decide ((g:Int) ∈ al (anc r i))):=by
 induction L with
 | nil=>intro l; simp -implicitDefEqProofs [dK]
 | cons i L ih =>
  intro l
  show isT (dK r L (dM l i (al (anc r i)))) g=_
  rw [ih,CK i GO,List.all_cons,Bool.and_assoc]
def lastB (r:RepoD) (L:List Int) (x:Int):Bool:=L.all fun y=>decide (x=y) || !decide (x ∈ al (anc r y))
theorem yn {l m:List Bool} (hl:l.length=m.length) (p:Int->Bool) (h:∀ g:Nat,isT m g=(isT l g && p g)):al m=(al l).filter p:=by
 unfold al dO;rw [<- hl,List.filter_map,List.filter_filter]
 congr 1
 apply List.filter_congr;intro g _;rw [h g,Bool.and_comm]; rfl
theorem BG (r:RepoD) (a b:Int):db r a b=(al (aO r a b)).filter (lastB r (al (aO r a b))) :=
 yn (ni _ _ _).symm _ fun g=>BI r _ g _
theorem tj {l:List Bool} {g:Nat} (h:isT l g=true):g < l.length:=by
 unfold isT at h;rcases Nat.lt_or_ge g l.length with h2 | h2
 ·exact h2
 ·rw [List.getD_eq_getElem?_getD,List.getElem?_eq_none h2] at h; simp at h
theorem EI {r:RepoD} {a b:Int} (g:Nat):isT (aO r a b) g=(isT (anc r a) g && isT (anc r b) g):=by
 have hla:=dH r a;rcases Nat.lt_or_ge g r.commits.length with h | h
 ·unfold aO;rw [isT,List.getD_eq_getElem?_getD,List.getElem?_map,List.getElem?_range h]; rfl
 ·have e1:isT (aO r a b) g=false:=by
   cases q:isT (aO r a b) g with
   | false=>rfl
   | true=>have:=tj q; rw [nV] at this; omega
  have e2:isT (anc r a) g=false:=by
   cases q:isT (anc r a) g with
   | false=>rfl
   | true=>have:=tj q; rw [hla] at this; omega
  rw [e1,e2]; rfl
theorem BK (r:RepoD) (a b:Int):b9 r a b (al (anc r a)).length=al (aO r a b):=by
 unfold b9;rw [List.take_length];refine (yn (by rw [nV,dH]) _ fun g=>?_).symm
 rw [EI]
 congr 1
 rw [Bool.eq_iff_iff,decide_eq_true_eq,listT_mem];constructor
 ·intro h; exact ⟨g,tj h,h,rfl⟩
 ·rintro ⟨i,_,h,e⟩;have:g=i:=by omega
  rw [this]; exact h
theorem GP (l:List Bool):(al l).Nodup:=by
 unfold al dO;rw [List.nodup_iff_pairwise_ne,List.pairwise_map];exact (List.Pairwise.filter _ List.pairwise_lt_range).imp fun h=>by omega
theorem DG {L:List Int} (p:Int->Bool):((List.range L.length).filter fun i=>p (L.getD i 0)).map (fun j=>L.getD j 0)=L.filter p:=by
 have e:L=(List.range L.length).map fun j=>L.getD j 0:=by
  apply List.ext_getElem
  ·simp
  ·intro i h1 h2;simp -implicitDefEqProofs [List.getD_eq_getElem?_getD,h1]
 have h:L.filter p=((List.range L.length).map fun j=>L.getD j 0).filter p:=congrArg (List.filter p) e;rw [h,List.filter_map]; rfl
theorem wt (r:RepoD) (a b:Int):db r a b=eK r a b:=by
 rw [BG];unfold eK;rw [BK];have hnd:=GP (aO r a b);generalize al (aO r a b)=L at *;rw [<- DG (lastB r L)];unfold dJ
 congr 1
 apply List.filter_congr;intro i hi;have hi:i < L.length:=by simpa using hi
 have gi:L.getD i 0=L[i]:=by simp -implicitDefEqProofs [List.getD_eq_getElem?_getD,hi]
 unfold lastB jK;rw [Bool.eq_iff_iff,List.all_eq_true,List.all_eq_true];simp only [List.mem_range,Bool.or_eq_true,decide_eq_true_eq,Bool.not_eq_true',decide_eq_false_iff_not];constructor
 ·intro h j hj;have gj:L.getD j 0=L[j]:=by simp -implicitDefEqProofs [List.getD_eq_getElem?_getD,hj]
  rcases h L[j] (List.getElem_mem hj) with h | h
  ·left
   rw [gi] at h;exact ((List.getElem_inj hnd).1 h).symm
  ·right; rw [gj]; exact h
 ·intro h y hy;obtain ⟨j,hj,rfl⟩:=List.getElem_of_mem hy;have gj:L.getD j 0=L[j]:=by simp -implicitDefEqProofs [List.getD_eq_getElem?_getD,hj]
  rcases h j hj with h | h
  ·left; subst h; exact gi
  ·right; rw [gj] at h; exact h
def owI (r:RepoD):Inv:=⟨Nat,fun i=>⟨[(2,true,.ptr 12 0),(3,true,.ptr 11 0),(12,true,.sl true 3 (az r.commits)),(13,true,.int .i64 r.commits.length),(14,true,.int .i64 i)],[(12,lH),(11,.box 35 [.own 13 3 (az (r.commits.take i)),.own 14 2 (ai r.heads)]),(13,.own 94 3 true (az (r.commits.take i))),(14,.own 96 2 true (ai r.heads))]⟩,fun i=>i<=r.commits.length,fun i=>r.commits.length - i⟩
def lP:Con:=.fn 35 RepoD (fun r=>[bh r]) cE (fun r=>.agg [.own 8 3 (az r.commits),.own 9 2 (ai r.heads)]) (fun r=>iD 8 r.commits++gD 9 r.heads)
theorem uB:Has Tryz.prog 56 lP:=by
 refine ah mixed ap (HasL.cons sI HasL.nil) [0,1,2,3,5,12,13,14] ((fun a n (_:Nat)=>(fun r _=>owI r) a n)) [30] Tryz.func56 (by unfold Tryz.f56; rfl) (fun _=>⟨(),trivial⟩) ?_
 intro (r:RepoD) hr;obtain ⟨h1,h2,h3⟩:r.commits.length<=1048576/\(∀ c ∈ r.commits,kI c)/\r.heads.length<=1048576:=hr;simp (maxSteps:=8000000) -implicitDefEqProofs [lP,lI,Con.fn,ag,owI,bu]
 try dsimp only
 refine ⟨xd r.heads,⟨by omega,by omega⟩,fun _=>⟨⟨0,⟨rfl,.inl rfl⟩,Nat.zero_le _⟩,fun t ht=>⟨fun hlt=>⟨hlt,fun _=>?_⟩,fun hge=>by rw [List.take_of_length_le hge]; exact ⟨rfl,rfl⟩⟩⟩⟩
 have e:r.commits.take (t+1)=r.commits.take t++[r.commits[t]]:=bM hlt;have hc:=h2 _ (List.getElem_mem hlt);have qq:Option.map ba r.commits[t]? = some (ba r.commits[t]):=by simp -implicitDefEqProofs [hlt]
 have hm:min t r.commits.length=t:=by omega
 rw [qq,hm];generalize r.commits[t]=c at *;simp -implicitDefEqProofs [ba];exact ⟨xe _,⟨by have:=hc.1; omega,by have:=hc.1; omega⟩,hc.2,⟨by omega,by omega⟩,⟨by omega,by omega⟩,fun _ _=>⟨t+1,⟨by omega,by rw [e,lW],by rw [e,lW]⟩,by omega,by omega⟩⟩
def ptL (l:List HeadD) (n:Str) (a:Int):List HeadD:=if l.any (fun h=>decide (h.name=n)) then l.set (l.findIdx fun h=>decide (h.name=n)) ⟨n,a⟩ else i6 l ⟨n,a⟩
theorem IO {l:List HeadD} {n:Str} {a:Int} {i:Nat} (hi:i < l.length) (hb:∀ j (hj:j < l.length),j < i -> ¬ l[j].name=n) (h:l[i].name=n):ptL l n a=l.set i ⟨n,a⟩:=by
 have e:l.findIdx (fun h=>decide (h.name=n))=i:=by
  rw [List.findIdx_eq hi];exact ⟨by simpa using h,fun j hj=>by simpa using hb j (by omega) hj⟩
 unfold ptL;rw [if_pos (List.any_eq_true.2 ⟨l[i],List.getElem_mem hi,by simpa using h⟩),e]
theorem IP {l:List HeadD} {n:Str} {a:Int} (hb:∀ j (hj:j < l.length),¬ l[j].name=n):ptL l n a=i6 l ⟨n,a⟩:=by
 unfold ptL;rw [if_neg];simp only [List.any_eq_true,decide_eq_true_eq,not_exists,not_and];intro x hx;obtain ⟨j,hj,rfl⟩:=List.getElem_of_mem hx;exact hb j hj
def lh (r:RepoD):List (Nat × Nat × Nat × List (List D)):=[(0,94,3,az r.commits),(1,96,2,ai r.heads)]
def poI (r:RepoD) (n:Str) (a:Int):Inv:=⟨Nat,fun i=>⟨[(1,true,.str n),(2,true,.int .i64 a),(3,true,.ptr 10 0),(6,true,.ptr 12 0),(10,true,.int .i64 r.heads.length),(11,true,.int .i64 i)],[(12,lH),(10,.box 35 [.own 13 3 (az r.commits),.own 14 2 (ai r.heads)]),(13,.own 94 3 true (az r.commits)),(14,.own 96 2 true (ai r.heads))]⟩,fun i=>i<=r.heads.length /\ ∀ j (hj:j < r.heads.length),j < i -> ¬ r.heads[j].name=n,fun i=>r.heads.length - i⟩
def nN:Con:={ A:=RepoD × Str × Int,X:=Unit,n:=38,args:=fun a=>[.agg [.own 0 3 (az a.1.commits),.own 1 2 (ai a.1.heads)],.str a.2.1,.int .i64 a.2.2],boxes:=fun _=>[],pre:=fun a=>a.1.heads.length<=1048576,post:=fun _ _=>True,res:=fun a _=>.agg [.own 8 3 (az a.1.commits),.own 9 2 (ai (ptL a.1.heads a.2.1 a.2.2))],fin:=fun a _=>iD 8 a.1.commits++gD 9 (ptL a.1.heads a.2.1 a.2.2),owns:=fun a=>lh a.1,mv:=true }
theorem zy:Has Tryz.prog 105 nN:=by
 refine ah mixed ap (HasL.cons EH HasL.nil) [0,1,2,3,6,7,10,11] ((fun a n (_:Nat)=>(fun a _=>poI a.1 a.2.1 a.2.2) a n)) [] Tryz.func105 (by unfold Tryz.f105; rfl) (fun _=>⟨(),trivial⟩) ?_
 intro a ha;obtain ⟨r,n,b⟩:=a;replace ha:r.heads.length<=1048576:=ha;simp (maxSteps:=8000000) -implicitDefEqProofs [nN,lh,qB,Con.fn,ag,poI]
 try dsimp only
 refine fun _ t ht hb=>⟨fun hlt=>⟨hlt,fun _=>?_⟩,fun hge=>?_⟩
 ·have qq:Option.map aW r.heads[t]? = some (aW r.heads[t]):=by simp -implicitDefEqProofs [hlt]
  have hh:=IO (a:=b) hlt hb;have hb2:¬ r.heads[t].name=n -> ∀ (j:Nat) (hj:j < r.heads.length),j < t+1 -> ¬ r.heads[j].name=n:=fun h j hj hjt=>by
   by_cases e:j=t
   ·subst e; exact h
   ·exact hb j hj (by omega)
  rw [qq];generalize r.heads[t]=f at *;simp -implicitDefEqProofs [aW];refine ⟨fun h=>⟨hlt,fun _=>⟨hlt,?_,?_⟩⟩,fun h=>⟨⟨by omega,by omega⟩,fun _ _=>⟨t+1,by omega,⟨by omega,hb2 h⟩,by omega⟩⟩⟩
  ·rw [hh h,<- h,<- wX]
  ·rw [hh h,<- h,<- wX]
 ·have e:=IP (a:=b) fun j hj=>hb j hj (by omega)
  exact ⟨r.heads,⟨n,b⟩,⟨rfl,rfl,rfl⟩,ha,e,e.symm⟩
def sk:Con:={ A:=RepoD × RepoD,X:=Unit,n:=12,args:=fun a=>[bh a.1,.agg [.own 0 3 (az a.2.commits),.own 1 2 (ai a.2.heads)]],boxes:=fun _=>[],pre:=fun a=>cE a.1/\fj a.2,post:=fun _ _=>True,res:=fun a _=>.tup [.agg [.own 8 3 (az (if aQ a.2 then a.2 else a.1).commits),.own 9 2 (ai (if aQ a.2 then a.2 else a.1).heads)],.bool (aQ a.2)],fin:=fun a _=>iD 8 (if aQ a.2 then a.2 else a.1).commits++gD 9 (if aQ a.2 then a.2 else a.1).heads,owns:=fun a=>lh a.2,mv:=true }
theorem Lh:Has Tryz.prog 107 sk:=by
 refine ah mixed ap (HasL.cons uB (HasL.cons lr HasL.nil)) [0,1,2,3,4,5] ((fun a n (_:Nat)=>(fun _=>aw) a n)) [] Tryz.func107 (by unfold Tryz.f107; rfl) (fun _=>⟨(),trivial⟩) ?_
 intro a ha;obtain ⟨r,x⟩:=a;obtain ⟨h1,h2⟩:cE r/\fj x:=ha;simp (maxSteps:=8000000) -implicitDefEqProofs [sk,lh,lP,iT,Con.fn,ag,bu]
 try dsimp only
 refine ⟨h2,fun h=>⟨h1,?_⟩,fun h=>?_⟩
 ·rw [if_neg (by simp -implicitDefEqProofs [h])]; exact ⟨⟨⟨rfl,rfl⟩,h⟩,rfl,rfl⟩
 ·rw [if_pos h]; exact ⟨⟨⟨rfl,rfl⟩,h⟩,rfl,rfl⟩
def cmL (r:RepoD) (n:Str) (c:CommitD):RepoD:=⟨r.commits++[c],ptL r.heads n r.commits.length⟩
def sD (a:RepoD × Str × Str × List FileD × List Int):List (Nat × Nat × Nat × List (List D)):=[(0,94,3,az a.1.commits),(1,96,2,ai a.1.heads),(2,3,1,aj a.2.2.2.2)]
def qp:Con:={ A:=RepoD × Str × Str × List FileD × List Int,X:=Unit,n:=28,args:=fun a=>[.agg [.own 0 3 (az a.1.commits),.own 1 2 (ai a.1.heads)],.str a.2.1,.str a.2.2.1,.sl true 2 (ac a.2.2.2.1),.own 2 1 (aj a.2.2.2.2)],boxes:=fun _=>[],pre:=fun a=>a.1.heads.length<=1048576/\a.1.commits.length<=1048576/\a.2.2.2.1.length<=1048576 /\ ∀ f ∈ a.2.2.2.1,f.text.length<=1048576,post:=fun _ _=>True,res:=fun a _=>.agg [.own 8 3 (az (cmL a.1 a.2.1 ⟨a.2.2.2.2,a.2.2.1,a.2.2.2.1⟩).commits),.own 9 2 (ai (cmL a.1 a.2.1 ⟨a.2.2.2.2,a.2.2.1,a.2.2.2.1⟩).heads)],fin:=fun a _=>iD 8 (cmL a.1 a.2.1 ⟨a.2.2.2.2,a.2.2.1,a.2.2.2.1⟩).commits++gD 9 (cmL a.1 a.2.1 ⟨a.2.2.2.2,a.2.2.1,a.2.2.2.1⟩).heads,owns:=sD,mv:=true }
theorem CX:Has Tryz.prog 108 qp:=by
 refine ah mixed ap (HasL.cons sI (HasL.cons zy HasL.nil)) [0,1,2,3,4,5,10] ((fun a n (_:Nat)=>(fun _=>aw) a n)) [18] Tryz.func108 (by unfold Tryz.f108; rfl) (fun _=>⟨(),trivial⟩) ?_
 intro a ha;obtain ⟨r,n,w,t,P⟩:=a;obtain ⟨h1,h2,h3,h4⟩:r.heads.length<=1048576/\r.commits.length<=1048576/\t.length<=1048576 /\ ∀ f ∈ t,f.text.length<=1048576:=ha;simp (maxSteps:=8000000) -implicitDefEqProofs [qp,sD,lh,nN,lI,Con.fn,ag,bu]
 try dsimp only
 have sn:az r.commits++[[D.sl 3 1 (aj P),D.str w,D.sl 119 2 (ac t)]]=az (r.commits++[⟨P,w,t⟩]):=lW _ _ _ _;rw [sn];exact ⟨⟨h3,h4⟩,⟨by omega,by omega⟩,fun _=>⟨by omega,fun _=>⟨⟨r.commits++[⟨P,w,t⟩],r.heads⟩,n,_,⟨⟨rfl,rfl⟩,rfl,rfl⟩,⟨rfl,rfl⟩,h1,⟨rfl,rfl⟩,rfl,rfl⟩⟩⟩
theorem Ei {k:Nat} {l:List HeadD} (h:dg k l=true):∀ i,0 < i->i < l.length->Go.Op.bytesLess (l.getD (i - 1) default).name (l.getD i default).name=true:=fun i h3 h4=>by
 have:=((gq _ _).1 h).2 i h4;unfold dQ at this;simp only [Bool.and_eq_true,Bool.or_eq_true,decide_eq_true_eq] at this;rcases this.2 with h5 | h5
 ·omega
 ·exact h5
theorem JU (n:Str) (a:Int):∀ (l:List HeadD),(l.Pairwise fun a b=>Go.Op.bytesLess a.name b.name=true)->(∃ x ∈ l,x.name=n)->l.set (l.findIdx fun h=>decide (h.name=n)) ⟨n,a⟩=l.map (hAt n a):=by
 intro l
 induction l with
 | nil=>rintro _ ⟨_,h,_⟩; cases h
 | cons g l ih =>
  intro hp hx;obtain ⟨hp1,hp2⟩:=List.pairwise_cons.1 hp;by_cases hg:g.name=n
  ·have hne:∀ z ∈ l,¬ z.name=n:=fun z hz hc=>by
    have:=hp1 z hz;rw [hg,hc,oQ] at this;cases this
   have e3:l.map (hAt n a)=l:=by
    have:l.map (hAt n a)=l.map id:=List.map_congr_left fun z hz=>by simp -implicitDefEqProofs [hAt,hne z hz]
    rw [this]; simp
   simp -implicitDefEqProofs [List.findIdx_cons,hg,e3,hAt]
  ·obtain ⟨z,hz,hzn⟩:=hx;have hz:z ∈ l:=by
    rcases List.mem_cons.1 hz with rfl | hz
    ·exact absurd hzn hg
    ·exact hz
   have:=ih hp2 ⟨z,hz,hzn⟩;simp -implicitDefEqProofs [List.findIdx_cons,hg,this,hAt]
theorem zB {k:Nat} {l:List HeadD} {n:Str} {a:Int} (h:dg k l=true):ptL l n a=cS l n a:=by
 have hs:=Ei h;unfold ptL;split
 ·rename_i hn;have hn:∃ x ∈ l,x.name=n:=by simpa using hn
  rw [xw hs hn];exact JU n a l (od hs) hn
 ·rename_i hn;have hn:∀ h ∈ l,¬ h.name=n:=by simpa using hn
  exact (D2 hs hn).symm
def zd (r:RepoD):Prop:=∀ i,i < r.commits.length -> ∀ p ∈ (r.commits.getD i default).parents,0<=p/\p < (i:Int)
inductive Rch (r:RepoD) (a:Nat):Nat->Prop
 | refl:Rch r a a
 | step {x:Nat} {p:Int}:Rch r a x->p ∈ (r.commits.getD x default).parents->Rch r a p.toNat
theorem Rch.trans {r:RepoD} {a b c:Nat} (h1:Rch r a b) (h2:Rch r b c):Rch r a c:=by
 induction h2 with
 | refl=>exact h1
 | step _ hp ih=>exact ih.step hp
theorem DW {l:List CommitD} {x:Nat} (h:l.length<=x):(l.getD x default).parents=[]:=by rw [List.getD_eq_getElem?_getD,List.getElem?_eq_none h]; rfl
theorem Rch.le {r:RepoD} {a x:Nat} (hp:zd r) (h:Rch r a x):x<=a:=by
 induction h with
 | refl=>omega
 | @step x p _ hq ih =>
  rcases Nat.lt_or_ge x r.commits.length with h1 | h1
  ·have:=hp x h1 p hq; omega
  ·rw [DW h1] at hq; cases hq
theorem Rch.more {r:RepoD} {cs:List CommitD} {hs:List HeadD} (hp:zd r) {a x:Nat} (ha:a < r.commits.length):Rch ⟨r.commits++cs,hs⟩ a x ↔ Rch r a x:=by
 have key:∀ x,x < r.commits.length->((r.commits++cs).getD x default)=r.commits.getD x default:=fun x hx=>by simp -implicitDefEqProofs [List.getD_eq_getElem?_getD,List.getElem?_append_left hx]
 constructor
 ·intro h;have:Rch r a x:=by
   induction h with
   | refl=>exact .refl
   | @step x p _ hq ih =>
    have hle:=ih.le hp;have hq:p ∈ ((r.commits++cs).getD x default).parents:=hq;rw [key x (by omega)] at hq
    exact ih.step hq
  exact this
 ·intro h
  induction h with
  | refl=>exact .refl
  | @step x p h0 hq ih =>
   have hle:=h0.le hp;refine ih.step ?_
   show p ∈ ((r.commits++cs).getD x default).parents
   rw [key x (by omega)]
   exact hq
def eP (n w i:Nat):List (List Int):=List.replicate i (List.replicate w 0)++List.replicate (n - i) []
theorem th {n w i:Nat} (h:i<=n):(eP n w i).length=n:=by simp -implicitDefEqProofs [eP]; omega
theorem xI (n w:Nat):aX (eP n w 0)=List.replicate n [D.sl 3 1 []]:=by simp -implicitDefEqProofs [eP,aX,gQ]
theorem xJ (n w:Nat):eP n w n=List.replicate n (List.replicate w 0):=by simp -implicitDefEqProofs [eP]
theorem xK {n w i:Nat} (h:i < n):(aX (eP n w i)).set i [D.sl 3 1 (List.replicate w [D.int .i64 0])]=aX (eP n w (i+1)):=by
 have e:(eP n w i).set i (List.replicate w 0)=eP n w (i+1):=by
  apply List.ext_getElem
  ·rw [List.length_set,th (by omega),th (by omega)]
  ·intro k h1 h2;rw [List.getElem_set];simp only [eP,List.getElem_append,List.length_replicate,List.getElem_replicate];by_cases hk:i=k
   ·subst hk; simp
   ·rw [if_neg hk];by_cases h3:k < i
    ·rw [dif_pos h3,dif_pos (by omega)]
    ·rw [dif_neg h3,dif_neg (by omega)]
 rw [<- e];simp -implicitDefEqProofs [aX,List.map_set,gQ,aj,aq]
def lcA (a b:List Str):Inv:=⟨Nat,fun i=>⟨[(0,true,.sl true 1 (aa a)),(1,true,.sl true 1 (aa b)),(4,true,.nil),(5,true,.own 9 1 (aX (eP (a.length+1) (b.length+1) i))),(14,true,.int .i64 (a.length+1:Nat)),(15,true,.int .i64 i)],[(9,.own 92 1 true (aX (eP (a.length+1) (b.length+1) i)))]⟩,fun i=>i<=a.length+1,fun i=>a.length+1 - i⟩
def lcB (a b:List Str):Inv:=⟨Nat,fun p=>⟨[(0,true,.sl true 1 (aa a)),(1,true,.sl true 1 (aa b)),(4,true,.nil),(5,true,.own 9 1 (aX (aJ a b p (b.length+1)))),(7,true,.int .i64 ((p:Int) - 1))],[(9,.own 92 1 true (aX (aJ a b p (b.length+1))))]⟩,fun p=>p<=a.length,fun p=>p⟩
def lcC (a b:List Str) (g:Nat):Inv:=⟨Nat,fun q=>⟨[(0,true,.sl true 1 (aa a)),(1,true,.sl true 1 (aa b)),(4,true,.nil),(5,true,.own 9 1 (aX (aJ a b g q))),(7,true,.int .i64 ((g:Int) - 1)),(8,true,.int .i64 ((q:Int) - 1))],[(9,.own 92 1 true (aX (aJ a b g q)))]⟩,fun q=>q<=b.length/\0 < g/\g<=a.length,fun q=>q⟩
def oO (a b:List Str) (n g:Nat):Inv:=if n=3 then lcA a b else if n=8 then lcB a b else lcC a b g
theorem Gz (a b g):oO a b 3 g=lcA a b:=rfl
theorem GA (a b g):oO a b 8 g=lcB a b:=rfl
theorem Gy (a b g):oO a b 11 g=lcC a b g:=rfl
def rp:Con:=.fn 89 (List Str × List Str) (fun a=>[.sl true 1 (aa a.1),.sl true 1 (aa a.2)]) (fun a=>a.1.length<=1048576/\a.2.length<=1048576) (fun a=>.own 8 1 (aX (aJ a.1 a.2 0 0))) (fun a=>[(8,.own 92 1 true (aX (aJ a.1 a.2 0 0)))])
theorem GB:Has Tryz.prog 218 rp:=by
 refine ah mixed ap HasL.nil [0,1,4,5,6,7,8,14,15] (fun a=>oO a.1 a.2) [] Tryz.func218 (by unfold Tryz.f218; rfl) (fun _=>⟨(),trivial⟩) ?_
 intro a ha;obtain ⟨a,b⟩:=a;obtain ⟨h1,h2⟩:a.length<=1048576/\b.length<=1048576:=ha;simp (maxSteps:=4000000) [rp,Con.fn,ag,Gz,GA,Gy,lcA,lcB,lcC]
 try dsimp only
 refine fun _=>⟨by omega,fun _ _=>⟨by omega,fun _ _ _ _=>⟨⟨0,⟨⟨xI _ _,rfl⟩,(xI _ _).symm⟩,Nat.zero_le _⟩,fun i hi=>⟨fun hlt _=>⟨by omega,fun _ _=>⟨by omega,fun _ _ _=>⟨by rw [th hi]; omega,fun hx=>⟨hx,by omega,fun _ _=>⟨i+1,⟨⟨(xK (by omega)).symm,by omega⟩,xK (by omega)⟩,by omega,by omega⟩⟩⟩⟩⟩,fun hge _=>⟨by omega,fun _ _=>⟨⟨a.length,⟨⟨?_,rfl⟩,?_⟩,Nat.le_refl _⟩,fun p hp=>⟨fun h1p _=>⟨by omega,fun _ _=>⟨p,⟨b.length,⟨⟨?_,rfl,rfl⟩,?_⟩,Nat.le_refl _,by omega,hp⟩,fun q hq hg hga=>⟨fun hq1=>?_,fun hq0=>⟨by omega,fun _ _=>⟨p - 1,⟨⟨?_,by omega⟩,?_⟩,by omega,by omega⟩⟩⟩⟩⟩,fun hp0=>?_⟩⟩⟩⟩⟩⟩⟩
 ·rw [show i=a.length+1 by omega,xJ,pB rfl]
 ·rw [show i=a.length+1 by omega,xJ,pB rfl]
 ·rw [pA]
 ·rw [pA]
 ·obtain ⟨T,hT⟩:∃ T,T=aJ a b p q:=⟨_,rfl⟩;have t1:=@pC a b p q;have t2:=jx (a:=a) (b:=b) (p:=p) (q:=q) (r:=p) (by omega)
  have t3:=jx (a:=a) (b:=b) (p:=p) (q:=q) (r:=p - 1) (by omega)
  have t4:a[p - 1]? = some a[p - 1]:=List.getElem?_eq_getElem (by omega)
  have t5:b[q - 1]? = some b[q - 1]:=List.getElem?_eq_getElem (by omega)
  have u1:=@jv a b p q p;have u2:=@jv a b p q (p - 1);have u3:(cu a b p q p)[q]? = some (lcs (a.drop p) (b.drop q)):=by rw [ii (by omega),if_pos (by omega)]
  have u4:(cu a b p q p)[q - 1]? = some (lcs (a.drop p) (b.drop (q - 1))):=by rw [ii (by omega),if_pos (by omega)]
  have u5:(cu a b p q (p - 1))[q]? = some (lcs (a.drop (p - 1)) (b.drop q)):=by rw [ii (by omega),if_pos (by omega)]
  have v1:=kV (a.drop p) (b.drop q);have v2:=kV (a.drop p) (b.drop (q - 1));have v3:=kV (a.drop (p - 1)) (b.drop q);have v4:(a.drop p).length<=a.length:=by simp
  have v5:(a.drop (p - 1)).length<=a.length:=by simp
  have w1:=Ab (a:=a) (b:=b) (p:=p) (q:=q) hg hga (by omega) hq
  have w2:=yd (a:=a) (b:=b) (p:=p) (q:=q) hg hga (by omega) hq
  rw [<- hT] at t1 t2 t3 w1 ⊢;clear hT;generalize lcs (a.drop p) (b.drop q)=L11 at *;generalize lcs (a.drop p) (b.drop (q - 1))=L10 at *;generalize lcs (a.drop (p - 1)) (b.drop q)=L01 at *;generalize cu a b p q p=rB at *;generalize cu a b p q (p - 1)=rA at *;simp -implicitDefEqProofs [t1,t2,t3,t4,t5,u1,u2,u3,u4,u5,aq,ak,D.asStr,gQ,D.asRows,D.asInt,and_assoc];have fin:∀ v,v=lcs (a.drop (p - 1)) (b.drop (q - 1)) -> ∃ t',aX (aJ a b p t')=(aX T).set (p - 1) [D.sl 3 1 ((aj rA).set (q - 1) [D.int .i64 v])]/\(t':Int)=q - 1/\(aX T).set (p - 1) [D.sl 3 1 ((aj rA).set (q - 1) [D.int .i64 v])]=aX (aJ a b p t')/\t'<=b.length/\0 < p/\p<=a.length/\t' < q :=
   fun v hv=>⟨q - 1,(w1 v hv).symm,by omega,w1 v hv,by omega,hg,hga,by omega⟩
  have fin1:=fun h=>fin (L11+1) (by rw [w2,if_pos h])
  have fin2:=fun (h:¬ a[p - 1]=b[q - 1])=>fin (if L10 < L01 then L01 else L10) (by rw [w2,if_neg h]; split <;> split <;> omega)
  clear w1 w2 fin
  repeat' (first | intro _ | apply And.intro)
  all_goals first | omega | exact fin1 (by assumption) | exact fin2 (by assumption)
 ·rw [show q=0 by omega,pD (by omega)]
 ·rw [show q=0 by omega,pD (by omega)]
 ·rw [show p=0 by omega,Ac]; exact ⟨rfl,rfl⟩
def maI (a b:List Str):Inv:=⟨Nat × Nat × List Int,fun t=>⟨[(0,true,.sl true 1 (aa a)),(1,true,.sl true 1 (aa b)),(4,true,.nil),(5,true,.own 9 1 (aX (aJ a b 0 0))),(6,true,.own 10 1 (aj t.2.2)),(8,true,.int .i64 t.2.1),(7,true,.int .i64 t.1)],[(9,.own 92 1 true (aX (aJ a b 0 0))),(10,.own 3 1 true (aj t.2.2))]⟩,
 fun t=>t.1<=a.length/\t.2.1<=b.length/\t.2.2.length=t.1/\t.2.2++mt (a.drop t.1) (b.drop t.2.1) t.2.1=mt a b 0,fun t=>(a.length - t.1)+(b.length - t.2.1)⟩
def nJ:Con:=.fn 72 (List Str × List Str) (fun a=>[.sl true 1 (aa a.1),.sl true 1 (aa a.2)]) (fun a=>a.1.length<=1048576/\a.2.length<=1048576) (fun a=>.own 8 1 (aj (mt a.1 a.2 0))) (fun a=>j7 8 (mt a.1 a.2 0))
theorem yq:Has Tryz.prog 168 nJ:=by
 refine ah mixed ap (HasL.cons GB HasL.nil) [0,1,4,5,6,7,8] ((fun a n (_:Nat)=>(fun a _=>maI a.1 a.2) a n)) [] Tryz.func168 (by unfold Tryz.f168; rfl) (fun _=>⟨(),trivial⟩) ?_
 intro a ha;obtain ⟨a,b⟩:=a;obtain ⟨h1,h2⟩:a.length<=1048576/\b.length<=1048576:=ha;simp (maxSteps:=4000000) [nJ,rp,Con.fn,ag,maI]
 try dsimp only
 refine ⟨a,b,⟨rfl,rfl⟩,⟨h1,h2⟩,⟨0,0,[],⟨⟨rfl,rfl,rfl,rfl⟩,rfl,rfl⟩,Nat.zero_le _,Nat.zero_le _,rfl,by simp⟩,fun i k out hi hk hl hm _=>⟨fun hlt=>?_,fun hge=>?_⟩⟩
 ·have t1:=@pC a b 0 0;have t2:=jx (a:=a) (b:=b) (p:=0) (q:=0) (r:=i) (by omega)
  have t3:=jx (a:=a) (b:=b) (p:=0) (q:=0) (r:=i+1) (by omega)
  have u1:=@jv a b 0 0 i;have u2:=@jv a b 0 0 (i+1);have t4:a[i]? = some a[i]:=List.getElem?_eq_getElem hlt;have m0:=yz (a:=a) (b:=b) (i:=i) (k:=k) hlt;rcases Nat.lt_or_ge k b.length with hkb | hkb
  ·have t5:b[k]? = some b[k]:=List.getElem?_eq_getElem hkb;have u3:(cu a b 0 0 (i+1))[k]? = some (lcs (a.drop (i+1)) (b.drop k)):=by rw [ii (by omega),if_pos (by omega)]
   have u4:(cu a b 0 0 i)[k+1]? = some (lcs (a.drop i) (b.drop (k+1))):=by rw [ii (by omega),if_pos (by omega)]
   have m1:=yA (a:=a) (b:=b) (i:=i) (k:=k) hlt hkb;generalize aJ a b 0 0=T at *;generalize cu a b 0 0 i=rA at *;generalize cu a b 0 0 (i+1)=rB at *;generalize lcs (a.drop (i+1)) (b.drop k)=L1 at *;generalize lcs (a.drop i) (b.drop (k+1))=L2 at *;have g1:¬ (k:Int)=b.length:=by omega
   have g3:¬ b.length<=k:=by omega
   obtain ⟨_,u6⟩:=List.getElem?_eq_some_iff.1 u4;simp -implicitDefEqProofs [hkb,g1,g3,t1,t2,t3,t4,t5,u1,u2,u3,u4,u6,aq,ak,D.asStr,gQ,D.asRows,D.asInt,and_assoc];refine ⟨hlt,fun _=>⟨fun e=>⟨by omega,by omega,by omega,by omega,fun _ _=>⟨by omega,by omega,fun _ _=>⟨i+1,k+1,out++[(k:Int)],fT _ _,by omega,by omega,(fT _ _).symm,by omega,by omega,by simp -implicitDefEqProofs [hl],?_,by omega⟩⟩⟩,fun e=>⟨by omega,by omega,fun _ _=>⟨by omega,hlt,fun _ _=>⟨by omega,fun _=>⟨by omega,fun _=>⟨by omega,by omega,fun _ _=>⟨by omega,fun _=>⟨fun c=>⟨by omega,by omega,by omega,by omega,fun _ _=>⟨i+1,k,out++[-1],fT _ _,by omega,by omega,(fT _ _).symm,by omega,by omega,by simp -implicitDefEqProofs [hl],?_,by omega⟩⟩,fun c=>⟨by omega,by omega,fun _ _=>⟨i,k+1,by omega,by omega,by omega,by omega,hl,?_,by omega⟩⟩⟩⟩⟩⟩⟩⟩⟩⟩⟩
   ·rw [<- hm,m1,if_pos e]; simp
   ·rw [<- hm,m1,if_neg e,if_pos c]; simp
   ·rw [<- hm,m1,if_neg e,if_neg (by omega)]
  ·have g1:¬ k < b.length:=by omega
   have g2:(k:Int)=b.length:=by omega
   simp -implicitDefEqProofs [hkb,g1,g2,t4,ak,D.asStr,and_assoc];refine ⟨by omega,by omega,by omega,by omega,fun _ _=>⟨i+1,k,out++[-1],fT _ _,by omega,by omega,(fT _ _).symm,by omega,by omega,by simp -implicitDefEqProofs [hl],?_,by omega⟩⟩
   rw [<- hm,m0 (by omega)]; simp
 ·rw [List.drop_eq_nil_of_le hge,mt,List.append_nil] at hm;exact ⟨hm.symm,hm⟩
def lnP (l:List Str):PartD:=⟨false,l,[],[],[]⟩
def uP (a:List Str × List PartD):List (Nat × Blk):=[(0,.box 258 [.own 8 5 (au (be a.2 (lnP a.1)))]),(8,.own 278 5 true (au (be a.2 (lnP a.1))))]
def rT:Con:={ A:=List Str × List PartD,X:=Unit,n:=36,args:=fun a=>[.sl true 1 (aa a.1),.ptr 0 0],boxes:=fun a=>[(0,258,[.own 1 5 (au a.2)])],pre:=fun a=>a.1.length<=1073741824/\a.2.length<=1048576 /\ ∀ q ∈ a.2,q.lines.length<=1073741824,post:=fun _ _=>True,res:=fun _ _=>.tup [],fin:=fun a _=>uP a,owns:=fun a=>[(1,278,5,au a.2)],nob:=false,mv:=true }
theorem Jr:Has Tryz.prog 303 rT:=by
 refine ah mixed ap HasL.nil [0,1,3] ((fun a n (_:Nat)=>(fun _=>aw) a n)) [12287,12321,16409,16410] Tryz.func303 (by unfold Tryz.f303; rfl) (fun _=>⟨(),trivial⟩) ?_
 intro a ha;obtain ⟨x,l⟩:=a;obtain ⟨h1,h2,h3⟩:x.length<=1073741824/\l.length<=1048576 /\ ∀ q ∈ l,q.lines.length<=1073741824:=ha;simp -implicitDefEqProofs [rT,uP,Con.fn,ag]
 try dsimp only
 have f:∀ (t:List Str),∀ x ∈ aa t,∀ d ∈ x,match d with | .sl _ _ _=>False | _=>True:=fun t=>(eStrs_flat t).mpr trivial
 have sn:∀ k:List PartD,au k++[[D.bool false,D.sl 9 1 (aa x),D.sl 9 1 [],D.sl 9 1 [],D.sl 9 1 []]]=au (k++[lnP x]):=fun k=>by simp -implicitDefEqProofs [au,cH,lnP]
 rw [sn];have hlc:(lnP x).clash=false:=rfl;have hll:(lnP x).lines=x:=rfl;have e0:x=[]->be l (lnP x)=l:=fun h=>iH hlc (by rw [hll]; exact h)
 rcases List.eq_nil_or_concat l with rfl | ⟨m,q,rfl⟩
 ·have e4:¬ x=[]->be [] (lnP x)=[lnP x]:=fun h=>iI (by rw [hll]; simp -implicitDefEqProofs [h])
  clear hll hlc;simp
  repeat' (first | intro _ | apply And.intro)
  all_goals first | omega | exact f _ | exact f _ _ (by assumption) _ (by assumption) | exact e0 (by assumption) | exact (e0 (by assumption)).symm | exact e4 (by assumption) | exact (e4 (by assumption)).symm
 ·have he:∀ r,(au m++[r])[m.length]? = some r:=fun r=>by rw [List.getElem?_append_right (by simp)]; simp
  have hs:∀ r,(au (m++[q])).set m.length r=au m++[r]:=fun r=>by simp -implicitDefEqProofs [au]
  have hq:(m++[q])[m.length]? = some q:=by simp
  have hql:=h3 q (by simp)
  have ee:∀ r r',(au m++[r]=au (m++[r']))=(r=cH r'):=fun r r'=>by simp -implicitDefEqProofs [au]
  have h2:m.length+1<=1048576:=by simpa using h2
  have e1:q.clash=false -> ¬ x=[]->be (m++[q]) (lnP x)=m++[⟨q.clash,q.lines++x,q.old,q.one,q.two⟩]:=fun h h'=>mD h hlc (by rw [hll]; exact h')
  have e2:q.clash=true -> ¬ x=[]->be (m++[q]) (lnP x)=m++[q]++[lnP x]:=fun h h'=>mE h (by rw [hll]; simp -implicitDefEqProofs [h'])
  clear hll hlc;rw [List.concat_eq_append] at e0;simp -implicitDefEqProofs [he,hs,cH,D.asBool,D.asRows]
  repeat' (first | intro _ | apply And.intro)
  all_goals first | omega | exact f _ | exact f _ _ (by assumption) _ (by assumption) | exact e0 (by assumption) | exact (e0 (by assumption)).symm | (rw [e1 (by assumption) (by assumption)]; simp -implicitDefEqProofs [au,cH,aa]; done) | (rw [e2 (by assumption) (by assumption)]; simp; done)
--TAB dF
def lJ:Con:=.fn 26 (List Str × List Str) (fun a=>[.sl true 1 (aa a.1),.sl true 1 (aa a.2)]) (fun _=>True) (fun a=>.bool (decide (a.1=a.2))) (fun _=>[])
theorem sP:Has Tryz.prog 88 lJ:=by
 refine ah mixed fo HasL.nil [0,1,4,5,12,13] ((fun a n (_:Nat)=>(fun a _=>⟨Nat,fun i=>⟨[(0,true,.sl true 1 (aa a.1)),(1,true,.sl true 1 (aa a.2)),(4,true,.bool false),(12,true,.int .i64 a.1.length),(13,true,.int .i64 i)],[]⟩,fun i=>i<=a.1.length/\a.1.length=a.2.length/\a.1.take i=a.2.take i,fun i=>a.1.length - i⟩) a n)) [] Tryz.func88 (by unfold Tryz.f88; rfl) (fun _=>⟨(),trivial⟩) ?_
 intro a _;obtain ⟨l,r⟩:=a;simp -implicitDefEqProofs [lJ,Con.fn,dF,ag]
 try dsimp only
 try simp +contextual -implicitDefEqProofs [ak,an,bP,bn,bQ,List.getElem?_eq_getElem,bX,bV,bN,bU,<- bw,<- bS,bj,bp,bW,bT,aU,bH,and_assoc]
 repeat' (first | intro _ | apply And.intro)
 all_goals first | omega | grind [cm,lZ,lY]
def ls (a b:List Str × Bool):Bool:=decide (a.2=b.2) && decide (a.1=b.1)
def qy:Con:=.fn 17 ((List Str × Bool) × (List Str × Bool)) (fun a=>[.agg [.sl true 1 (aa a.1.1),.bool a.1.2],.agg [.sl true 1 (aa a.2.1),.bool a.2.2]]) (fun _=>True) (fun a=>.bool (ls a.1 a.2)) (fun _=>[])
theorem D6:Has Tryz.prog 262 qy:=by
 refine ah mixed fo (HasL.cons sP HasL.nil) [0,1,2,3,4] ((fun a n (_:Nat)=>(fun _=>aw) a n)) [] Tryz.func262 (by unfold Tryz.f262; rfl) (fun _=>⟨(),trivial⟩) ?_
 intro a _;obtain ⟨⟨x,p⟩,y,q⟩:=a;simp -implicitDefEqProofs [-kStep_move,-Bool.exists_bool,qy,lJ,Con.fn,dF,ag]
 try dsimp only
 exact ⟨x,y,⟨rfl,rfl⟩,rfl⟩
def qi:Con:=.fn 17 (List Str × List Str × List Str) (fun a=>[.sl true 1 (aa a.1),.sl true 1 (aa a.2.1),.sl true 1 (aa a.2.2)]) (fun _=>True) (fun a=>.bool (aD a.1 && aD a.2.1 && aD a.2.2)) (fun _=>[])
theorem Bj:Has Tryz.prog 300 qi:=by
 refine ah mixed fo (HasL.cons vf HasL.nil) [0,1,2,6] ((fun a n (_:Nat)=>(fun _=>aw) a n)) [] Tryz.func300 (by unfold Tryz.f300; rfl) (fun _=>⟨(),trivial⟩) ?_
 intro a _;obtain ⟨x,y,z⟩:=a;simp -implicitDefEqProofs [-kStep_move,-Bool.exists_bool,qi,lR,Con.fn,dF,ag]
 try dsimp only
 cases aD x <;> cases aD y <;> simp
def cY (t:List FileD):Prop:=∀ f ∈ t,f.path.length<=536870912
def nq:Con:=.fn 17 (List FileD × List FileD × List FileD) (fun a=>[.sl true 2 (ac a.1),.sl true 2 (ac a.2.1),.sl true 2 (ac a.2.2)]) (fun a=>cY a.1/\cY a.2.1/\cY a.2.2) (fun a=>.bool (aC a.1 && aC a.2.1 && aC a.2.2)) (fun _=>[])
theorem vX:Has Tryz.prog 176 nq:=by
 refine ah mixed fo (HasL.cons pG HasL.nil) [0,1,2,6] ((fun a n (_:Nat)=>(fun _=>aw) a n)) [] Tryz.func176 (by unfold Tryz.f176; rfl) (fun _=>⟨(),trivial⟩) ?_
 intro a ha;obtain ⟨x,y,z⟩:=a;obtain ⟨h1,h2,h3⟩:cY x/\cY y/\cY z:=ha;simp -implicitDefEqProofs [-kStep_move,-Bool.exists_bool,nq,kG,Con.fn,dF,ag]
 try dsimp only
 refine ⟨h1,fun h=>⟨h,h2⟩,fun h h'=>⟨⟨h,h'⟩,h3⟩,?_⟩;cases aC x <;> cases aC y <;> simp
def kC:Con:=.fn 21 (RepoD × Str) (fun a=>[bh a.1,.str a.2]) (fun _=>True) (fun a=>.int .i64 (atL a.1.heads a.2)) (fun _=>[])
theorem ng:Has Tryz.prog 43 kC:=by
 refine ah mixed fo HasL.nil [0,1,2,4,6,8,9,10] ((fun a n (_:Nat)=>(fun a _=>⟨Nat,fun i=>⟨[(1,true,.str a.2),(4,true,.int .i64 0),(8,true,.sl true 2 (ai a.1.heads)),(9,true,.int .i64 a.1.heads.length),(10,true,.int .i64 i)],[]⟩,fun i=>i<=a.1.heads.length/\atL (a.1.heads.drop i) a.2=atL a.1.heads a.2,fun i=>a.1.heads.length - i⟩) a n)) [] Tryz.func43 (by unfold Tryz.f43; rfl) (fun _=>⟨(),trivial⟩) ?_
 intro a _;obtain ⟨r,n⟩:=a;simp -implicitDefEqProofs [kC,Con.fn,dF,ag]
 try dsimp only
 refine fun _ t ht hm=>⟨fun hlt=>⟨hlt,fun _=>?_⟩,fun hge=>by rw [<- hm,List.drop_eq_nil_of_le hge]; rfl⟩
 have qq:Option.map aW r.heads[t]? = some (aW r.heads[t]):=by simp -implicitDefEqProofs [hlt]
 rw [List.drop_eq_getElem_cons hlt] at hm;rw [qq];generalize r.heads[t]=f at *;have hm:(if f.name=n then f.at_ else atL (r.heads.drop (t+1)) n)=atL r.heads n:=hm
 simp -implicitDefEqProofs [aW];refine ⟨fun h=>by rw [if_pos h] at hm; exact hm.symm,fun h=>⟨⟨by omega,by omega⟩,fun _ _=>⟨t+1,by omega,⟨by omega,?_⟩,by omega⟩⟩⟩
 rw [if_neg h] at hm;exact hm
def moI (o a b:List Str):Inv:=⟨Nat × S3,fun x=>⟨[(0,true,.sl true 1 (aa o)),(1,true,.sl true 1 (aa a)),(2,true,.sl true 1 (aa b)),(6,true,.nil),(7,true,.own 11 1 (aj (mtE o a))),(8,true,.own 12 1 (aj (mtE o b))),(9,true,.ptr 10 0),(10,true,.clo 303 [.ptr 10 0]),(11,true,.int .i64 x.2.io),(12,true,.int .i64 x.2.ia),(13,true,.int .i64 x.2.ib),(34,true,.int .i64 (o.length+1:Nat)),(35,true,.int .i64 x.1)],
 [(10,.box 258 [.own 9 5 (au x.2.out)]),(9,.own 278 5 true (au x.2.out)),(11,.own 3 1 true (aj (mtE o a))),(12,.own 3 1 true (aj (mtE o b)))]⟩,fun x=>x.1<=o.length+1/\x.2=cF o a b x.1,fun x=>o.length+1 - x.1⟩
def rz:Con:=.fn 122 (List Str × List Str × List Str) (fun a=>[.sl true 1 (aa a.1),.sl true 1 (aa a.2.1),.sl true 1 (aa a.2.2)]) (fun a=>a.1.length<=100000/\a.2.1.length<=100000/\a.2.2.length<=100000) (fun a=>.own 8 5 (au (of3 a.1 a.2.1 a.2.2))) (fun a=>uA 8 (of3 a.1 a.2.1 a.2.2))
theorem GU:Has Tryz.prog 301 rz:=by
 refine ah mixed ap (HasL.cons yq (HasL.cons lV (HasL.cons sP (HasL.cons Jr HasL.nil)))) [0,1,2,6,7,8,9,10,11,12,13,14,15,16,17,34,35] ((fun a n (_:Nat)=>(fun a _=>moI a.1 a.2.1 a.2.2) a n)) [76] Tryz.func301 (by unfold Tryz.f301; rfl) (fun _=>⟨(),trivial⟩) ?_
 intro a ha;obtain ⟨o,a,b⟩:=a;obtain ⟨h1,h2,h3⟩:o.length<=100000/\a.length<=100000/\b.length<=100000:=ha;have sn:∀ x:List Str,aj (mt o x 0)++[[D.int .i64 x.length]]=aj (mtE o x):=fun x=>by simp -implicitDefEqProofs [mtE,aj,aq]
 simp (maxSteps:=8000000) [-kStep_move,-Bool.exists_bool,rz,nJ,jL,lJ,rT,uP,Con.fn,ag,moI,sn]
 try dsimp only
 refine ⟨o,a,⟨rfl,rfl⟩,⟨by omega,by omega⟩,fun _=>⟨by rw [iC]; omega,o,b,⟨rfl,rfl⟩,⟨by omega,by omega⟩,fun _=>⟨by rw [iC]; omega,fun _=>⟨⟨0,⟨⟨(sn a).symm,(sn b).symm,rfl,rfl,rfl,by rw [iC],rfl⟩,rfl,sn a,sn b⟩,Nat.zero_le _⟩,fun i hi=>⟨fun hlt=>?_,fun hge=>?_⟩⟩⟩⟩⟩
 ·have hi2:i < o.length+1:=by omega
  have R:cF o a b (i+1)=iM o a b ((mtE o a).getD i 0) ((mtE o b).getD i 0) i (cF o a b i):=rfl;obtain ⟨k1,k2,k3,k4,k5,k6,k7⟩:=mn o a b i (by omega)
  have la:=gU o a;have lb:=gU o b;have ha1:i < (mtE o a).length:=by omega
  have hb1:i < (mtE o b).length:=by omega
  have ga:(mtE o a).getD i 0=(mtE o a)[i]:=by simp -implicitDefEqProofs [List.getD_eq_getElem?_getD,ha1]
  have gb:(mtE o b).getD i 0=(mtE o b)[i]:=by simp -implicitDefEqProofs [List.getD_eq_getElem?_getD,hb1]
  have e1:Option.map aq (mtE o a)[i]? = some (aq (mtE o a)[i]):=by simp -implicitDefEqProofs [ha1]
  have e2:Option.map aq (mtE o b)[i]? = some (aq (mtE o b)[i]):=by simp -implicitDefEqProofs [hb1]
  have k4:=gI (l:=mtE o a) ha1 k4;have k5:=gI (l:=mtE o b) hb1 k5;rw [ga,gb] at R;rw [e1,e2];generalize (mtE o a)[i]=x at *;generalize (mtE o b)[i]=y at *;have kx:0<=x->((cF o a b i).ia:Int)<=x/\x<=a.length:=fun h=>by rcases k4 with k4 | k4 <;> omega
  have ky:0<=y->((cF o a b i).ib:Int)<=y/\y<=b.length:=fun h=>by rcases k5 with k5 | k5 <;> omega
  clear k4 k5;generalize cF o a b i=s at *;have tk:∀ (l:List Str) (p q:Nat),List.take (q - p) (List.drop p (aa l))=aa ((l.take q).drop p):=fun l p q=>by rw [List.drop_take]; simp -implicitDefEqProofs [aa]
  have tk1:∀ (h:i < o.length),List.take 1 (List.drop i (aa o))=aa [o.getD i []]:=fun h=>by
   have:=tk o i (i+1);rw [show i+1 - i=1 by omega] at this
   rw [this]
   congr 1
   rw [bM h,List.drop_append_of_le_length (by simp; omega)]
   simp -implicitDefEqProofs [h,List.getD_eq_getElem?_getD]
  have ln:∀ (l:List Str) (p q:Nat),((l.take q).drop p).length<=l.length:=fun l p q=>by simp; omega
  generalize hO:(o.take i).drop s.io=O at *;generalize hA:(a.take x.toNat).drop s.ia=A at *;generalize hB:(b.take y.toNat).drop s.ib=B at *;have lO:O.length<=100000:=by rw [<- hO]; have:=ln o s.io i; omega
  have lA:A.length<=100000:=by rw [<- hA]; have:=ln a s.ia x.toNat; omega
  have lB:B.length<=100000:=by rw [<- hB]; have:=ln b s.ib y.toNat; omega
  have R0:(x < 0 \/ y < 0)->cF o a b (i+1)=s:=fun h=>by rw [R]; unfold iM; rw [if_pos h]
  have R1:0<=x->0<=y->cF o a b (i+1)=⟨i+1,x.toNat+1,y.toNat+1,if i < o.length then be (be s.out (aZ O A B)) ⟨false,[o.getD i []],[],[],[]⟩ else be s.out (aZ O A B)⟩:=fun h h'=>by rw [R]; unfold iM; rw [if_neg (by omega),hO,hA,hB]
  clear R;have T:∀ (p:PartD),p.lines.length<=100000->(be s.out p).length<=1048576 /\ ∀ q ∈ be s.out p,q.lines.length<=1073741824:=fun p hp=>by
   have b1:=o9 s.out p;exact ⟨by omega,fun q hq=>by have:=o7 k7 q hq; omega⟩
  have k7':∀ q ∈ s.out,q.lines.length<=1073741824:=fun q hq=>by have:=k7 q hq; omega
  simp -implicitDefEqProofs [aq,D.asInt,ha1,hb1,tk];refine ⟨fun h=>⟨⟨by omega,by omega⟩,fun _ _=>⟨i+1,s,⟨⟨rfl,rfl,rfl,by omega⟩,rfl,rfl⟩,⟨by omega,(R0 h).symm⟩,by omega⟩⟩,fun hx hy=>⟨⟨k1,by omega⟩,fun _ hio=>⟨kx hx,fun _ _=>⟨ky hy,fun _ _=>?_⟩⟩⟩⟩
  have R1:=R1 hx hy;have F:∀ out',out'=(cF o a b (i+1)).out -> ∃ (n:Nat) (t:S3),(((t.io:Int)=i+1/\(t.ia:Int)=x+1/\(t.ib:Int)=y+1/\(n:Int)=i+1)/\t.out=out'/\out'=t.out)/\(n<=o.length+1/\t=cF o a b n)/\o.length+1 - n < o.length+1 - i:=fun out' h =>
   ⟨i+1,cF o a b (i+1),⟨⟨by rw [R1]; simp,by rw [R1]; simp; omega,by rw [R1]; simp; omega,by omega⟩,h.symm,h⟩,⟨by omega,rfl⟩,by omega⟩
  have R2:i < o.length->be (be s.out (aZ O A B)) (lnP [o.getD i []])=(cF o a b (i+1)).out:=fun h=>by rw [R1]; simp only [if_pos h]; rfl
  have R3:o.length<=i->be s.out (aZ O A B)=(cF o a b (i+1)).out:=fun h=>by rw [R1]; simp only [if_neg (show ¬ i < o.length by omega)]
  clear R1 R0;rw [hO,hA,hB];refine ⟨A,O,⟨rfl,rfl⟩,A,B,⟨rfl,rfl⟩,fun hc=>?_,fun c1 c2=>⟨B,O,⟨rfl,rfl⟩,fun c3=>?_,fun c3=>?_⟩⟩
  ·have hp:aZ O A B=lnP B:=by unfold aZ; rw [if_pos hc]; rfl
   rw [hp] at R2 R3;have T:=T (lnP B) lB;exact ⟨⟨by omega,by omega,k7'⟩,fun _=>⟨fun h=>⟨⟨by omega,by omega⟩,fun _ _=>⟨⟨by omega,by omega⟩,fun _ _=>⟨[o.getD i []],(tk1 h).symm,⟨by simp,T.1,T.2⟩,⟨by omega,by omega⟩,fun _ _=>⟨⟨by omega,by omega⟩,fun _ _=>⟨⟨by omega,by omega⟩,fun _ _=>⟨⟨by omega,by omega⟩,fun _ _=>F _ (R2 h)⟩⟩⟩⟩⟩⟩,
    fun h=>⟨⟨by omega,by omega⟩,fun _ _=>⟨⟨by omega,by omega⟩,fun _ _=>⟨⟨by omega,by omega⟩,fun _ _=>⟨⟨by omega,by omega⟩,fun _ _=>F _ (R3 h)⟩⟩⟩⟩⟩⟩
  ·have hp:aZ O A B=lnP A:=by unfold aZ; rw [if_neg (by rintro (q | q); exact c1 q; exact c2 q),if_pos c3]; rfl
   rw [hp] at R2 R3;have T:=T (lnP A) lA;exact ⟨⟨by omega,by omega,k7'⟩,fun _=>⟨fun h=>⟨⟨by omega,by omega⟩,fun _ _=>⟨⟨by omega,by omega⟩,fun _ _=>⟨[o.getD i []],(tk1 h).symm,⟨by simp,T.1,T.2⟩,⟨by omega,by omega⟩,fun _ _=>⟨⟨by omega,by omega⟩,fun _ _=>⟨⟨by omega,by omega⟩,fun _ _=>⟨⟨by omega,by omega⟩,fun _ _=>F _ (R2 h)⟩⟩⟩⟩⟩⟩,
    fun h=>⟨⟨by omega,by omega⟩,fun _ _=>⟨⟨by omega,by omega⟩,fun _ _=>⟨⟨by omega,by omega⟩,fun _ _=>⟨⟨by omega,by omega⟩,fun _ _=>F _ (R3 h)⟩⟩⟩⟩⟩⟩
  ·have hp:aZ O A B=⟨true,[],O,A,B⟩:=by unfold aZ; rw [if_neg (by rintro (q | q); exact c1 q; exact c2 q),if_neg c3]
   have sn2:au s.out++[[D.bool true,D.sl 9 1 [],D.sl 9 1 (aa O),D.sl 9 1 (aa A),D.sl 9 1 (aa B)]]=au (be s.out (aZ O A B)):=by rw [hp,mF rfl,Dv]; rfl
   have T:=T (aZ O A B) (by rw [hp]; simp)
   exact ⟨by omega,by omega,by omega,⟨by omega,by omega⟩,fun _=>⟨fun h=>⟨⟨by omega,by omega⟩,fun _ _=>⟨⟨by omega,by omega⟩,fun _ _=>⟨[o.getD i []],(tk1 h).symm,be s.out (aZ O A B),sn2.symm,sn2,⟨by simp,T.1,T.2⟩,⟨by omega,by omega⟩,fun _ _=>⟨⟨by omega,by omega⟩,fun _ _=>⟨⟨by omega,by omega⟩,fun _ _=>⟨⟨by omega,by omega⟩,fun _ _=>F _ (R2 h)⟩⟩⟩⟩⟩⟩,
    fun h=>⟨⟨by omega,by omega⟩,fun _ _=>⟨⟨by omega,by omega⟩,fun _ _=>⟨⟨by omega,by omega⟩,fun _ _=>⟨⟨by omega,by omega⟩,fun _ _=>by
     obtain ⟨n,t,⟨q1,q2,q3⟩,q4⟩:=F _ (R3 h);exact ⟨n,t,⟨q1,by rw [sn2,q2],by rw [sn2,q2]⟩,q4⟩⟩⟩⟩⟩⟩⟩
 ·have:i=o.length+1:=by omega
  subst this;exact ⟨rfl,rfl⟩
--TAB dF
def rE:Con:=.fn 4 PartD (fun q=>[.agg [.bool q.clash,.sl true 1 (aa q.lines),.sl true 1 (aa q.old),.sl true 1 (aa q.one),.sl true 1 (aa q.two)]]) (fun _=>True) (fun _=>.tup [.sl true 1 [],.bool false]) (fun _=>[])
theorem G0:Has Tryz.prog 288 rE:=by
 refine ah mixed fo HasL.nil [0,2,3] ((fun a n (_:Nat)=>(fun _=>aw) a n)) [] Tryz.func288 (by unfold Tryz.f288; rfl) (fun _=>⟨(),trivial⟩) ?_
 intro (q:PartD) _;simp -implicitDefEqProofs [rE,Con.fn,dF,ag]
theorem Ho {o a b:List Str} (h1:aD o=true) (h2:aD a=true) (h3:aD b=true):(of3 o a b).length<=22 /\ ∀ q ∈ of3 o a b,q.lines.length<=33:=by
 obtain ⟨k1,k2,k3,_,_,k6,k7⟩:=mn o a b (o.length+1) (Nat.le_refl _);have l1:=kg h1;have l2:=kg h2;have l3:=kg h3;refine ⟨?_,fun q hq=>?_⟩
 ·show (cF o a b (o.length+1)).out.length<=22
  omega
 ·have:=k7 q hq;omega
theorem ym {l:List PartD} {n:Nat} (h:∀ q ∈ l,q.lines.length<=n):∀ i,i<=l.length->(ci l i).length<=i * n
 | 0,_=>by simp -implicitDefEqProofs [ci]
 | i+1,hi=>by
  have e:ci l (i+1)=ci l i++l[i].lines:=by unfold ci; rw [bM (show i < l.length by omega),List.flatMap_append]; simp
  have h1:=h l[i] (List.getElem_mem _);have h2:=ym h i (by omega)
  rw [e,List.length_append,Nat.succ_mul]; omega
def ev (o a b:List Str):List Str × Bool:=if aD o && aD a && aD b then cN (of3 o a b) else ([],false)
def rD:Con:=.fn 51 (List Str × List Str × List Str) (fun a=>[.sl true 1 (aa a.1),.sl true 1 (aa a.2.1),.sl true 1 (aa a.2.2),.clo 288 []]) (fun a=>True) (fun a=>.tup [.own 8 1 (aa (ev a.1 a.2.1 a.2.2).1),.bool (ev a.1 a.2.1 a.2.2).2]) (fun a=>dw 8 (ev a.1 a.2.1 a.2.2).1)
theorem GW:Has Tryz.prog 287 rD:=by
 refine ah mixed fo (HasL.cons Bj (HasL.cons GU (HasL.cons G0 (HasL.cons vf HasL.nil)))) [0,1,2,3,8,9,10,12,13,14,15,24,25,26] ((fun a n (_:Nat)=>(fun a _=>⟨Nat,fun i=>⟨[(3,true,.clo 288 []),(8,true,.nil),(9,true,.bool false),(10,true,.own 9 1 (aa (ci (of3 a.1 a.2.1 a.2.2) i))),(24,true,.own 10 5 (au (of3 a.1 a.2.1 a.2.2))),(25,true,.int .i64 (of3 a.1 a.2.1 a.2.2).length),(26,true,.int .i64 i)],[(9,.own 9 1 true (aa (ci (of3 a.1 a.2.1 a.2.2) i))),(10,.own 278 5 true (au (of3 a.1 a.2.1 a.2.2)))]⟩,fun i=>i<=(of3 a.1 a.2.1 a.2.2).length/\((of3 a.1 a.2.1 a.2.2).take i).any (·.clash)=false/\aD a.1=true/\aD a.2.1=true/\aD a.2.2=true,fun i=>(of3 a.1 a.2.1 a.2.2).length - i⟩) a n)) [] Tryz.func287 (by unfold Tryz.f287; rfl) (fun _=>⟨(),trivial⟩) ?_
 intro a _;obtain ⟨o,a,b⟩:=a;simp (maxSteps:=8000000) -implicitDefEqProofs [-kStep_move,-Bool.exists_bool,rD,qi,rz,rE,lR,Con.fn,dF,ag]
 try dsimp only
 have f:∀ (t:List Str),∀ x ∈ aa t,∀ d ∈ x,match d with | .sl _ _ _=>False | _=>True:=fun t=>(eStrs_flat t).mpr trivial
 have m0:(aD o=false \/ aD a=false) \/ aD b=false->ev o a b=([],false):=fun h=>by unfold ev; rw [if_neg]; rcases h with (h | h) | h <;> simp -implicitDefEqProofs [h]
 refine ⟨o,a,b,⟨rfl,rfl,rfl⟩,fun h=>by rw [m0 h]; exact ⟨⟨rfl,rfl⟩,rfl⟩,fun b1 b2 b3=>?_⟩
 have m1:ev o a b=cN (of3 o a b):=by unfold ev; rw [b1,b2,b3]; rfl
 obtain ⟨d1,d2⟩:=Ho b1 b2 b3;have l1:=kg b1;have l2:=kg b2;have l3:=kg b3;rw [m1];clear m0 m1;refine ⟨o,a,b,⟨rfl,rfl,rfl⟩,⟨by omega,by omega,by omega⟩,fun _=>?_⟩
 generalize of3 o a b=l at *;have ll:=ym d2;have hn0:(∃ q ∈ l,q.clash=true)->cN l=([],false):=fun ⟨q,h,h'⟩=>by unfold cN; rw [if_pos (by simp; exact ⟨q,h,h'⟩)]
 have hn1:(∀ q ∈ l,q.clash=false)->aD (ci l l.length)=false->cN l=([],false):=fun h h'=>by unfold cN ci at *; rw [List.take_length] at h'; rw [if_neg (by simp; exact h),if_neg (by simp -implicitDefEqProofs [h'])]
 have hn2:(∀ q ∈ l,q.clash=false)->aD (ci l l.length)=true->cN l=(ci l l.length,true):=fun h h'=>by unfold cN ci at *; rw [List.take_length] at *; rw [if_neg (by simp; exact h),if_pos h']
 refine ⟨⟨0,⟨⟨rfl,rfl,rfl,rfl⟩,rfl,rfl⟩,Nat.zero_le _,by simp,b1,b2,b3⟩,fun t ht hc c1 c2 c3=>⟨fun hlt=>⟨hlt,fun _=>?_⟩,fun hge=>?_⟩⟩
 ·have e:ci l (t+1)=ci l t++l[t].lines:=by unfold ci; rw [bM hlt,List.flatMap_append]; simp
  have q1:=d2 l[t] (List.getElem_mem hlt);have q2:=ll t ht;have q3:l[t] ∈ l:=List.getElem_mem hlt;have q4:∀ x ∈ l.take (t+1),x ∈ l.take t \/ x=l[t]:=fun x hx=>by rw [bM hlt] at hx; exact (List.mem_append.1 hx).imp id (fun h=>List.mem_singleton.1 h)
  have qq:Option.map cH l[t]? = some (cH l[t]):=by simp -implicitDefEqProofs [hlt]
  rw [qq];generalize l[t]=q at *;simp -implicitDefEqProofs [cH];refine ⟨fun h=>(by rw [hn0 ⟨q,q3,h⟩]; exact ⟨⟨rfl,rfl⟩,rfl⟩),fun h=>⟨f _,⟨by omega,by omega⟩,⟨by omega,by omega⟩,fun _ _=>⟨t+1,⟨⟨by rw [e,bw],by omega⟩,by rw [e,bw]⟩,⟨by omega,fun x hx=>(q4 x hx).elim (hc x) (fun hx=>hx ▸ h),c1,c2,c3⟩,by omega⟩⟩⟩
 ·have:t=l.length:=by omega
  subst this;rw [List.take_length] at hc;exact ⟨fun h=>by rw [hn1 hc h]; exact ⟨⟨rfl,rfl⟩,rfl⟩,fun h=>by rw [hn2 hc h]; exact ⟨⟨rfl,rfl⟩,rfl⟩⟩
def rC:Con:=.fn 14 (List Str × List Str × List Str) (fun a=>[.sl true 1 (aa a.1),.sl true 1 (aa a.2.1),.sl true 1 (aa a.2.2)]) (fun a=>True) (fun a=>.tup [.own 8 1 (aa (ev a.1 a.2.1 a.2.2).1),.bool (ev a.1 a.2.1 a.2.2).2]) (fun a=>dw 8 (ev a.1 a.2.1 a.2.2).1)
theorem GV:Has Tryz.prog 263 rC:=by
 refine ah mixed fo (HasL.cons GW HasL.nil) [0,1,2,6,7] ((fun a n (_:Nat)=>(fun _=>aw) a n)) [] Tryz.func263 (by unfold Tryz.f263; rfl) (fun _=>⟨(),trivial⟩) ?_
 intro a _;obtain ⟨o,a,b⟩:=a;simp (maxSteps:=8000000) -implicitDefEqProofs [rC,rD,Con.fn,dF,ag]
 try dsimp only
 exact ⟨o,a,b,⟨rfl,rfl,rfl⟩,⟨rfl,rfl⟩,rfl⟩
def eY (o a b:List Str × Bool):(List Str × Bool) × Int :=
 if ls a o || ls a b then (b,0) else if ls b o then (a,0) else if !a.2 || !b.2 then (o,1) else if !o.2 then (o,2)
 else if (ev o.1 a.1 b.1).2 then ((( ev o.1 a.1 b.1).1,true),0) else (o,3)
def tp (a:(List Str × Bool) × (List Str × Bool) × (List Str × Bool)):List (Nat × Nat × Nat × List (List D)):=[(0,9,1,aa a.1.1),(1,9,1,aa a.2.1.1),(2,9,1,aa a.2.2.1)]
def tm (a:(List Str × Bool) × (List Str × Bool) × (List Str × Bool)):List AV:=[.agg [.own 0 1 (aa a.1.1),.bool a.1.2],.agg [.own 1 1 (aa a.2.1.1),.bool a.2.1.2],.agg [.own 2 1 (aa a.2.2.1),.bool a.2.2.2]]
def qC:Con:={ A:=(List Str × Bool) × (List Str × Bool) × (List Str × Bool),X:=Unit,n:=55,args:=tm,boxes:=fun _=>[],pre:=fun _=>True,post:=fun _ _=>True,res:=fun a _=>.tup [.agg [.own 8 1 (aa (eY a.1 a.2.1 a.2.2).1.1),.bool (eY a.1 a.2.1 a.2.2).1.2],.int .i64 (eY a.1 a.2.1 a.2.2).2],fin:=fun a _=>[(8,.own 9 1 true (aa (eY a.1 a.2.1 a.2.2).1.1))],owns:=tp,mv:=true }
theorem EL:Has Tryz.prog 227 qC:=by
 refine ah mixed fo (HasL.cons D6 (HasL.cons GV HasL.nil)) [0,1,2,3,4,5,6,7,8,9] ((fun a n (_:Nat)=>(fun _=>aw) a n)) [] Tryz.func227 (by unfold Tryz.f227; rfl) (fun _=>⟨(),trivial⟩) ?_
 intro a _;obtain ⟨⟨o,p⟩,⟨a,q⟩,b,r⟩:=a;simp (maxSteps:=8000000) -implicitDefEqProofs [-kStep_move,-kStepC_move,-Bool.exists_bool,qC,tm,tp,qy,rC,Con.fn,dF,ag]
 try dsimp only
 have fin:∀ (x:(List Str × Bool) × Int) (t:List Str) (d:Bool) (n:Int),x=((t,d),n)->((x.1.1=t/\x.1.2=d)/\x.2=n)/\t=x.1.1:=fun x t d n h=>by subst h; exact ⟨⟨⟨rfl,rfl⟩,rfl⟩,rfl⟩
 refine ⟨a,q,o,p,⟨⟨rfl,rfl⟩,rfl,rfl⟩,a,q,b,r,⟨⟨rfl,rfl⟩,rfl,rfl⟩,fun h=>fin _ _ _ _ ?_,fun h1 h2=>⟨b,r,o,p,⟨⟨rfl,rfl⟩,rfl,rfl⟩,fun h3=>fin _ _ _ _ ?_,fun h3=>⟨fun h4=>fin _ _ _ _ ?_,fun h4 h5=>⟨fun h6=>fin _ _ _ _ ?_,fun h6=>⟨o,a,b,⟨rfl,rfl,rfl⟩,fun h7=>fin _ _ _ _ ?_,fun h7=>fin _ _ _ _ ?_⟩⟩⟩⟩⟩
 ·unfold eY; rw [if_pos (by simpa using h)]
 ·unfold eY; rw [if_neg (by simp -implicitDefEqProofs [h1,h2]),if_pos h3]
 ·unfold eY; rw [if_neg (by simp -implicitDefEqProofs [h1,h2]),if_neg (by simp -implicitDefEqProofs [h3]),if_pos (by simpa using h4)]
 ·unfold eY; rw [if_neg (by simp -implicitDefEqProofs [h1,h2]),if_neg (by simp -implicitDefEqProofs [h3]),if_neg (by simp -implicitDefEqProofs [h4,h5]),if_pos (by simpa using h6)]
 ·unfold eY; rw [if_neg (by simp -implicitDefEqProofs [h1,h2]),if_neg (by simp -implicitDefEqProofs [h3]),if_neg (by simp -implicitDefEqProofs [h4,h5]),if_neg (by simp -implicitDefEqProofs [h6]),if_neg (by simp -implicitDefEqProofs [h7])]
 ·unfold eY; rw [if_neg (by simp -implicitDefEqProofs [h1,h2]),if_neg (by simp -implicitDefEqProofs [h3]),if_neg (by simp -implicitDefEqProofs [h4,h5]),if_neg (by simp -implicitDefEqProofs [h6]),if_pos h7]
--TAB dF
theorem sY {t:List FileD} {p:Str} (h:(am t p).2=false):(am t p).1=[]:=by
 induction t with
 | nil=>rfl
 | cons f t ih =>
  unfold am at h ⊢;split
  ·rename_i e; rw [if_pos e] at h; cases h
  ·rename_i e; rw [if_neg e] at h; exact ih h
theorem same_eq {x y:List Str × Bool} (hx:x.2=false->x.1=[]) (hy:y.2=false->y.1=[]):ls x y=cJ x y:=by
 unfold ls cJ;cases h:x.2 <;> cases h':y.2 <;> simp
 rw [hx h,hy h']
theorem s5 {t:List FileD} (h:aC t=true) (p:Str):aD (am t p).1=true:=by
 simp only [aC,Bool.and_eq_true,decide_eq_true_eq,List.all_eq_true,List.mem_range] at h;have hf:∀ f ∈ t,aD f.text=true:=by
  intro f hf;obtain ⟨i,hi,rfl⟩:=List.getElem_of_mem hf;have:=(h.2 i hi).1;simp only [dB,Bool.and_eq_true] at this;have e:t.getD i default=t[i]:=by simp -implicitDefEqProofs [List.getD_eq_getElem?_getD,hi]
  rw [e] at this;exact this.1.1
 clear h
 induction t with
 | nil=>rfl
 | cons f t ih =>
  unfold am;split
  ·exact hf f (by simp)
  ·exact ih fun g hg=>hf g (by simp -implicitDefEqProofs [hg])
theorem HE {o a b:List FileD} (ho:aC o=true) (ha:aC a=true) (hb:aC b=true) (p:Str):eY (am o p) (am a p) (am b p)=(((bF o a b p).1,(bF o a b p).2.1),(bF o a b p).2.2):=by
 have m:ev (am o p).1 (am a p).1 (am b p).1=cN (of3 (am o p).1 (am a p).1 (am b p).1):=by unfold ev; rw [s5 ho,s5 ha,s5 hb]; rfl
 have n1:=@sY o p;have n2:=@sY a p;have n3:=@sY b p;unfold eY bF;rw [same_eq n2 n1,same_eq n2 n3,same_eq n3 n1,m];split
 ·rfl
 ·split
  ·rfl
  ·split
   ·rfl
   ·split
    ·rename_i h;have h:(am o p).2=false:=by simpa using h
     rw [<- n1 h,<- h]
    ·rename_i h;have h:(am o p).2=true:=by simpa using h
     split
     ·rfl
     ·rw [<- h]
def gS (o a b:List FileD):List FileD × List HeadD:=if aC o && aC a && aC b then bE o a b else ([],[])
theorem JL (o a b:List FileD) (l:List Str):∀ f ∈ (c8 o a b l).1,f.path ∈ l:=by
 have:∀ (l:List Str) (s:List FileD × List HeadD),∀ f ∈ (l.foldl (stepJ o a b) s).1,f ∈ s.1 \/ f.path ∈ l:=by
  intro l
  induction l with
  | nil=>intro s f hf; exact .inl hf
  | cons p l ih =>
   intro s f hf;rcases ih _ f hf with h | h
   ·have h:f ∈ (if (bF o a b p).2.1 then s.1++[⟨p,(bF o a b p).1⟩] else s.1):=h
    split at h
    ·rcases List.mem_append.1 h with h | h
     ·exact .inl h
     ·have:f=⟨p,(bF o a b p).1⟩:=by simpa using h
      subst this; exact .inr (by simp)
    ·exact .inl h
   ·exact .inr (by simp -implicitDefEqProofs [h])
 intro f hf;exact (this l ([],[]) f hf).resolve_left (by simp)
theorem JM {o a b:List FileD} (h1:cY o) (h2:cY a) (h3:cY b) (i:Nat):cY (c8 o a b ((aP o a b).take i)).1:=by
 intro f hf;have h:=List.mem_of_mem_take (JL o a b _ f hf);have h:=((zw o a b).2 f.path).1 h;simp only [List.map_append,List.mem_append,List.mem_map] at h;rcases h with (⟨g,hg,e⟩ | ⟨g,hg,e⟩) | ⟨g,hg,e⟩
 ·rw [<- e]; exact h1 g hg
 ·rw [<- e]; exact h2 g hg
 ·rw [<- e]; exact h3 g hg
theorem HC (o a b:List FileD) (p:Str):0<=(bF o a b p).2.2:=by
 unfold bF
 repeat' split
 all_goals simp
def joI (o a b:List FileD):Inv:=⟨Nat,fun i=>⟨[(0,true,.sl true 2 (ac o)),(1,true,.sl true 2 (ac a)),(2,true,.sl true 2 (ac b)),(6,true,.nil),(7,true,.nil),(8,true,.own 9 2 (ac (c8 o a b ((aP o a b).take i)).1)),(9,true,.own 10 2 (ai (c8 o a b ((aP o a b).take i)).2)),(23,true,.own 11 1 (aa (aP o a b))),(24,true,.int .i64 (aP o a b).length),(25,true,.int .i64 i)],[(9,.own 119 2 true (ac (c8 o a b ((aP o a b).take i)).1)),(10,.own 181 2 true (ai (c8 o a b ((aP o a b).take i)).2)),(11,.own 9 1 true (aa (aP o a b)))]⟩,fun i=>i<=(aP o a b).length/\aC o=true/\aC a=true/\aC b=true,fun i=>(aP o a b).length - i⟩
def qD:Con:=.fn 74 (List FileD × List FileD × List FileD) (fun a=>[.sl true 2 (ac a.1),.sl true 2 (ac a.2.1),.sl true 2 (ac a.2.2)]) (fun a=>cY a.1/\cY a.2.1/\cY a.2.2) (fun a=>.tup [.own 8 2 (ac (gS a.1 a.2.1 a.2.2).1),.own 9 2 (ai (gS a.1 a.2.1 a.2.2).2)]) (fun a=>jh 8 (gS a.1 a.2.1 a.2.2).1++[(9,.own 181 2 true (ai (gS a.1 a.2.1 a.2.2).2))])
theorem EM:Has Tryz.prog 177 qD:=by
 refine ah mixed fo (HasL.cons vX (HasL.cons A7 (HasL.cons D4 (HasL.cons EL (HasL.cons pG (HasL.cons sI HasL.nil)))))) [0,1,2,6,7,8,9,11,12,13,23,24,25] ((fun a n (_:Nat)=>(fun a _=>joI a.1 a.2.1 a.2.2) a n)) [] Tryz.func177 (by unfold Tryz.f177; rfl) (fun _=>⟨(),trivial⟩) ?_
 intro a ha;obtain ⟨o,a,b⟩:=a;obtain ⟨h1,h2,h3⟩:cY o/\cY a/\cY b:=ha;simp (maxSteps:=8000000) -implicitDefEqProofs [-kStep_move,-Bool.exists_bool,qD,nq,qg,qw,qC,tm,tp,kG,lI,Con.fn,dF,ag,joI]
 try dsimp only
 have j0:(aC o=false \/ aC a=false) \/ aC b=false->gS o a b=([],[]):=fun h=>by unfold gS; rw [if_neg]; rcases h with (h | h) | h <;> simp -implicitDefEqProofs [h]
 refine ⟨o,a,b,⟨rfl,rfl,rfl⟩,⟨h1,h2,h3⟩,fun h=>by rw [j0 h]; exact ⟨rfl,rfl⟩,fun b1 b2 b3=>?_⟩
 have o8:=vo o b1;have a8:=vo a b2;have b8:=vo b b3;have hp:=zv o a b;refine ⟨[o,a,b],rfl,⟨by simp; omega,by simp⟩,fun _=>⟨⟨0,⟨⟨rfl,rfl,(pW o a b).symm,by rw [pW],rfl⟩,rfl,rfl,pW o a b⟩,Nat.zero_le _,b1,b2,b3⟩,fun t ht c1 c2 c3=>⟨fun hlt=>⟨hlt,fun _=>?_⟩,fun hge=>?_⟩⟩⟩
 ·have qq:Option.map ak (aP o a b)[t]? = some (ak (aP o a b)[t]):=by simp -implicitDefEqProofs [hlt]
  have hs:=zS (o:=o) (a:=a) (b:=b) hlt;have hb:=zR o a b ((aP o a b).take t);have hl:((aP o a b).take t).length<=(aP o a b).length:=by simp; omega
  have ho:=yQ (p:=(aP o a b)[t]) (show 10<=64 by omega) o8.2 a8.2 b8.2
  have he:=HE b1 b2 b3 (aP o a b)[t];have hnn:=HC o a b (aP o a b)[t];rw [qq];generalize c8 o a b ((aP o a b).take t)=R at *;generalize (aP o a b)[t]=y at *;obtain ⟨X,Y⟩:=R;simp only at hb;simp -implicitDefEqProofs [-Bool.exists_bool,ak,D.asStr,sX];have z:∀ {t:List FileD},(∀ f ∈ t,f.text.length<=64) -> ∀ f ∈ t,f.text.length<=1048576:=fun h f hf=>by have:=h f hf; omega
  have he:eY ((am o y).1,(am o y).2) ((am a y).1,(am a y).2) ((am b y).1,(am b y).2)=(((bF o a b y).1,(bF o a b y).2.1),(bF o a b y).2.2):=he;refine ⟨o,y,⟨rfl,rfl⟩,z o8.2,a,y,⟨rfl,rfl⟩,z a8.2,b,y,⟨rfl,rfl⟩,z b8.2,_,_,_,_,_,_,⟨⟨rfl,rfl⟩,⟨rfl,rfl⟩,rfl,rfl⟩,⟨rfl,rfl,rfl⟩,?_⟩;rw [he];generalize hone:bF o a b y=O at *;obtain ⟨x1,x2,x3⟩:=O;have st:c8 o a b ((aP o a b).take (t+1))=(if x2=true then X++[⟨y,x1⟩] else X,if 0 < x3 then Y++[⟨y,x3⟩] else Y):=by rw [hs]; unfold stepJ; rw [hone]
  have snF:ac X++[[D.str y,D.sl 9 1 (aa x1)]]=ac (X++[⟨y,x1⟩]):=bH _ _ _;have snH:ai Y++[[D.str y,D.int .i64 x3]]=ai (Y++[⟨y,x3⟩]):=wY _ _ _;simp only at ho hnn ⊢;rw [snF,snH];refine ⟨fun h3=>⟨⟨by omega,by omega⟩,fun h2=>⟨⟨by omega,by omega⟩,⟨by omega,by omega⟩,fun _ _=>⟨t+1,?_⟩⟩,fun h2=>⟨⟨by omega,by omega⟩,fun _ _=>⟨t+1,?_⟩⟩⟩,fun h3=>⟨fun h2=>⟨⟨by omega,by omega⟩,⟨by omega,by omega⟩,fun _ _=>⟨t+1,?_⟩⟩,fun h2=>⟨⟨by omega,by omega⟩,fun _ _=>⟨t+1,?_⟩⟩⟩⟩
  ·rw [st,if_pos h2,if_pos (by omega)]; exact ⟨⟨⟨rfl,rfl,by omega⟩,rfl,rfl⟩,⟨by omega,b1,b2,b3⟩,by omega⟩
  ·rw [st,if_neg (by simp -implicitDefEqProofs [h2]),if_pos (by omega)]; exact ⟨⟨⟨rfl,rfl,by omega⟩,rfl,rfl⟩,⟨by omega,b1,b2,b3⟩,by omega⟩
  ·rw [st,if_pos h2,if_neg (by omega)]; exact ⟨⟨⟨rfl,rfl,by omega⟩,rfl,rfl⟩,⟨by omega,b1,b2,b3⟩,by omega⟩
  ·rw [st,if_neg (by simp -implicitDefEqProofs [h2]),if_neg (by omega)]; exact ⟨⟨⟨rfl,rfl,by omega⟩,rfl,rfl⟩,⟨by omega,b1,b2,b3⟩,by omega⟩
 ·have:t=(aP o a b).length:=by omega
  subst this;have hpt:=JM h1 h2 h3 (aP o a b).length;have hj:gS o a b=bE o a b:=by unfold gS; rw [b1,b2,b3]; rfl
  rw [List.take_length] at hpt ⊢;have e6:c8 o a b (aP o a b)=of6 o a b:=rfl;rw [e6] at hpt ⊢;rw [hj];refine fun _=>⟨fun h=>⟨h,hpt⟩,fun h h'=>?_,fun h=>?_⟩
  ·have e:bE o a b=(o,[⟨[],4⟩]):=by unfold bE; rw [if_pos ⟨h,by rw [<- fW]; exact h'⟩]
   rw [e];exact ⟨⟨by omega,fun f hf=>by have:=o8.2 f hf; omega⟩,⟨rfl,rfl⟩,rfl,rfl⟩
  ·have e:bE o a b=of6 o a b:=by unfold bE; rw [if_neg]; rintro ⟨q1,q2⟩; rw [<- fW,h q1] at q2; cases q2
   rw [e];exact ⟨⟨rfl,rfl⟩,rfl,rfl⟩
def eh (o a b:List FileD):List FileD × Bool:=if aC o && aC a && aC b then (if (bE o a b).2=[] then ((bE o a b).1,true) else ([],false)) else ([],false)
def qE:Con:=.fn 26 (List FileD × List FileD × List FileD) (fun a=>[.sl true 2 (ac a.1),.sl true 2 (ac a.2.1),.sl true 2 (ac a.2.2)]) (fun a=>cY a.1/\cY a.2.1/\cY a.2.2) (fun a=>.tup [.own 8 2 (ac (eh a.1 a.2.1 a.2.2).1),.bool (eh a.1 a.2.1 a.2.2).2]) (fun a=>jh 8 (eh a.1 a.2.1 a.2.2).1)
theorem EP:Has Tryz.prog 106 qE:=by
 refine ah mixed fo (HasL.cons vX (HasL.cons EM HasL.nil)) [0,1,2,6,7,8,9] ((fun a n (_:Nat)=>(fun _=>aw) a n)) [] Tryz.func106 (by unfold Tryz.f106; rfl) (fun _=>⟨(),trivial⟩) ?_
 intro a ha;obtain ⟨o,a,b⟩:=a;obtain ⟨h1,h2,h3⟩:cY o/\cY a/\cY b:=ha;simp (maxSteps:=8000000) -implicitDefEqProofs [-Bool.exists_bool,qE,nq,qD,Con.fn,dF,ag]
 try dsimp only
 have j0:(aC o=false \/ aC a=false) \/ aC b=false->eh o a b=([],false):=fun h=>by unfold eh; rw [if_neg]; rcases h with (h | h) | h <;> simp -implicitDefEqProofs [h]
 refine ⟨o,a,b,⟨rfl,rfl,rfl⟩,⟨h1,h2,h3⟩,fun h=>by rw [j0 h]; exact ⟨⟨rfl,rfl⟩,rfl⟩,fun b1 b2 b3=>⟨o,a,b,⟨rfl,rfl,rfl⟩,⟨h1,h2,h3⟩,fun _=>?_⟩⟩
 have e:gS o a b=bE o a b:=by unfold gS; rw [b1,b2,b3]; rfl
 have e2:eh o a b=if (bE o a b).2=[] then ((bE o a b).1,true) else ([],false):=by unfold eh; rw [b1,b2,b3]; rfl
 rw [e,e2];exact ⟨fun h=>by rw [if_neg (by intro q; rw [q] at h; simp at h)]; exact ⟨⟨rfl,rfl⟩,rfl⟩,fun h=>by rw [if_pos h]; exact ⟨⟨rfl,rfl⟩,rfl⟩⟩



theorem kQ {l:List Bool} {x:Int} (h0:0<=x) (h1:x.toNat < l.length):isT l x.toNat=decide (x ∈ al l):=by
 rw [Bool.eq_iff_iff,decide_eq_true_iff,listT_mem];constructor
 ·intro h; exact ⟨x.toNat,h1,h,by omega⟩
 ·rintro ⟨i,_,h2,rfl⟩
  simpa using h2
theorem mS {r:RepoD} (h:aQ r=true) {a:Int} (ha:0<=a/\a < r.commits.length):aC (aG r a)=true:=by
 have hi:a.toNat < r.commits.length:=by omega
 have:=(jr h hi).2.2;unfold aG
 rwa [List.getD_eq_getElem?_getD,List.getElem?_eq_getElem hi]
theorem wu {r:RepoD} {a b c:Int} (h:c ∈ db r a b):0<=c/\c < r.commits.length:=by
 unfold db at h;obtain ⟨i,hi,_,rfl⟩:=listT_mem.1 h;rw [ni,nV] at hi;omega
theorem wo {r:RepoD} (h:aQ r=true) (a b:Int):aC (cz r a b)=true:=by
 unfold cz;rw [<- wt];cases hq:(db r a b).getLast? with
 | none=>rfl
 | some c=>exact mS h (wu (List.mem_of_getLast? hq))
section
variable {r:RepoD} {n w:Str} {b:Int}
theorem Ln (h:aQ r=false):bC r n w b=(noR,1):=by unfold bC; rw [if_neg (by rw [<- dS,h]; simp)]
theorem Lj (h:aQ r=true) (h2:atL r.heads n < 0 \/ aM w=false \/ ¬ (0<=b/\b < r.commits.length)):bC r n w b=(r,1):=by unfold bC; rw [if_pos (by rw [<- dS,h]),if_pos h2]
theorem mT (h:aQ r=true) (h1:0<=atL r.heads n) (h2:aM w=true) (h3:0<=b/\b < r.commits.length):bC r n w b=dm r n w b:=by
 unfold bC; rw [if_pos (by rw [<- dS,h]),if_neg]
 rintro (q | q | q)
 ·omega
 ·rw [h2] at q; cases q
 ·exact q h3
theorem qa (h:aQ r=true) (h1:0<=atL r.heads n):atL r.heads n < r.commits.length:=by
 rw [dS] at h;rcases f8 (n:=n) ((c6 r).1 h).2.1 with q | q <;> omega
theorem Lk (h:aQ r=true) (h1:0<=atL r.heads n) (h2:aM w=true) (h3:0<=b/\b < r.commits.length) (h4:isT (anc r (atL r.heads n)) b.toNat=true):bC r n w b=(r,2):=by
 rw [mT h h1 h2 h3];rw [kQ h3.1 (by rw [dH]; omega),decide_eq_true_eq] at h4
 unfold dm;rw [if_pos h4]
theorem Ll (h:aQ r=true) (h1:0<=atL r.heads n) (h2:aM w=true) (h3:0<=b/\b < r.commits.length) (h4:isT (anc r (atL r.heads n)) b.toNat=false) (h5:isT (anc r b) (atL r.heads n).toNat=true) :
  bC r n w b=(⟨r.commits,ptL r.heads n b⟩,3):=by
 have hlt:=qa h h1;rw [mT h h1 h2 h3];rw [kQ h3.1 (by rw [dH]; omega),decide_eq_false_iff_not] at h4
 rw [kQ h1 (by rw [dH]; omega),decide_eq_true_eq] at h5
 unfold dm;rw [if_neg h4,if_pos h5];rw [dS] at h;rw [zB ((c6 r).1 h).2.1]
theorem CN (h:dg r.commits.length r.heads=true) {c:CommitD}:cmL r n c=da r n c:=by
 unfold cmL da;rw [zB h]
theorem EN {o a b:List FileD} (ho:aC o=true) (ha:aC a=true) (hb:aC b=true):eh o a b=if (bE o a b).2=[] then ((bE o a b).1,true) else ([],false):=by
 unfold eh;rw [ho,ha,hb];rfl
theorem Lm (h:aQ r=true) (h1:0<=atL r.heads n) (h2:aM w=true) (h3:0<=b/\b < r.commits.length) (h4:isT (anc r (atL r.heads n)) b.toNat=false) (h5:isT (anc r b) (atL r.heads n).toNat=false) :
  bC r n w b=if (eh (cz r (atL r.heads n) b) (aG r (atL r.heads n)) (aG r b)).2 then
   (if aQ (cmL r n ⟨[atL r.heads n,b],w,(eh (cz r (atL r.heads n) b) (aG r (atL r.heads n)) (aG r b)).1⟩) then (cmL r n ⟨[atL r.heads n,b],w,(eh (cz r (atL r.heads n) b) (aG r (atL r.heads n)) (aG r b)).1⟩,0) else (r,5))
   else (r,4):=by
 have hlt:=qa h h1;rw [mT h h1 h2 h3];rw [kQ h3.1 (by rw [dH]; omega),decide_eq_false_iff_not] at h4
 rw [kQ h1 (by rw [dH]; omega),decide_eq_false_iff_not] at h5
 unfold dm;rw [if_neg h4,if_neg h5,EN (wo h _ _) (mS h ⟨h1,hlt⟩) (mS h h3)];rw [dS] at h;have hH:=((c6 r).1 h).2.1;by_cases hj:(bE (cz r (atL r.heads n) b) (aG r (atL r.heads n)) (aG r b)).2=[]
 ·rw [if_pos hj,if_pos hj];simp only [if_true];rw [CN hH,dS]
 ·rw [if_neg hj,if_neg hj];simp
end
inductive Uni (r:RepoD) (n w:Str) (b:Int):RepoD × Int->Prop
 | form:Uni r n w b (r,1)
 | same:0<=atL r.heads n->atL r.heads n < r.commits.length->0<=b->b < r.commits.length->Rch r (atL r.heads n).toNat b.toNat->Uni r n w b (r,2)
 | on:0<=atL r.heads n->atL r.heads n < r.commits.length->0<=b->b < r.commits.length -> ¬ Rch r (atL r.heads n).toNat b.toNat->Rch r b.toNat (atL r.heads n).toNat->ar ⟨r.commits,cS r.heads n b⟩=true->Uni r n w b (⟨r.commits,cS r.heads n b⟩,3)
 | clash:0<=atL r.heads n->atL r.heads n < r.commits.length->0<=b->b < r.commits.length->(bE (cz r (atL r.heads n) b) (aG r (atL r.heads n)) (aG r b)).2 ≠ []->Uni r n w b (r,4)
 | full:Uni r n w b (r,5)
 | made (t:List FileD):0<=atL r.heads n->atL r.heads n < r.commits.length->0<=b->b < r.commits.length -> ¬ Rch r (atL r.heads n).toNat b.toNat -> ¬ Rch r b.toNat (atL r.heads n).toNat->bE (cz r (atL r.heads n) b) (aG r (atL r.heads n)) (aG r b)=(t,[]) ->
   ar (da r n ⟨[atL r.heads n,b],w,t⟩)=true->Uni r n w b (da r n ⟨[atL r.heads n,b],w,t⟩,0)


abbrev Srt (t:List FileD):Prop:=t.Pairwise fun a b=>a.path < b.path
theorem Le {t:List FileD} (h:aC t=true):Srt t:=by
 refine List.pairwise_iff_getElem.2 fun i j hi hj hij=>?_;have:=K9 h j i hij hj;rw [gv,decide_eq_true_eq] at this;exact this
end Vx
end Go.Proofs.YthgfdbfmnbgkaaaGreatDoor
