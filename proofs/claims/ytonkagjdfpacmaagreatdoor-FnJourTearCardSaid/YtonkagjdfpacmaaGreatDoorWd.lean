/-
  Joined by program (merge.py): Tp, Uo, Uy, Ym, RowR, RowZ, RowO, Yn, RowY, Mj, Mm, Mn, Ug, Bt, Yk, Eg, Sm, Sn, Te, Td, Mo, Tl, Tq, Yp, Yt, Yq. It shows what the single texts show; conditions: none but those of each lemma.
-/
import Derived.Test.YtonkagjdfpacmaaGreatDoorWc
set_option linter.unusedVariables false
set_option linter.unusedSimpArgs false
set_option linter.unusedSectionVars false
namespace Go.Proofs.YtonkagjdfpacmaaGreatDoor
namespace Vx
open Go.RowKit
set_option maxRecDepth 8000
--TAB aC
theorem JS:∀ {l:List CommitD},(∀ c ∈ l,c.parents.length<=2/\c.tree.length<=8 /\ ∀ f ∈ c.tree,f.text.length<=64) -> ∀ k:Int,kCs l k<=k+523 * l.length:=by
 intro l
 induction l with
 | nil=>intro _ k; simp -implicitDefEqProofs [kCs]
 | cons c l ih =>
  intro h k;obtain ⟨h1,h2,h3⟩:=h c (by simp)
  have h4:=(JU h2 h3 (k+c.parents.length+1)).2;have h5:=ih (fun x hx=>h x (by simp -implicitDefEqProofs [hx])) (kC c k)
  have h6:kC c k=kE c.tree (k+c.parents.length+1):=rfl;simp only [kCs,List.length_cons];omega
theorem Pf {r:RepoD} (h:aF r=true):kCs r.commits 1+2 * r.heads.length<=10000:=by
 have h1:=fK h;have hc:∀ c ∈ r.commits,c.parents.length<=2/\c.tree.length<=8 /\ ∀ f ∈ c.tree,f.text.length<=64:=fun c hc=>by
  obtain ⟨i,hi,rfl⟩:=List.getElem_of_mem hc;have h2:=(fL h hi).2.2;exact ⟨(fL h hi).1,mX _ (by rw [<- eE]; exact h2)⟩
 have hh:r.heads.length<=5:=by
  rw [cu] at h;exact ((iC _ _).1 ((cQ r).1 h).2.1).1
 have:=JS hc 1;omega
set_option maxHeartbeats 4000000
--TAB aC
def szO (o:OpD) (l:Int):Int :=
 if l - o.branch.length < 0 then -1 else if l - o.branch.length - o.who.length < 0 then -1 else if l - o.branch.length - o.who.length - o.path.length < 0 then -1 else if l - o.branch.length - o.who.length - o.path.length - o.to_.length < 0 then -1 else if li o.text (l - o.branch.length - o.who.length - o.path.length - o.to_.length) < 0 then -1 else li o.text (l - o.branch.length - o.who.length - o.path.length - o.to_.length)
def p9:Con:=.fn 40 (OpD × Int) (fun a=>[vOp a.1,.int .i64 a.2]) (fun a=>0<=a.2/\a.2<=1048576) (fun a=>.int .i64 (szO a.1 a.2)) (fun _=>[])
theorem D3:Has Tryz.prog 19 p9:=by
 refine ag mixed bn (HasL.cons QG HasL.nil) [0,1,2,4] ((fun a n (_:Nat)=>(fun _=>an) a n)) [] Tryz.func19 (by unfold Tryz.f19; rfl) (fun _=>⟨(),trivial⟩) ?_
 intro a ha;obtain ⟨f,n⟩:=a;obtain ⟨h1,h2⟩:0<=n/\n<=1048576:=ha;simp -implicitDefEqProofs [p9,Con.fn,aC,ae,uP,bOp]
 try dsimp only
 try simp +contextual -implicitDefEqProofs [al,am,aV,aL,aW,List.getElem?_eq_getElem,ba,aN,aT,aY,<- aP,<- aU,aO,aR,aZ,aX,aQ,aS,and_assoc]
 repeat' (first | intro _ | apply And.intro)
 all_goals first | omega | grind [bl,szO]
def qa:Con:=.fn 27 OpD (fun o=>[vOp o]) (fun o=>o.text.length<=1048576) (fun o=>.agg [.int .i64 o.kind,.str o.branch,.str o.who,.str o.path,.str o.to_,.int .i64 o.at_,.own 8 1 (aa o.text)]) (fun o=>dk 8 o.text)
theorem Eh:Has Tryz.prog 21 qa:=by
 refine ag mixed bn (HasL.cons QS HasL.nil) [0,1,2,3] ((fun a n (_:Nat)=>(fun _=>an) a n)) [] Tryz.func21 (by unfold Tryz.f21; rfl) (fun _=>⟨(),trivial⟩) ?_
 intro f hf;obtain ⟨a,b,c,d,e,g,t⟩:=f;replace hf:t.length<=1048576:=hf;simp -implicitDefEqProofs [qa,Con.fn,aC,ae,uR,bOp]
 try dsimp only
 try simp +contextual -implicitDefEqProofs [al,am,aV,aL,aW,List.getElem?_eq_getElem,ba,aN,aT,aY,<- aP,<- aU,aO,aR,aZ,aX,aQ,aS,and_assoc]
 repeat' (first | intro _ | apply And.intro)
 all_goals first | omega | grind [bl]
def po:Con:=.fn 41 (OpD × OpD) (fun a=>[vOp a.1,vOp a.2]) (fun _=>True) (fun a=>.bool (decide (a.1=a.2))) (fun _=>[])
theorem Ac:Has Tryz.prog 23 po:=by
 refine ag mixed bn (HasL.cons Ad HasL.nil) [0,1,2,3,4] ((fun a n (_:Nat)=>(fun _=>an) a n)) [] Tryz.func23 (by unfold Tryz.f23; rfl) (fun _=>⟨(),trivial⟩) ?_
 intro a _;obtain ⟨⟨a,b,c,d,e,g,t⟩,⟨a',b',c',d',e',g',t'⟩⟩:=a;simp -implicitDefEqProofs [po,Con.fn,aC,ae,pr,bOp]
 try dsimp only
 try simp +contextual -implicitDefEqProofs [al,am,aV,aL,aW,List.getElem?_eq_getElem,ba,aN,aT,aY,<- aP,<- aU,aO,aR,aZ,aX,aQ,aS,and_assoc]
 repeat' (first | intro _ | apply And.intro)
 all_goals first | omega | grind [bl]
--TAB aC
theorem D2 {o:OpD} {l:Int} (hl:l<=1048576) (h:0<=szO o l):eA o/\o.text.length<=1048576:=by
 unfold szO at h;split at h
 ·omega
 ·split at h
  ·omega
  ·split at h
   ·omega
   ·split at h
    ·omega
    ·split at h
     ·omega
     ·have:=(QH h).1;exact ⟨⟨by omega,by omega,by omega⟩,by omega⟩
--TAB aC
theorem JH (j:Str):1<=kCs (aE j).1.commits 1/\kCs (aE j).1.commits 1+2 * (aE j).1.heads.length<=10000 :=
 ⟨kM _ _,Pf (by rw [cu]; exact (nU j).1)⟩
def cFnExactJourRead:Con:=.fn 66 Str (fun s=>[.str s]) (fun _=>True) (fun _=>.bool true) (fun _=>[])
theorem HY (x:cFnExactJourRead.A) (hpre:cFnExactJourRead.pre x) {W:World} {vs:List Value} {fp:List (Nat × Nat)} (hN:∀ w:World,(∀ b,b < W.heap.size->w.heap[b]? = W.heap[b]?)->ew w) (hr:RdArgs W (cFnExactJourRead.args x) vs fp) (hlen:vs.length<=cFnExactJourRead.n):Calls Tryz.prog 9 vs.toArray W fun e w'=>e = .returned (.bool true)/\Below W.heap.size W w':=by
 refine Lw mixed bn (l:=[(28,lJ),(27,jD),(14,pq),(17,pR),(18,px)]) (HasL.cons wi (HasL.cons nT (HasL.cons HC (HasL.cons MG (HasL.cons I4 HasL.nil))))) (n:=cFnExactJourRead.n) [0,2,3,4,5,6,7,8,9,10] [4] [12287] Tryz.func9 (code:=_) (by unfold Tryz.f9; rfl) (by kernel_rfl) (k:=cFnExactJourRead) (x:=x) rfl rfl rfl (by kernel_rfl) ?_ hr hlen (hky:=by repeat' (first | exact trivial | exact fun _ _=>trivial | exact hN | apply And.intro))
 clear hr hlen
 change Str at x
 clear hpre;have h6:=JH x;simp -implicitDefEqProofs [Rt,Rm,Rr,Ru,Rs,Ro,Rl,Rp,J7,J8,J6,JQ,JW,JV,H4,H8,H9,Blk.fy,AV.fy,AV.fz1,Ai,cFnExactJourRead,Con.fn,aC,ae,lJ,jD,pq,pR,px]
 try dsimp only
 try simp +contextual -implicitDefEqProofs [al,am,aV,aL,aW,List.getElem?_eq_getElem,ba,aN,aT,aY,<- aP,<- aU,aO,aR,aZ,aX,aQ,aS,and_assoc]
 generalize aE x=Q at h6 ⊢;obtain ⟨⟨cs,hs⟩,c⟩:=Q;obtain ⟨b1,b2⟩:=h6;have q1:kK ⟨cP cs 1,dw hs.length (kCs cs 1)⟩ 1=kCs cs 1+2 * hs.length:=I3 ⟨cs,hs⟩ 1 (by omega)
 have q2:kCs (cP cs 1) 1+2 * (dw hs.length (kCs cs 1)).length=kCs cs 1+2 * hs.length:=JT ⟨cs,hs⟩ 1;dsimp only at b1 b2 ⊢
 simp only [q1,q2]
 repeat' first | assumption | omega | trivial | refine And.intro ?_ ?_ | intro _
end Vx
end Go.Proofs.YtonkagjdfpacmaaGreatDoor
namespace Go.Proofs.YtonkagjdfpacmaaGreatDoor
open Go.ChangeShapes Go.WideShapes Go.ChangeAt Go.RowKit
namespace Vx
def isStruct:Option TypeDesc->Bool
 | some (.struct _)=>true
 | _=>false
theorem OT {q:Bool} {w:World} {d:D} {ds:List D} {vs:List Value} {f:List (Nat × Nat)} (h:RdL q w (d :: ds) vs f):∃ v vs' f1 f2,vs=v :: vs'/\RdL q w [d] [v] f1/\RdL q w ds vs' f2:=by
 cases h with
 | int h=>exact ⟨_,_,_,_,rfl,.int .nil,h⟩
 | bool h=>exact ⟨_,_,_,_,rfl,.bool .nil,h⟩
 | str q h=>exact ⟨_,_,_,_,rfl,.str q .nil,h⟩
 | raw q h=>exact ⟨_,_,_,_,rfl,.raw q .nil,h⟩
 | junk q h=>exact ⟨_,_,_,_,rfl,.junk q .nil,h⟩
 | sl0 q1 q2 h=>exact ⟨_,_,_,_,rfl,.sl0 q1 q2 .nil,h⟩
 | sl q1 q2 q3 q4 q5 q6 q7 q8 q9 h=>exact ⟨_,_,_,_,rfl,.sl q1 q2 q3 q4 q5 q6 q7 q8 q9 .nil,h⟩
section
variable {H:Type} {enc:TypeId × Value->H} {W:World} {sp:Nat->Bool} {held:Bool} {r:Reach} {base:Nat}
end
end Vx
end Go.Proofs.YtonkagjdfpacmaaGreatDoor
namespace Go.Proofs.YtonkagjdfpacmaaGreatDoor
open Go.ChangeShapes Go.WideShapes Go.ChangeAt Go.RowKit
namespace Vx
set_option maxRecDepth 100000 in
theorem NB {H:Type} {enc:TypeId × Value->H} {W:World} {sp:Nat->Bool} {held:Bool} {r:Reach} {base:Nat} {v:Value} {d:DataW H} {p:List MemPlace} (hu:Tryz.prog.underlying 3=some (.int .i64)) (hv:Value.okWide Tryz.prog W r base 3 v)
  (_h:DataW.Trod enc Tryz.prog W 0 sp held 3 v d p):∃ n:Int,v = .int .i64 n:=okWide_int hu hv
end Vx
end Go.Proofs.YtonkagjdfpacmaaGreatDoor
namespace Go.Proofs.YtonkagjdfpacmaaGreatDoor
open Go.ChangeShapes Go.WideShapes Go.ChangeAt Go.RowKit
namespace Vx
theorem PQ {T:Nat->Option TI} (hs:∀ te,T 9=some te->te.cells=[.str]) {ds:List D} (h:Shp T [.int .i64,.str,.str,.str,.str,.int .i64,.sl 9 1] ds):∃ o:OpD,ds=eOp o:=by
 cases h with
 | int _ h=>cases h with
 | str _ h=>cases h with
 | str _ h=>cases h with
 | str _ h=>cases h with
 | str _ h=>cases h with
 | int _ h =>
  obtain ⟨l,rfl⟩:=PR hs h;exact ⟨⟨_,_,_,_,_,_,l⟩,rfl⟩
section
variable {H:Type} {enc:TypeId × Value->H} {W:World} {sp:Nat->Bool} {held:Bool} {r:Reach} {base:Nat}
set_option maxRecDepth 100000 in
theorem CJ {v:Value} {d:DataW H} {p:List MemPlace} (hu:isStruct (Tryz.prog.underlying 38)=true) (hv:Value.okWide Tryz.prog W r base 38 v)
  (h:DataW.Trod enc Tryz.prog W 0 sp held 38 v d p):∃ (o:OpD) (us:List Value) (f:List (Nat × Nat)),v = .agg us.toArray/\(∀ u ∈ us,u.oneCell'=true)/\RdArgs W [.int .i64 o.kind,.str o.branch,.str o.who,.str o.path,.str o.to_,.int .i64 o.at_,.sl true 1 (aa o.text)] us f:=by
 have hu':∃ fs,Tryz.prog.underlying 38=some (.struct fs):=by
  revert hu;generalize Tryz.prog.underlying 38=o;intro hu;unfold isStruct at hu;split at hu
  ·exact ⟨_,rfl⟩
  ·cases hu
 obtain ⟨fs,hu'⟩:=hu';obtain ⟨cs,rfl,_⟩:=okWide_struct hu' hv;obtain ⟨fuel,hf⟩:=h;obtain ⟨ds,f,h1,h2⟩:=Du ak D6 fuel (t:=38) rfl hf;obtain ⟨o,rfl⟩:=PQ (fun te ht=>by cases ht; rfl) h2
 have hone:=h1.oneCell;have hcs:cs=cs.toList.toArray:=by simp
 generalize cs.toList=us at h1 hone hcs;subst hcs;unfold eOp at h1;cases h1 with | int h1=>cases h1 with | str q1 h1=>cases h1 with | str q2 h1=>cases h1 with | str q3 h1=>cases h1 with | str q4 h1=>cases h1 with
 | int h1 =>
  obtain ⟨v7,us7,f1,f2,rfl,k1,k2⟩:=OT h1;cases k2;exact ⟨o,_,_,rfl,hone,.int (.str q1 (.str q2 (.str q3 (.str q4 (.int (.sl k1 .nil))))))⟩
end
end Vx
end Go.Proofs.YtonkagjdfpacmaaGreatDoor
namespace Go.Proofs.YtonkagjdfpacmaaGreatDoor
set_option maxHeartbeats 4000000
namespace Vx
open Go.RowKit
set_option maxRecDepth 8000
--TAB aC
def ze:Con:={ (Con.fn 47 (Str × OpD) (fun a=>[.str a.1,vOp a.2]) (fun _=>True) (fun _=>.bool true) (fun _=>[])) with need:=ew }
theorem HX:Has Tryz.prog 4 ze:=by
 refine ag mixed bn (HasL.cons D3 (HasL.cons Eh (HasL.cons wh (HasL.cons qE (HasL.cons Ac HasL.nil))))) [0,1,3,4,5,6,7,8,9,10] ((fun a n (_:Nat)=>(fun _=>an) a n)) [] Tryz.func4 (by unfold Tryz.f4; rfl) (fun _=>⟨(),trivial⟩) ?_
 intro a _;obtain ⟨j,o⟩:=a;have h5:=fun h=>@D2 o 1048576 (by omega) h
 simp (maxSteps:=8000000) -implicitDefEqProofs [-kStep_move,-Bool.exists_bool,ze,p9,qa,ni,lI,po,Con.fn,aC,ae,bOp]
 try dsimp only
 refine fun _ hj=>⟨o,1048576,⟨⟨rfl,rfl,rfl,rfl,rfl,rfl,rfl⟩,rfl⟩,⟨by omega,by omega⟩,fun hz=>?_⟩
 obtain ⟨g1,g2⟩:=h5 hz;have hp:iE (j,o):=⟨by simp only; omega,g1⟩
 exact ⟨g2,j,o,⟨rfl,rfl,rfl,rfl,rfl,rfl,rfl,rfl⟩,hp,g2,j,o,⟨rfl,rfl,rfl,rfl,rfl,rfl,rfl,rfl⟩,hp,⟨rfl,rfl⟩,fun _ _=>g2⟩
def zf:Con:={ (Con.fn 38 (Str × OpD × Int) (fun a=>[.str a.1,vOp a.2.1,.int .i64 a.2.2]) (fun _=>True) (fun _=>.bool true) (fun _=>[])) with need:=ew }
theorem HZ:Has Tryz.prog 5 zf:=by
 refine ag mixed bn (HasL.cons D3 (HasL.cons Eh (HasL.cons A8 (HasL.cons A7 (HasL.cons Ac HasL.nil))))) [0,1,2,4,6,7,8,9,10] ((fun a n (_:Nat)=>(fun _=>an) a n)) [] Tryz.func5 (by unfold Tryz.f5; rfl) (fun _=>⟨(),trivial⟩) ?_
 intro a _;obtain ⟨j,o,b⟩:=a;have h5:=fun h=>@D2 o 1048576 (by omega) h
 simp (maxSteps:=8000000) -implicitDefEqProofs [-kStep_move,-Bool.exists_bool,zf,p9,qa,pD,pC,po,Con.fn,aC,ae,bOp]
 try dsimp only
 refine fun _ hj=>⟨o,1048576,⟨⟨rfl,rfl,rfl,rfl,rfl,rfl,rfl⟩,rfl⟩,⟨by omega,by omega⟩,fun hz=>?_⟩
 obtain ⟨g1,g2⟩:=h5 hz;have hp:iE (j,o):=⟨by simp only; omega,g1⟩
 exact ⟨g2,j,o,b,⟨rfl,⟨rfl,rfl,rfl,rfl,rfl,rfl,rfl⟩,rfl⟩,hp,g2,j,o,b,⟨rfl,⟨rfl,rfl,rfl,rfl,rfl,rfl,rfl⟩,rfl⟩,hp,rfl,fun _=>g2⟩
end Vx
end Go.Proofs.YtonkagjdfpacmaaGreatDoor
namespace Go.Proofs.YtonkagjdfpacmaaGreatDoor
open Go.ChangeShapes Go.WideShapes Go.ChangeAt Go.RowKit
namespace Vx
theorem PP {T:Nat->Option TI} (hs:∀ te,T 5=some te->te.cells=[.int .u8]) {ds:List D} (h:Shp T [.sl 5 1] ds):∃ l,ds=[.sl 5 1 (cm l)]:=by
 cases h with
 | @sl e k te rows ks ds h1 h2 h3 =>
  cases h3;rw [hs _ h1] at h2;obtain ⟨l,rfl,_⟩:=DG (f:=dn) (p:=fun _=>True) (rows:=rows) (fun r hr=>by
   have:=h2 r hr;cases this with
   | @int k n _ _ q1 q2 =>
    cases q2;have q3:IntKind.u8.min<=n/\n<=IntKind.u8.max:=by simpa only [Lit.wf,Bool.and_eq_true,decide_eq_true_eq] using q1
    have q4:IntKind.u8.min=0:=rfl;have q5:IntKind.u8.max=255:=rfl;rw [q4,q5] at q3;refine ⟨UInt8.ofNat n.toNat,?_,trivial⟩;have:(UInt8.ofNat n.toNat).toNat=n.toNat:=by rw [UInt8.toNat_ofNat']; omega
    simp only [dn,this]
    congr 2
    omega)
  exact ⟨l,rfl⟩
section
variable {H:Type} {enc:TypeId × Value->H} {W:World} {sp:Nat->Bool} {held:Bool} {r:Reach} {base:Nat}
set_option maxRecDepth 100000 in
theorem xh {v:Value} {d:DataW H} {p:List MemPlace} (hu:Tryz.prog.underlying 48=some (.slice 5)) (hv:Value.okWide Tryz.prog W r base 48 v)
  (h:DataW.Trod enc Tryz.prog W 0 sp held 48 v d p):∃ l f,RdL false W [.sl 5 1 (cm l)] [v] f:=by
 obtain ⟨a,n,c,rfl⟩:=okWide_slice hu hv;obtain ⟨fuel,hf⟩:=h;obtain ⟨ds,f,h1,h2⟩:=Du ak D6 fuel (t:=48) rfl hf;obtain ⟨l,rfl⟩:=PP (fun te ht=>by cases ht; rfl) h2
 exact ⟨l,f,h1⟩
end
end Vx
end Go.Proofs.YtonkagjdfpacmaaGreatDoor
namespace Go.Proofs.YtonkagjdfpacmaaGreatDoor
set_option maxHeartbeats 4000000
namespace Vx
open Go.RowKit
set_option maxRecDepth 8000
def sG:Con:={ A:=Str × Int,X:=Str,n:=6,args:=fun _=>[.ptr 0 0],boxes:=fun a=>[(0,119,[.sl true 1 (cm a.1),.int .i64 a.2])],pre:=fun a=>a.1.length<=2000/\0<=a.2/\a.2<=1073741800,post:=fun _ x=>x.length<=4,res:=fun _ x=>.str x,fin:=fun a _=>[(0,fJ a.1 (a.2+1))],nob:=false }
theorem F1:Has Tryz.prog 120 sG:=by
 refine ag mixed ak (HasL.cons ol HasL.nil) [0,2] ((fun a n (_:Nat)=>(fun _=>an) a n)) [] Tryz.func120 (by unfold Tryz.f120; rfl) (fun _=>⟨([]:Str),Nat.zero_le 4⟩) ?_
 intro a ha;obtain ⟨s,p⟩:=a;obtain ⟨h1,h2,h3⟩:s.length<=2000/\0<=p/\p<=1073741800:=ha;simp -implicitDefEqProofs [sG,cOf,ae,jg,clash,kd,dn,ip];exact ⟨s,p,⟨rfl,rfl⟩,⟨h1,by omega,by omega⟩,by simp⟩
def iz (o:OpD):Prop:=(1<=o.kind/\o.kind<=7)/\o.branch.length<=4/\o.who.length<=3/\o.path.length<=5/\o.to_.length<=5/\(0<=o.at_/\o.at_<=9)/\o.text.length<=8 /\ ∀ s ∈ o.text,s.length<=7
def pS:Con:={ A:=Str × Int,X:=OpD × Int,n:=63,args:=fun _=>[.ptr 0 0],boxes:=fun a=>[(0,119,[.sl true 1 (cm a.1),.int .i64 a.2])],pre:=fun a=>a.1.length<=2000/\0<=a.2/\a.2<=1073741500,post:=fun a x=>iz x.1/\a.2<=x.2/\x.2<=a.2+20,res:=fun _ x=>.agg [.int .i64 x.1.kind,.str x.1.branch,.str x.1.who,.str x.1.path,.str x.1.to_,.int .i64 x.1.at_,.own 8 1 (aa x.1.text)],fin:=fun a x=>(0,fJ a.1 x.2) :: dk 8 x.1.text,nob:=false }
theorem CG:Has Tryz.prog 68 pS:=by
 refine ag mixed ak (HasL.cons F1 (HasL.cons ol (HasL.cons kW (HasL.cons N5 (HasL.cons QM HasL.nil))))) [0,2,3,11,34,42] ((fun a n (_:Nat)=>(fun _=>an) a n)) [] Tryz.func68 (by unfold Tryz.f68; rfl) (fun a=>⟨((⟨1,[],[],[],[],0,[]⟩:OpD),a.2),(by simp -implicitDefEqProofs [iz]),Int.le_refl _,by omega⟩) ?_
 intro a ha;obtain ⟨s,p⟩:=a;obtain ⟨h1,h2,h3⟩:s.length<=2000/\0<=p/\p<=1073741500:=ha;simp (maxSteps:=8000000) -implicitDefEqProofs [-kStep_move,-Bool.exists_bool,pS,sG,cOf,i7,uw,uQ,ae,jg,clash,kd,dn,ip];have fin:∀ (k:Int) (b w pa t:Str) (i:Int) (q:Int),(1<=k/\k<=7)->b.length<=4->w.length<=3->pa.length<=5->t.length<=5->(0<=i/\i<=9)->(p<=q/\q<=p+20) -> ∃ (a:OpD) (c:Int),(iz a/\p<=c/\c<=p+20)/\(a.kind=k/\a.branch=b/\a.who=w/\a.path=pa/\a.to_=t/\a.at_=i/\a.text=[])/\(s=s/\c=q)/\a.text=[] :=
  fun k b w pa t i q h1 h2 h3 h4 h5 h6 h7=>⟨⟨k,b,w,pa,t,i,[]⟩,q,⟨⟨h1,h2,h3,h4,h5,h6,Nat.zero_le _,by simp⟩,h7⟩,⟨rfl,rfl,rfl,rfl,rfl,rfl,rfl⟩,⟨rfl,rfl⟩,rfl⟩
 have fin2:∀ (k:Int) (b w pa t:Str) (i:Int) (l:List Str) (q:Int),(1<=k/\k<=7)->b.length<=4->w.length<=3->pa.length<=5->t.length<=5->(0<=i/\i<=9)->(l.length<=8)->(∀ s ∈ l,s.length<=7)->(p<=q/\q<=p+20) -> ∃ (a:OpD) (c:Int),(iz a/\p<=c/\c<=p+20)/\(a.kind=k/\a.branch=b/\a.who=w/\a.path=pa/\a.to_=t/\a.at_=i/\a.text=l)/\(s=s/\c=q)/\l=a.text :=
  fun k b w pa t i l q h1 h2 h3 h4 h5 h6 g1 g2 h7=>⟨⟨k,b,w,pa,t,i,l⟩,q,⟨⟨h1,h2,h3,h4,h5,h6,g1,g2⟩,h7⟩,⟨rfl,rfl,rfl,rfl,rfl,rfl,rfl⟩,⟨rfl,rfl⟩,rfl⟩
 repeat' (first
  | intro _
  | refine ⟨_,_,⟨rfl,rfl⟩,⟨h1,by omega,by omega⟩,?_⟩
  | exact fin _ _ _ _ _ _ _ (by omega) (by first | assumption | omega | decide) (by first | assumption | omega | decide) (by first | assumption | omega | decide) (by first | assumption | omega | decide) (by omega) (by omega)
  | exact fin2 _ _ _ _ _ _ _ _ (by omega) (by first | assumption | omega | decide) (by first | assumption | omega | decide) (by first | assumption | omega | decide) (by first | assumption | omega | decide) (by omega) (by assumption) (by assumption) (by omega)
  | apply And.intro)


def yA (o:OpD):Prop:=o.branch.length<=4/\o.who.length<=3/\o.path.length<=5/\o.to_.length<=5/\o.text.length<=9 /\ ∀ s ∈ o.text,s.length<=7
theorem vr {o:OpD} (h:iz o):yA o:=by
 obtain ⟨_,h1,h2,h3,h4,_,h5,h6⟩:=h;exact ⟨h1,h2,h3,h4,by omega,h6⟩
theorem sg {o:OpD} (h:yA o):eA o:=by
 obtain ⟨_,_,h1,h2,h3,_⟩:=h;exact ⟨by omega,by omega,by omega⟩
def pj:Con:={ A:=(Str × Int) × Str,X:=Str × Int,n:=44,args:=fun a=>[.ptr 0 0,.str a.2],boxes:=fun a=>[(0,119,[.sl true 1 (cm a.1.1),.int .i64 a.1.2])],pre:=fun a=>a.1.1.length<=2000/\0<=a.1.2/\a.1.2<=1073741500/\a.2.length<=1073741000,post:=fun a x=>x.1.length<=a.2.length+8/\a.1.2<=x.2/\x.2<=a.1.2+3,res:=fun _ x=>.str x.1,fin:=fun a x=>[(0,fJ a.1.1 x.2)],nob:=false }
theorem y8:Has Tryz.prog 56 pj:=by
 refine ag mixed ak (HasL.cons kW (HasL.cons ol HasL.nil)) [0,1,4,5,12] ((fun a n (_:Nat)=>(fun _=>an) a n)) [] Tryz.func56 (by unfold Tryz.f56; rfl) (fun a=>⟨(([]:Str),a.1.2),by simp,Int.le_refl _,by omega⟩) ?_
 intro a ha;obtain ⟨⟨c,p⟩,s⟩:=a;obtain ⟨h1,h2,h3,h4⟩:c.length<=2000/\0<=p/\p<=1073741500/\s.length<=1073741000:=ha;simp -implicitDefEqProofs [pj,i7,cOf,ae,jg,clash,kd,dn,ip];refine fun _=>⟨by omega,fun _ _=>⟨c,p,⟨rfl,rfl⟩,⟨h1,h2,by omega,by omega⟩,fun y _ hy=>⟨c,p+1,⟨rfl,rfl⟩,⟨h1,by omega,by omega⟩,fun z _ _=>⟨fun _ _=>⟨fun hlt=>⟨by omega,fun _ _=>⟨c,p+1+1,⟨rfl,rfl⟩,⟨h1,by omega,by omega⟩,?_⟩⟩,fun hge=>?_⟩,fun _=>?_⟩⟩⟩⟩
 ·have hm:maxLen=9223372036854775807:=rfl;refine ⟨?_,?_,?_,?_,?_,?_,?_,?_,?_⟩
  all_goals
   refine ⟨by omega,fun _=>⟨by omega,fun _ _=>⟨by omega,fun _ _=>⟨by omega,fun _=>⟨_,_,⟨?_,?_,?_⟩,rfl,rfl,rfl⟩⟩⟩⟩⟩
   ·simp; omega
   ·omega
   ·omega
 ·exact ⟨s,_,⟨by omega,by omega,by omega⟩,rfl,rfl,rfl⟩
 ·have hm:maxLen=9223372036854775807:=rfl;refine ⟨fun _=>⟨by omega,fun _ _=>⟨_,_,⟨by simp; omega,by omega,by omega⟩,rfl,rfl,rfl⟩⟩,fun _=>⟨fun _=>⟨c,p+1+1,⟨rfl,rfl⟩,⟨h1,by omega,by omega⟩,?_,?_,?_,?_,?_⟩,fun _=>⟨s,_,⟨by omega,by omega,by omega⟩,rfl,rfl,rfl⟩⟩⟩
  all_goals exact ⟨by omega,fun _=>⟨_,_,⟨by simp,by omega,by omega⟩,rfl,rfl,rfl⟩⟩
--TAB aC
theorem Hh {o:OpD} (h:iz o):mI o:=by
 obtain ⟨h1,h2,h3,h4,h5,⟨h6,h7⟩,h8,h9⟩:=h;exact ⟨h1,by omega,by omega,by omega,by omega,⟨h6,by omega⟩,by omega,fun l hl=>by have:=h9 l hl; omega⟩
theorem OE {o:OpD} (h:mI o):(au o).length<=400:=by
 obtain ⟨h1,h2,h3,h4,h5,h6,h7,h8⟩:=h;have l0:=Bm o.kind;have l3:(ce o).length<=160:=by
  have k2:=lE h8;have k3:=kF o.at_.toNat;unfold ce;split
  ·simp only [List.length_append,List.length_cons]; omega
  ·split
   ·omega
   ·split
    ·simp only [List.length_append,List.length_cons]; omega
    ·split
     ·omega
     ·omega
 unfold au;simp only [List.length_append,List.length_cons];omega
def jdI (s:Str) (p:Int):Inv:=⟨Str × Int × RepoD × Nat,fun t=>⟨[(0,true,.ptr 0 0),(2,true,.str []),(3,true,.str t.1),(4,true,.ptr 11 0),(5,true,.int .i64 t.2.2.2)],[(0,fJ s t.2.1),(11,.box 27 [.sl false 3 (ap t.2.2.1.commits),.sl false 2 (ah t.2.2.1.heads)])]⟩,
 fun t=>plR t.2.2.1/\t.1.length+450 * t.2.2.2<=4000/\p<=t.2.1/\t.2.1+20 * t.2.2.2<=p+200,fun t=>t.2.2.2⟩
def pB:Con:={ A:=Str × Int,X:=Str × Int,n:=33,args:=fun _=>[.ptr 0 0],boxes:=fun a=>[(0,119,[.sl true 1 (cm a.1),.int .i64 a.2])],pre:=fun a=>a.1.length<=2000/\0<=a.2/\a.2<=1073740000,post:=fun a x=>x.1.length<=4000/\a.2<=x.2/\x.2<=a.2+200,res:=fun _ x=>.str x.1,fin:=fun a x=>[(0,fJ a.1 x.2)],nob:=false }
theorem A5:Has Tryz.prog 54 pB:=by
 refine ag mixed bn (HasL.cons kW (HasL.cons CG (HasL.cons wy (HasL.cons wD (HasL.cons wC (HasL.cons BA HasL.nil)))))) [0,2,3,4,5,6,7,8] ((fun a n (_:Nat)=>(fun a _=>jdI a.1 a.2) a n)) [12287,8191] Tryz.func54 (by unfold Tryz.f54; rfl) (fun a=>⟨(([]:Str),a.2),Nat.zero_le _,Int.le_refl _,by omega⟩) ?_
 intro a ha;obtain ⟨s,p⟩:=a;obtain ⟨h1,h2,h3⟩:s.length<=2000/\0<=p/\p<=1073740000:=ha;simp (maxSteps:=8000000) -implicitDefEqProofs [-kStep_move,-Bool.exists_bool,pB,i7,pS,nj,nl,nk,pK,Con.fn,aC,ae,jdI,jg,clash,kd,dn,ip]
 try dsimp only
 have hml:maxLen=9223372036854775807:=rfl;refine ⟨s,p,⟨rfl,rfl⟩,⟨h1,h2,by omega⟩,fun y hy0 hy1=>⟨⟨[],p+1,noR,y.toNat,⟨⟨rfl,by omega⟩,⟨rfl,rfl⟩,rfl,rfl⟩,rk,by simp; omega,by omega,by omega⟩,fun j q R n g1 g2 g3 g4=>⟨fun hn=>⟨s,q,⟨rfl,rfl⟩,⟨h1,by omega,by omega⟩,fun o q2 ho k1 k2=>?_⟩,fun hn=>⟨by omega,by omega,by omega⟩⟩⟩⟩
 have hp:=Hh ho;have l1:=OE hp;have l2:=@xz (au o);have hsz:=sg (vr ho);refine ⟨R,o,⟨⟨rfl,rfl⟩,rfl,rfl,rfl,rfl,rfl,rfl,rfl⟩,⟨g1.1,hsz⟩,fun w=>⟨hp,by omega,by omega,fun _=>⟨⟨by omega,by omega⟩,fun _ _=>?_⟩⟩,fun w=>⟨⟨by omega,by omega⟩,fun _ _=>?_⟩⟩
 ·exact ⟨j++br (au o),q2,(aM R o).1,n - 1,⟨⟨rfl,by omega⟩,⟨rfl,rfl⟩,rfl,rfl⟩,⟨qo g1,by rw [List.length_append]; omega,by omega,by omega⟩,by omega⟩
 ·exact ⟨j,q2,R,n - 1,⟨⟨rfl,by omega⟩,⟨rfl,rfl⟩,rfl,rfl⟩,⟨g1,by omega,by omega,by omega⟩,by omega⟩
def sM:Con:={ A:=Str,X:=Str,n:=16,args:=fun s=>[.sl true 1 (cm s)],boxes:=fun _=>[],pre:=fun _=>True,post:=fun _ x=>x.length<=4100,res:=fun _ x=>.str x,fin:=fun _ _=>[] }
theorem G7:Has Tryz.prog 26 sM:=by
 refine ag mixed bn (HasL.cons BB (HasL.cons A5 (HasL.cons kW (HasL.cons y8 HasL.nil)))) [0,2,3,4] ((fun a n (_:Nat)=>(fun _=>an) a n)) [] Tryz.func26 (by unfold Tryz.f26; rfl) (fun _=>⟨([]:Str),Nat.zero_le _⟩) ?_
 intro (s:Str) _;simp (maxSteps:=8000000) -implicitDefEqProofs [-kStep_move,-Bool.exists_bool,sM,pL,pB,i7,pj,Con.fn,aC,ae,jg,clash,kd,dn,ip];have hl:(s.take 2000).length<=2000:=by simp; omega
 exact ⟨_,_,⟨rfl,rfl⟩,⟨hl,by omega,by omega⟩,fun j q g1 g2 g3=>⟨_,_,⟨rfl,rfl⟩,⟨hl,by omega,by omega⟩,fun y _ _=>⟨fun _=>by omega,fun _=>⟨_,_,⟨rfl,rfl⟩,⟨hl,by omega,by omega,by omega⟩,fun t r k1 k2 k3=>by omega⟩⟩⟩⟩
def pn:Con:={ A:=Str,X:=Str × OpD,n:=19,args:=fun s=>[.sl true 1 (cm s)],boxes:=fun _=>[],pre:=fun _=>True,post:=fun _ x=>x.1.length<=4100/\iz x.2,res:=fun _ x=>.tup [.str x.1,.agg [.int .i64 x.2.kind,.str x.2.branch,.str x.2.who,.str x.2.path,.str x.2.to_,.int .i64 x.2.at_,.own 8 1 (aa x.2.text)]],fin:=fun _ x=>dk 8 x.2.text }
theorem zZ:Has Tryz.prog 31 pn:=by
 refine ag mixed bn (HasL.cons BB (HasL.cons A5 (HasL.cons kW (HasL.cons y8 (HasL.cons CG HasL.nil))))) [0,2,3,4,5] ((fun a n (_:Nat)=>(fun _=>an) a n)) [8191,12287] Tryz.func31 (by unfold Tryz.f31; rfl) (fun _=>⟨(([]:Str),(⟨1,[],[],[],[],0,[]⟩:OpD)),Nat.zero_le _,(by simp -implicitDefEqProofs [iz])⟩) ?_
 intro (s:Str) _;simp (maxSteps:=8000000) -implicitDefEqProofs [-kStep_move,-Bool.exists_bool,pn,pL,pB,i7,pj,pS,Con.fn,aC,ae,jg,clash,kd,dn,ip];have hl:(s.take 2000).length<=2000:=by simp; omega
 exact ⟨_,_,⟨rfl,rfl⟩,⟨hl,by omega,by omega⟩,fun j q g1 g2 g3=>⟨_,_,⟨rfl,rfl⟩,⟨hl,by omega,by omega⟩,fun y _ _=>⟨fun _=>⟨_,_,⟨rfl,rfl⟩,⟨hl,by omega,by omega,by omega⟩,fun t r k1 k2 k3=>⟨_,_,⟨rfl,rfl⟩,⟨hl,by omega,by omega⟩,fun o u ho m1 m2=>⟨t,o,⟨by omega,ho⟩,⟨rfl,rfl,rfl,rfl,rfl,rfl,rfl,rfl⟩,rfl⟩⟩⟩,
  fun _=>⟨_,_,⟨rfl,rfl⟩,⟨hl,by omega,by omega⟩,fun o u ho m1 m2=>⟨j,o,⟨by omega,ho⟩,⟨rfl,rfl,rfl,rfl,rfl,rfl,rfl,rfl⟩,rfl⟩⟩⟩⟩⟩
def uL:Con:=.fn 26 (List Str × List Str) (fun a=>[.sl true 1 (aa a.1),.sl true 1 (aa a.2)]) (fun _=>True) (fun a=>.bool (decide (a.1=a.2))) (fun _=>[])
theorem P4:Has Tryz.prog 163 uL:=by
 refine ag mixed ak HasL.nil [0,1,4,5] ((fun a n (_:Nat)=>(fun a _=>⟨Nat,fun i=>⟨[(0,true,.sl true 1 (aa a.1)),(1,true,.sl true 1 (aa a.2)),(4,true,.bool false),(5,true,.int .i64 i)],[]⟩,fun i=>a.1.length=a.2.length/\i<=a.1.length/\a.1.take i=a.2.take i,fun i=>a.1.length - i⟩) a n)) [] Tryz.func163 (by unfold Tryz.f163; rfl) (fun _=>⟨(),trivial⟩) ?_
 intro a _;obtain ⟨l,m⟩:=a;have k1:∀ i (h:i < l.length) (h':i < m.length),l[i]=m[i]->l.take i=m.take i->l.take (i+1)=m.take (i+1):=fun i h h' e e2=>by rw [bg h,bg h',e,e2]
 have k2:∀ i,l.length=m.length->l.length<=i->l.take i=m.take i->l=m:=fun i h h' e=>by rwa [List.take_of_length_le h',List.take_of_length_le (by omega)] at e
 have k3:∀ i (h:i < l.length) (h':i < m.length),¬ l[i]=m[i] -> ¬ l=m:=fun i h h' e e2=>by subst e2; exact e rfl
 simp -implicitDefEqProofs [uL,Con.fn,ae]
 try dsimp only
 try simp +contextual -implicitDefEqProofs [al,am,aV,aL,aW,List.getElem?_eq_getElem,ba,aN,aT,aY,<- aP,<- aU,aO,aR,aZ,aX,aQ,aS,and_assoc]
 repeat' (first | intro _ | apply And.intro)
 all_goals first | omega | grind [bl]
def uM:Con:=.fn 42 (List FileD × List FileD) (fun a=>[.sl true 2 (ac a.1),.sl true 2 (ac a.2)]) (fun _=>True) (fun a=>.bool (decide (a.1=a.2))) (fun _=>[])
theorem P5:Has Tryz.prog 116 uM:=by
 refine ag mixed ak (HasL.cons P4 HasL.nil) [0,1,4,5] ((fun a n (_:Nat)=>(fun a _=>⟨Nat,fun i=>⟨[(0,true,.sl true 2 (ac a.1)),(1,true,.sl true 2 (ac a.2)),(4,true,.bool false),(5,true,.int .i64 i)],[]⟩,fun i=>a.1.length=a.2.length/\i<=a.1.length/\a.1.take i=a.2.take i,fun i=>a.1.length - i⟩) a n)) [] Tryz.func116 (by unfold Tryz.f116; rfl) (fun _=>⟨(),trivial⟩) ?_
 intro a _;obtain ⟨l,m⟩:=a;have k1:∀ i (h:i < l.length) (h':i < m.length),l[i].path=m[i].path->l[i].text=m[i].text->l.take i=m.take i->l.take (i+1)=m.take (i+1):=fun i h h' e e1 e2=>by rw [bg h,bg h',e2,show l[i]=m[i] by rw [FileD.eq_iff]; exact ⟨e,e1⟩]
 have k2:∀ i,l.length=m.length->l.length<=i->l.take i=m.take i->l=m:=fun i h h' e=>by rwa [List.take_of_length_le h',List.take_of_length_le (by omega)] at e
 have k3:∀ i (h:i < l.length) (h':i < m.length),¬ l[i].path=m[i].path -> ¬ l=m:=fun i h h' e e2=>by subst e2; exact e rfl
 have k4:∀ i (h:i < l.length) (h':i < m.length),¬ l[i].text=m[i].text -> ¬ l=m:=fun i h h' e e2=>by subst e2; exact e rfl
 simp -implicitDefEqProofs [uM,Con.fn,ae,uL]
 try dsimp only
 try simp +contextual -implicitDefEqProofs [al,am,aV,aL,aW,List.getElem?_eq_getElem,ba,aN,aT,aY,<- aP,<- aU,aO,aR,aZ,aX,aQ,aS,and_assoc]
 repeat' (first | intro _ | apply And.intro)
 all_goals first | omega | grind [bl]
def uK:Con:=.fn 26 (List Int × List Int) (fun a=>[.sl true 1 (aj a.1),.sl true 1 (aj a.2)]) (fun _=>True) (fun a=>.bool (decide (a.1=a.2))) (fun _=>[])
theorem P1:Has Tryz.prog 115 uK:=by
 refine ag mixed ak HasL.nil [0,1,4,5] ((fun a n (_:Nat)=>(fun a _=>⟨Nat,fun i=>⟨[(0,true,.sl true 1 (aj a.1)),(1,true,.sl true 1 (aj a.2)),(4,true,.bool false),(5,true,.int .i64 i)],[]⟩,fun i=>i<=a.1.length/\a.1.length=a.2.length/\a.1.take i=a.2.take i,fun i=>a.1.length - i⟩) a n)) [] Tryz.func115 (by unfold Tryz.f115; rfl) (fun _=>⟨(),trivial⟩) ?_
 intro a _;obtain ⟨l,r⟩:=a;simp -implicitDefEqProofs [uK,Con.fn,ae]
 try dsimp only
 try simp +contextual -implicitDefEqProofs [al,am,aV,aL,aW,List.getElem?_eq_getElem,ba,aN,aT,aY,<- aP,<- aU,aO,aR,aZ,aX,aQ,aS,and_assoc,aq]
 repeat' (first | intro _ | apply And.intro)
 all_goals first | omega | grind [bl,iB,gR,aq,D.asInt]
def uJ:Con:=.fn 24 (CommitD × CommitD) (fun a=>[.agg [.sl true 1 (aj a.1.parents),.str a.1.who,.sl true 2 (ac a.1.tree)],.agg [.sl true 1 (aj a.2.parents),.str a.2.who,.sl true 2 (ac a.2.tree)]]) (fun _=>True) (fun a=>.bool (decide (a.1=a.2))) (fun _=>[])
theorem P0:Has Tryz.prog 63 uJ:=by
 refine ag mixed ak (HasL.cons P1 (HasL.cons P5 HasL.nil)) [0,1,2,3,4] ((fun a n (_:Nat)=>(fun _=>an) a n)) [] Tryz.func63 (by unfold Tryz.f63; rfl) (fun _=>⟨(),trivial⟩) ?_
 intro a _;obtain ⟨c,d⟩:=a;simp -implicitDefEqProofs [uJ,uK,uM,Con.fn,ae,CommitD.eq_iff]
 try dsimp only
 refine ⟨fun h=>⟨_,_,⟨rfl,rfl⟩,fun e=>⟨_,_,⟨rfl,rfl⟩,by simp -implicitDefEqProofs [e,h]⟩,fun e h'=>absurd h' e⟩,fun h _ h'=>absurd h' h⟩
def xL (r q:RepoD):Inv:=⟨Nat,fun i=>⟨[(2,true,.ptr 10 0),(3,true,.ptr 11 0),(4,true,.bool false),(5,true,.int .i64 i)],[(10,cV r),(11,cV q)]⟩,fun i=>i<=r.commits.length/\(r.commits.length=q.commits.length/\r.heads.length=q.heads.length)/\r.commits.take i=q.commits.take i,fun i=>r.commits.length - i⟩
def xM (r q:RepoD):Inv:=⟨Nat,fun i=>⟨[(2,true,.ptr 10 0),(3,true,.ptr 11 0),(4,true,.bool false),(6,true,.int .i64 i)],[(10,cV r),(11,cV q)]⟩,fun i=>i<=r.heads.length/\(r.commits=q.commits/\r.heads.length=q.heads.length)/\r.heads.take i=q.heads.take i,fun i=>r.heads.length - i⟩
def xN (r q:RepoD) (n g:Nat):Inv:=if n=4 then xL r q else xM r q
theorem P2 (r q g):xN r q 4 g=xL r q:=rfl
theorem P3 (r q g):xN r q 9 g=xM r q:=rfl
theorem RepoD.eqs (a b:RepoD):(a=b)=(a.commits=b.commits/\a.heads=b.heads):=by cases a; cases b; simp
def nx:Con:=.fn 60 (RepoD × RepoD) (fun a=>[bF a.1,bF a.2]) (fun _=>True) (fun a=>.bool (decide (a.1=a.2))) (fun _=>[])
theorem xO:Has Tryz.prog 29 nx:=by
 refine ag mixed ak (HasL.cons P0 HasL.nil) [0,1,2,3,4,5,6] (fun a=>xN a.1 a.2) [] Tryz.func29 (by unfold Tryz.f29; rfl) (fun _=>⟨(),trivial⟩) ?_
 intro a _;obtain ⟨r,q⟩:=a;simp (maxSteps:=8000000) -implicitDefEqProofs [-kStep_move,-kStepC_move,-Bool.exists_bool,nx,uJ,Con.fn,ae,P2,P3,xL,xM,bR]
 try dsimp only
 refine fun _ _ _ _=>⟨fun h e=>by subst e; simp at h,fun e1 e2=>⟨⟨by omega,by omega⟩,fun t ht g1 g2 g3 _=>⟨fun hlt=>⟨hlt,fun _=>?_⟩,fun hge=>?_⟩⟩⟩
 ·have hq:t < q.commits.length:=by omega
  have qq1:Option.map bm r.commits[t]? = some (bm r.commits[t]):=by simp -implicitDefEqProofs [hlt]
  have qq2:Option.map bm q.commits[t]? = some (bm q.commits[t]):=by simp -implicitDefEqProofs [hq]
  have hst:=iB hlt hq g3;rw [qq1,qq2];have hne:r.commits[t] ≠ q.commits[t]->r ≠ q:=fun h e=>by subst e; exact h rfl
  generalize r.commits[t]=x at *;generalize q.commits[t]=y at *;simp -implicitDefEqProofs [bm,D.asStr,D.asRows,hq];refine ⟨x,y,⟨⟨rfl,rfl,rfl⟩,rfl,rfl,rfl⟩,hne,fun e=>⟨⟨by omega,by omega⟩,fun _ _=>⟨t+1,by omega,⟨by omega,⟨g1,g2⟩,hst e⟩,by omega⟩⟩⟩
 ·have ec:r.commits=q.commits:=gR g1 hge g3;refine ⟨⟨ec,g2⟩,fun t ht _ _ g5 _=>⟨fun hlt=>⟨hlt,fun _=>?_⟩,fun hge=>?_⟩⟩
  ·have hq:t < q.heads.length:=by omega
   have qq1:Option.map bw r.heads[t]? = some (bw r.heads[t]):=by simp -implicitDefEqProofs [hlt]
   have qq2:Option.map bw q.heads[t]? = some (bw q.heads[t]):=by simp -implicitDefEqProofs [hq]
   have hst:=iB hlt hq g5;rw [qq1,qq2];have hne:r.heads[t] ≠ q.heads[t]->r ≠ q:=fun h e=>by subst e; exact h rfl
   generalize r.heads[t]=x at *;generalize q.heads[t]=y at *;simp -implicitDefEqProofs [bw,D.asStr,D.asInt,hq];refine ⟨fun h=>hne (fun e=>by subst e; simp at h),fun e1 e2=>⟨⟨by omega,by omega⟩,fun _ _=>⟨t+1,by omega,⟨by omega,⟨ec,g2⟩,hst (by rw [HeadD.eq_iff]; exact ⟨e1,e2⟩)⟩,by omega⟩⟩⟩
  ·rw [RepoD.eqs]; exact ⟨ec,gR g2 hge g5⟩
--TAB aC



--TAB aC
--TAB aC
theorem A6 (j:Str):aF (aE j).1=true:=by rw [cu]; exact (nU j).1
def zh:Con:={ (Con.fn 86 Str (fun s=>[.sl true 1 (cm s)]) (fun _=>True) (fun _=>.bool true) (fun _=>[])) with need:=ew }
theorem H1:Has Tryz.prog 6 zh:=by
 refine ag mixed bn (HasL.cons G7 (HasL.cons nT (HasL.cons wi (HasL.cons xO (HasL.cons mP HasL.nil))))) [0,2,3,4,5,6,7,8,9,10,11] ((fun a n (_:Nat)=>(fun _=>an) a n)) [12287] Tryz.func6 (by unfold Tryz.f6; rfl) (fun _=>⟨(),trivial⟩) ?_
 intro (s:Str) _;simp (maxSteps:=8000000) -implicitDefEqProofs [-kStep_move,-kStepC_move,-Bool.exists_bool,zh,sM,jD,lJ,nx,jH,Con.fn,aC,ae]
 try dsimp only
 have hml:maxLen=9223372036854775807:=rfl;refine fun _ _ y hy=>⟨by omega,(aE y).1,(aE y).1,⟨⟨rfl,rfl⟩,rfl,rfl⟩,fun _=>⟨(Classical.em _).symm,fun _ _ hlt=>?_⟩⟩
 have hs:=(mj y).1;have hI:=A6 y;have e1:aE (y.take (aE y).2)=aE y:=by
  have:=A9 (j:=y) (t:=[]) (by rw [List.append_nil,List.length_take]; omega) step_nil
  rwa [List.append_nil] at this
 have e2:aE (y.take (aE y).2++[120])=aE y:=A9 (QJ hs (by omega)) Qr
 rw [e1,e2];exact ⟨hs,fun _=>⟨by omega,hs,fun _=>⟨by omega,fun _=>⟨by omega,(eO hI).2,(aE y).1,(aE y).1,⟨⟨rfl,rfl⟩,rfl,rfl⟩,.inr ⟨hI,rfl⟩,fun _=>⟨.inr ⟨⟨hI,rfl⟩,rfl⟩,fun _=>⟨(aE y).1,(aE y).1,⟨⟨rfl,rfl⟩,rfl,rfl⟩,.inr ⟨⟨⟨hI,rfl⟩,rfl⟩,rfl⟩,fun _=>⟨⟨⟨⟨hI,rfl⟩,rfl⟩,rfl⟩,rfl⟩⟩⟩⟩⟩⟩⟩
def zg:Con:={ (Con.fn 104 Str (fun s=>[.sl true 1 (cm s)]) (fun _=>True) (fun _=>.bool true) (fun _=>[])) with need:=ew }
theorem H0:Has Tryz.prog 7 zg:=by
 refine ag mixed bn (HasL.cons zZ (HasL.cons qE (HasL.cons wh (HasL.cons nT (HasL.cons xD (HasL.cons xO HasL.nil)))))) [0,2,3,4,5,6,7,8,9,11,12,13,14] ((fun a n (_:Nat)=>(fun _=>an) a n)) [12287] Tryz.func7 (by unfold Tryz.f7; rfl) (fun _=>⟨(),trivial⟩) ?_
 intro (s:Str) _;simp (maxSteps:=8000000) -implicitDefEqProofs [-kStep_move,-kStepC_move,-Bool.exists_bool,zg,pn,lI,ni,jD,nw,nx,Con.fn,aC,ae,bOp]
 try dsimp only
 have hml:maxLen=9223372036854775807:=rfl;refine fun _ _ j o hj ho=>?_;have hsz:=sg (vr ho);have hp:iE (j,o):=⟨by simp only; omega,hsz⟩
 refine ⟨j,o,⟨rfl,rfl,rfl,rfl,rfl,rfl,rfl,rfl⟩,hp,j,o,⟨rfl,rfl,rfl,rfl,rfl,rfl,rfl,rfl⟩,hp,?_⟩;cases hy:(cy j o).2 with
 | false =>
  have e:=E2 hy;simp -implicitDefEqProofs [e]
 | true =>
  obtain ⟨l1,l2,l3⟩:=yo hy;obtain ⟨e,_,_,_,_,e2⟩:=lx hy;have hc:(dB (aE j).1 o).2=0 \/ (dB (aE j).1 o).2=3:=by unfold eF at l2; simpa using l2
  rw [l1];simp only [e] at l3 ⊢;rw [List.length_append] at e2 ⊢;refine ⟨.inr ⟨trivial,trivial⟩,fun _=>⟨fun h=>(by simp at h),fun _ _ _=>⟨by omega,(aE j).1,o,⟨⟨rfl,rfl⟩,rfl,rfl,rfl,rfl,rfl,rfl,rfl⟩,⟨(eO (A6 j)).2,hsz⟩,by omega,(dB (aE j).1 o).1,(dB (aE j).1 o).1,⟨⟨rfl,rfl⟩,rfl,rfl⟩,?_⟩⟩⟩
  exact ⟨.inr hc,fun _ _=>⟨.inr ⟨hc,rfl⟩,fun _ _=>⟨fun _ _ _=>⟨⟨⟨hc,rfl⟩,trivial⟩,by omega⟩,fun _=>⟨.inr ⟨⟨hc,rfl⟩,trivial⟩,fun _=>⟨⟨⟨hc,rfl⟩,trivial⟩,l3⟩⟩⟩⟩⟩
--TAB aC
def sN:Con:={ A:=Str,X:=Str × OpD × Int,n:=20,args:=fun s=>[.sl true 1 (cm s)],boxes:=fun _=>[],pre:=fun s=>s.length<=1048576,post:=fun _ x=>x.1.length<=4100/\iz x.2.1 /\ -1<=x.2.2/\x.2.2<=99,res:=fun _ x=>.tup [.str x.1,.agg [.int .i64 x.2.1.kind,.str x.2.1.branch,.str x.2.1.who,.str x.2.1.path,.str x.2.1.to_,.int .i64 x.2.1.at_,.own 8 1 (aa x.2.1.text)],.int .i64 x.2.2],fin:=fun _ x=>dk 8 x.2.1.text }
theorem G8:Has Tryz.prog 33 sN:=by
 refine ag mixed bn (HasL.cons zZ HasL.nil) [0,2,3,4,5,6] ((fun a n (_:Nat)=>(fun _=>an) a n)) [32771,32787] Tryz.func33 (by unfold Tryz.f33; rfl) (fun _=>⟨(([]:Str),(⟨1,[],[],[],[],0,[]⟩:OpD),(0:Int)),Nat.zero_le _,(by simp -implicitDefEqProofs [iz]),(by decide),(by decide)⟩) ?_
 intro (s:Str) (hs:s.length<=1048576);simp (maxSteps:=8000000) -implicitDefEqProofs [-kStep_move,-Bool.exists_bool,sN,pn,Con.fn,aC,ae,jg,clash,kd,dn,ip];intro j o hj ho;have hm:((s.length:Int)).tmod 7=((s.length % 7:Nat):Int):=(Int.ofNat_tmod s.length 7).symm;rw [hm];have hlt:s.length % 7 < 7:=Nat.mod_lt _ (by omega)
 refine ⟨⟨by omega,by omega⟩,fun _ _=>?_⟩
 rw [show ((s.length % 7:Nat):Int).toNat=s.length % 7 by omega]
 generalize s.length % 7=k at *;have hk:k=0 \/ k=1 \/ k=2 \/ k=3 \/ k=4 \/ k=5 \/ k=6:=by omega
 rcases hk with rfl | rfl | rfl | rfl | rfl | rfl | rfl
 all_goals simp -implicitDefEqProofs [D.asInt]
 all_goals exact ⟨j,o,_,⟨hj,ho,by omega,by omega⟩,⟨rfl,⟨rfl,rfl,rfl,rfl,rfl,rfl,rfl⟩,rfl⟩,rfl⟩
--TAB aC
def zi:Con:={ (Con.fn 96 Str (fun s=>[.sl true 1 (cm s)]) (fun _=>True) (fun _=>.bool true) (fun _=>[])) with need:=ew }
theorem H2:Has Tryz.prog 8 zi:=by
 refine ag mixed bn (HasL.cons G8 (HasL.cons A7 (HasL.cons qE (HasL.cons A8 (HasL.cons nT (HasL.cons xO HasL.nil)))))) [0,2,3,4,5,6,7,8,9,10,11,12] ((fun a n (_:Nat)=>(fun _=>an) a n)) [12287] Tryz.func8 (by unfold Tryz.f8; rfl) (fun _=>⟨(),trivial⟩) ?_
 intro (s:Str) _;simp (maxSteps:=8000000) -implicitDefEqProofs [-kStep_move,-kStepC_move,-Bool.exists_bool,zi,sN,pC,lI,pD,jD,nx,Con.fn,aC,ae,bOp]
 try dsimp only
 refine fun _ _=>⟨by omega,fun j o b hj ho hb0 hb1=>?_⟩
 have hsz:=sg (vr ho);have hp:iE (j,o):=⟨by simp only; omega,hsz⟩
 refine ⟨j,o,b,⟨rfl,⟨rfl,rfl,rfl,rfl,rfl,rfl,rfl⟩,rfl⟩,hp,j,o,⟨rfl,rfl,rfl,rfl,rfl,rfl,rfl,rfl⟩,hp,j,o,b,⟨rfl,⟨rfl,rfl,rfl,rfl,rfl,rfl,rfl⟩,rfl⟩,hp,fun hn=>?_,fun _ hy=>?_⟩
 ·have hy:(cy j o).2=false:=hn.elim (fun h=>absurd rfl h) id;have e:eD j o b=j:=by unfold eD; rw [if_neg (by simp -implicitDefEqProofs [hy])]
  exact ⟨j,o,b,⟨rfl,⟨rfl,rfl,rfl,rfl,rfl,rfl,rfl⟩,rfl⟩,hp,fun _=>⟨rfl,.inr ⟨rfl,hy⟩⟩,fun _=>⟨rfl,.inr e⟩⟩
 ·obtain ⟨t1,t2⟩:=QK (b:=b) hy;obtain ⟨e,_,_,_,_,e2⟩:=lx hy;have hl:(eD j o b).length<=1500:=by
   unfold eD;rw [if_pos hy,List.length_take,e];omega
  refine ⟨by omega,fun q _=>(by rw [t1 q]),fun q=>⟨by omega,?_⟩⟩
  obtain ⟨u1,u2,u3⟩:=t2 q;rw [u1];exact ⟨(aE j).1,(aE j).1,⟨⟨rfl,rfl⟩,rfl,rfl⟩,fun _ _=>⟨.inr ⟨rfl,rfl⟩,fun _ _=>⟨.inr ⟨⟨rfl,rfl⟩,u2⟩,fun _=>⟨⟨⟨rfl,rfl⟩,u2⟩,u3⟩⟩⟩⟩
end Vx
end Go.Proofs.YtonkagjdfpacmaaGreatDoor
