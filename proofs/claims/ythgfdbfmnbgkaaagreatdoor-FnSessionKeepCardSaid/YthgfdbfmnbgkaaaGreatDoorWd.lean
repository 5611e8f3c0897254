/-
  Joined by program (merge.py): Uc, Shj, Uw, Ud, Yh, Yd, Ye, Yc, Yg, Bn, Yj, Yi, Xo, Xp, Xk, Xl, Xq, RowY, Mj, Mm, Mn, Ug, Bt, Yk, Xr, Xs, Xt. It shows what the single texts show; conditions: none but those of each lemma.
-/
import Derived.Test.YthgfdbfmnbgkaaaGreatDoorWc
import Derived.Shelf.Strings.Builder1
import Derived.Shelf.Strings.Builder2
import Derived.Shelf.Strings.OnBuilder
import Derived.Test.YthgfdbfmnbgkaaaGreatDoorProg
import Derived.Lib.ItoaNum
set_option linter.unusedVariables false
set_option linter.unusedSimpArgs false
set_option linter.unusedSectionVars false
namespace Go.Proofs.YthgfdbfmnbgkaaaGreatDoor
set_option maxHeartbeats 4000000
namespace Vx
open Go.RowKit
set_option maxRecDepth 8000
--TAB aB
def uQ:Con:=.fn 22 (List FileD × FileD) (fun a=>[.sl true 2 (ac a.1),.agg [.str a.2.path,.sl true 1 (aa a.2.text)]]) (fun a=>fK a.1/\a.2.text.length<=1048576/\a.2.path.length<=1048576) (fun a=>.tup [.own 8 2 (ac (lv a.1 a.2).1),.bool (lv a.1 a.2).2]) (fun a=>eO 8 (lv a.1 a.2).1)
theorem PI:Has Tryz.prog 143 uQ:=by
 refine ah mixed aL (HasL.cons lr (HasL.cons CR (HasL.cons ze HasL.nil))) [0,1,3,4,5,6] ((fun a n (_:Nat)=>(fun _=>az) a n)) [] Tryz.func143 (by unfold Tryz.f143; rfl) (fun _=>⟨(),trivial⟩) ?_
 intro a ha;obtain ⟨t,f⟩:=a;obtain ⟨h1,h4,h5⟩:fK t/\f.text.length<=1048576/\f.path.length<=1048576:=ha;simp (maxSteps:=8000000) -implicitDefEqProofs [-kStep_move,-kStepC_move,-Bool.exists_bool,uQ,jb,pU,po,Con.fn,aB,ag]
 try dsimp only
 obtain ⟨k1,k2,k3⟩:=h1;refine ⟨k3,fun h=>?_,fun h=>⟨t,f,⟨rfl,rfl,rfl⟩,⟨⟨k1,k2⟩,h4⟩,t,(cm t f).1,⟨rfl,rfl⟩,rfl,⟨⟨k1,k2⟩,fun g hg=>?_⟩,?_⟩⟩
 ·unfold lv; rw [if_neg (by simp -implicitDefEqProofs [h])]; exact ⟨⟨rfl,rfl⟩,rfl⟩
 ·rcases CN t f g hg with q | rfl
  ·exact k3 g q
  ·omega
 ·unfold lv; rw [if_pos h]
  by_cases q:aC (cm t f).1=true
  ·rw [if_pos q,if_pos q]; exact ⟨⟨rfl,q.symm⟩,rfl⟩
  ·rw [if_neg q,if_neg q]; exact ⟨⟨rfl,by simpa using q⟩,rfl⟩
def uM:Con:=.fn 34 (List FileD × Str) (fun a=>[.sl true 2 (ac a.1),.str a.2]) (fun a=>fK a.1/\a.2.length<=536870912) (fun a=>.tup [.own 8 2 (ac (jC a.1 a.2).1),.bool (jC a.1 a.2).2]) (fun a=>eO 8 (jC a.1 a.2).1)
theorem PC:Has Tryz.prog 145 uM:=by
 refine ah mixed aL (HasL.cons lr (HasL.cons jc (HasL.cons vT HasL.nil))) [0,1,4,5,6,8,13,14,15] ((fun a n (_:Nat)=>(fun a _=>⟨Nat,fun i=>⟨[(0,true,.sl true 2 (ac a.1)),(1,true,.str a.2),(4,true,.nil),(5,true,.bool false),(6,true,.own 9 2 (ac (aE (cy a.2) (a.1.take i)))),(13,true,.own 10 2 (eL (cy a.2) a.1 i)),(14,true,.int .i64 a.1.length),(15,true,.int .i64 i)],[(9,.own 119 2 true (ac (aE (cy a.2) (a.1.take i)))),(10,.own 119 2 true (eL (cy a.2) a.1 i))]⟩,fun i=>i<=a.1.length/\aC a.1=true,fun i=>a.1.length - i⟩) a n)) [25] Tryz.func145 (by unfold Tryz.f145; rfl) (fun _=>⟨(),trivial⟩) ?_
 intro a ha;obtain ⟨t,q⟩:=a;obtain ⟨h1,h2⟩:fK t/\q.length<=536870912:=ha;simp -implicitDefEqProofs [uM,jb,gY,mY,Con.fn,aB,ag]
 try dsimp only
 obtain ⟨k1,k2,k3⟩:=h1;generalize hp:cy q=p;have hpv:∀ f:FileD,atB f.path q = !p f:=fun f=>by rw [<- hp]; simp -implicitDefEqProofs [cy]
 have hI:aC t=true->jC t q=(aE p t,decide ((aE p t).length < t.length)):=fun h=>by unfold jC; rw [if_pos h,hp]
 have hF:aC t=false->jC t q=([],false):=fun h=>by unfold jC; rw [if_neg (by simp -implicitDefEqProofs [h])]
 refine ⟨k3,fun h=>by rw [hF h]; exact ⟨⟨rfl,rfl⟩,rfl⟩,fun hT=>⟨⟨k1,k2⟩,fun _=>⟨⟨0,by simp -implicitDefEqProofs [HK,zL,hT]⟩,fun i hi _=>⟨fun hlt=>?_,fun hge _ _=>?_⟩⟩⟩⟩
 ·have g1:=HF (p:=p) hlt;have g2:=HI p t i;have g3:=zK p t i;have g5:(eL p t i)[i]'(by rw [g2]; exact hlt)=aq t[i]:=by
   have:=g1;rw [List.getElem?_eq_getElem (by rw [g2]; exact hlt)] at this
   exact Option.some.inj this
  simp -implicitDefEqProofs [g1,g5,g2,aq,D.asStr,D.asRows,hlt,and_assoc];refine ⟨h2,fun hh=>⟨by omega,by omega,by omega,by omega,fun _ _=>?_⟩,fun hh=>⟨by omega,by omega,fun _ _=>?_⟩⟩
  ·have hh:p t[i]=true:=by have:=hpv t[i]; rw [hh] at this; simpa using this.symm
   have e1:=nE (p:=p) hlt hh;have e2:=HG (p:=p) hlt hh;have e3:ac (aE p (t.take (i+1)))=ac (aE p (t.take i))++[[D.str t[i].path,D.sl 9 1 (aa t[i].text)]]:=by rw [e1,bN]; rfl
   exact ⟨i+1,e3,e2.symm,by omega,e3.symm,e2,by omega,hT,by omega⟩
  ·have hh:p t[i]=false:=by have:=hpv t[i]; rw [hh] at this; simpa using this.symm
   have e1:=nF (p:=p) hlt hh;have e2:=HJ (p:=p) hlt hh;exact ⟨i+1,e1,e2,by omega,e1.symm,e2.symm,by omega,hT,by omega⟩
 ·rw [hI hT,List.take_of_length_le hge]; exact ⟨⟨rfl,rfl⟩,rfl⟩
def kt (p:Str) (t:List FileD) (i:Nat):Bool:=(t.take i).any fun f=>atB f.path p
theorem EL (p:Str) (t:List FileD):kt p t 0=false:=rfl
theorem EK {p:Str} {t:List FileD} {i:Nat} (h:i < t.length):kt p t (i+1)=(kt p t i || atB t[i].path p):=by unfold kt; rw [aX h,List.any_append]; simp
theorem Ny {o:List FileD} {f:FileD} (h:Srt (o++[f])):(cm o f).1=o++[f]:=by
 have:=H9 (o:=o) (l:=[f]) h
 simpa [inP] using this
theorem EV {p q:Str} (h:atB p q=true):q.length<=p.length:=by
 unfold atB at h;simp only [Bool.or_eq_true,decide_eq_true_eq] at h;rcases h with rfl | h
 ·exact Nat.le_refl _
 ·unfold ix at h;simp only [Bool.and_eq_true,decide_eq_true_eq,List.length_append] at h;omega
def mvA (a:List FileD × Str × Str):Inv:=⟨Nat,fun i=>⟨[(0,true,.sl true 2 (ac a.1)),(1,true,.str a.2.1),(2,true,.str a.2.2),(6,true,.nil),(7,true,.bool false),(8,true,.own 9 2 (ac (aE (cy a.2.1) (a.1.take i)))),(9,true,.bool false),(19,true,.sl true 2 (ac a.1)),(20,true,.int .i64 a.1.length),(21,true,.int .i64 i)],[(9,.own 119 2 true (ac (aE (cy a.2.1) (a.1.take i))))]⟩,fun i=>i<=a.1.length/\aC a.1=true,fun i=>a.1.length - i⟩
def mvB (a:List FileD × Str × Str):Inv:=⟨Nat × List FileD,fun x=>⟨[(0,true,.sl true 2 (ac a.1)),(1,true,.str a.2.1),(2,true,.str a.2.2),(6,true,.nil),(7,true,.bool false),(8,true,.own 9 2 (ac x.2)),(9,true,.bool (kt a.2.1 a.1 x.1)),(36,true,.sl true 2 (ac a.1)),(37,true,.int .i64 a.1.length),(38,true,.int .i64 x.1)],[(9,.own 119 2 true (ac x.2))]⟩,
 fun x=>x.1<=a.1.length/\aC a.1=true/\mvI a.2.1 a.2.2 (a.1.drop x.1) x.2=mvI a.2.1 a.2.2 a.1 (aE (cy a.2.1) a.1)/\x.2.length<=8+x.1 /\ ∀ f ∈ x.2,f.text.length<=1048576/\f.path.length<=4194304,fun x=>a.1.length - x.1⟩
def wY (a:List FileD × Str × Str) (n _g:Nat):Inv:=if n=5 then mvA a else mvB a
theorem Lu (a:List FileD × Str × Str) (g:Nat):wY a 5 g=mvA a:=rfl
theorem Lt (a:List FileD × Str × Str) (g:Nat):wY a 11 g=mvB a:=rfl
def uO:Con:=.fn 81 (List FileD × Str × Str) (fun a=>[.sl true 2 (ac a.1),.str a.2.1,.str a.2.2]) (fun a=>fK a.1/\a.2.1.length<=1048576/\a.2.2.length<=1048576) (fun a=>.tup [.own 8 2 (ac (iz a.1 a.2.1 a.2.2).1),.bool (iz a.1 a.2.1 a.2.2).2]) (fun a=>eO 8 (iz a.1 a.2.1 a.2.2).1)
theorem PF:Has Tryz.prog 146 uO:=by
 refine ah mixed aL (HasL.cons lr (HasL.cons jc (HasL.cons vT (HasL.cons CR (HasL.cons ze (HasL.cons rl HasL.nil)))))) [0,1,2,6,7,8,9,11,13,14,15,19,20,21,36,37,38] (fun a=>wY a) [] Tryz.func146 (by unfold Tryz.f146; rfl) (fun _=>⟨(),trivial⟩) ?_
 intro a ha;obtain ⟨t,q,to⟩:=a;obtain ⟨h1,h2,h3⟩:fK t/\q.length<=1048576/\to.length<=1048576:=ha;simp (maxSteps:=8000000) -implicitDefEqProofs [-kStep_move,-kStepC_move,-Bool.exists_bool,uO,jb,gY,mY,pU,po,lQ,Con.fn,aB,ag,Lu,Lt,mvA,mvB]
 try dsimp only
 obtain ⟨k1,k2,k3⟩:=h1;have hF:aC t=false->iz t q to=([],false):=fun h=>by unfold iz; rw [if_neg (by simp -implicitDefEqProofs [h])]
 refine ⟨k3,fun h=>by rw [hF h]; exact ⟨⟨rfl,rfl⟩,rfl⟩,fun hT _=>⟨⟨0,by simp -implicitDefEqProofs [zL,hT]⟩,fun i hi _=>⟨fun hlt=>⟨hlt,fun _=>?_⟩,fun hge _=>?_⟩⟩⟩
 ·have e1:Option.map aq t[i]? = some (aq t[i]):=by simp -implicitDefEqProofs [hlt]
  have hs:=xP hT;have hst:cy q t[i]=true->(cm (aE (cy q) (t.take i)) t[i]).1=aE (cy q) (t.take (i+1)):=fun hd=>by
   have e:=nE (p:=cy q) hlt hd;rw [e]; exact Ny (by rw [<- e]; exact (hs.sublist (List.take_sublist _ _)).filter _)
  have hms:=nF (p:=cy q) hlt;have hd:cy q t[i] = !atB t[i].path q:=rfl;have m1:(aE (cy q) (t.take i)).length<=1048576:=by have:=zK (cy q) t i; omega
  have m2:∀ f ∈ aE (cy q) (t.take i),f.text.length<=1048576:=fun f hf=>k2 f (List.mem_of_mem_take (List.mem_filter.1 hf).1);have m3:=k2 t[i] (List.getElem_mem hlt);rw [e1];generalize t[i]=f at *;simp -implicitDefEqProofs [aq,D.asStr,D.asRows];refine ⟨f,q,⟨⟨rfl,rfl⟩,rfl⟩,by omega,fun hh=>⟨_,f,⟨rfl,rfl,rfl⟩,⟨⟨m1,m2⟩,m3⟩,⟨by omega,by omega⟩,fun _ _=>⟨i+1,⟨⟨?_,by omega⟩,?_⟩,⟨by omega,hT⟩,by omega⟩⟩,fun hh=>⟨⟨by omega,by omega⟩,fun _ _=>⟨i+1,⟨⟨?_,by omega⟩,?_⟩,⟨by omega,hT⟩,by omega⟩⟩⟩
  ·exact (hst (by rw [hd,hh]; rfl)).symm
  ·exact hst (by rw [hd,hh]; rfl)
  ·exact hms (by rw [hd,hh]; rfl)
  ·exact (hms (by rw [hd,hh]; rfl)).symm
 ·have hlen:=(rR t hT).1;refine ⟨⟨0,aE (cy q) t,⟨⟨by rw [List.take_of_length_le hge],EL q t,rfl⟩,by rw [List.take_of_length_le hge]⟩,Nat.zero_le _,hT,rfl,?_,?_⟩,fun j o hj _ hm hol hob=>⟨fun hlt=>⟨hlt,fun _=>?_⟩,fun hge2=>?_⟩⟩
  ·have:=List.length_filter_le (cy q) t; unfold aE; omega
  ·intro f hf;have hf:=(List.mem_filter.1 hf).1;have:=k3 f hf;exact ⟨k2 f hf,by have:=(mK hT f hf).1.2; omega⟩
  ·have e1:Option.map aq t[j]? = some (aq t[j]):=by simp -implicitDefEqProofs [hlt]
   have hst:=Ls (p:=q) (to:=to) (o:=o) hlt;rw [hm] at hst;have ha:=EK (p:=q) hlt;have m3:=k2 t[j] (List.getElem_mem hlt);have m4:=(mK hT t[j] (List.getElem_mem hlt)).1.2;rw [e1];generalize t[j]=f at *;simp -implicitDefEqProofs [aq,D.asStr,D.asRows];have hd:f.path.length - q.length=(f.path.drop q.length).length:=by simp
   refine ⟨f,q,⟨⟨rfl,rfl⟩,rfl⟩,by omega,fun hh=>⟨⟨by omega,by omega⟩,fun _ _=>⟨j+1,o,⟨⟨rfl,by rw [ha,hh]; simp,by omega⟩,rfl⟩,⟨by omega,hT,by rw [hst,if_neg (by simp -implicitDefEqProofs [hh])],by omega,hob⟩,by omega⟩⟩,fun hh=>?_⟩
   have hle:=EV hh;rw [if_pos hh] at hst;have hM:maxLen=9223372036854775807:=rfl;refine ⟨hle,fun _=>⟨by omega,fun _=>⟨o,⟨to++f.path.drop q.length,f.text⟩,⟨rfl,by rw [hd,List.take_length],rfl⟩,⟨⟨by omega,fun g hg=>(hob g hg).1⟩,m3⟩,fun hp=>⟨⟨k1,k2⟩,?_⟩,fun hp=>⟨⟨by omega,by omega⟩,fun _ _=>⟨j+1,_,⟨⟨rfl,by rw [ha,hh]; simp,by omega⟩,rfl⟩,⟨by omega,hT,?_,?_,fun g hg=>?_⟩,by omega⟩⟩⟩⟩⟩
   ·rw [if_neg (by simp -implicitDefEqProofs [hp])] at hst
    have:iz t q to=(t,false):=by unfold iz; rw [if_pos hT,hst]
    rw [this]; exact ⟨⟨rfl,rfl⟩,rfl⟩
   ·rw [if_pos hp] at hst; exact hst.symm
   ·have:=M8 o ⟨to++f.path.drop q.length,f.text⟩; omega
   ·rcases CN _ _ g hg with hg | rfl
    ·exact hob g hg
    ·refine ⟨m3,?_⟩
     show (to++f.path.drop q.length).length<=4194304
     simp; omega
  ·have hx:=Lr (p:=q) (to:=to) (o:=o) hge2;rw [hm] at hx;have hall:kt q t j=t.any fun f=>atB f.path q:=by unfold kt; rw [List.take_of_length_le hge2]
   have hT2:iz t q to=if (t.any fun f=>atB f.path q)=false \/ dZ to=false then (t,false) else if aC o then (o,true) else (t,false):=by unfold iz; rw [if_pos hT,hx]
   rw [<- hall] at hT2;refine ⟨fun h=>⟨h,by omega⟩,fun h=>?_,fun h h'=>⟨t,o,⟨rfl,rfl⟩,rfl,⟨⟨k1,k2⟩,fun f hf=>by have:=(hob f hf).2; omega⟩,?_⟩⟩
   ·rw [hT2,if_pos h]; exact ⟨⟨k1,k2⟩,⟨rfl,rfl⟩,rfl⟩
   ·rw [hT2,if_neg (by simp -implicitDefEqProofs [h,h'])]
    by_cases g:aC o=true
    ·rw [if_pos g,if_pos g]; exact ⟨⟨rfl,g.symm⟩,rfl⟩
    ·rw [if_neg g,if_neg g]; exact ⟨⟨rfl,by simpa using g⟩,rfl⟩
end Vx
end Go.Proofs.YthgfdbfmnbgkaaaGreatDoor
/-
  DERIVED: THE SHELF's CONTRACTS AT THIS DUMP, IN PLAIN WORDS (tools/lay-plain.mjs out of 'YthgfdbfmnbgkaaaGreatDoorShelf.lean', which tools/lay-shelf.mjs wrote): THE SAME DECLARATIONS UNDER THE SAME NAMES: 'import', 'namespace', 'open', 'def', 'theorem' AND NOTHING ELSE: no command of the shelf's: FOR A HAND-IN. Each laying: the table of numbers ('.._ren') and one theorem, a field a fact of the dump's own or the kernel's comparison; each contract: ONE APPLICATION.
-/
namespace Go.Proofs
open Go.Shelf
def Tryz.laysJoin_ren:Go.Shelf.Ren:=⟨fun | 156=>191 | 165=>239 | 166=>29 | 169=>30 | 240=>79 | 241=>270 | 276=>159 | 277=>293 | n=>n,fun | 31=>22 | 9=>9 | 3=>3 | 4=>4 | 0=>0 | 20=>20 | 72=>58 | 76=>62 | 70=>56 | 37=>28 | 75=>61 | 127=>109 | 164=>164 | 5=>5 | 80=>64 | n=>n,fun | n=>n⟩
theorem Tryz.laysJoin:Go.Proofs.Lays.n156 Tryz.prog Tryz.laysJoin_ren:={
  mixed:=by kernel_rfl
  f156:=Tryz.func191.trans (congrArg some (by kernel_rfl))
  f165:=Tryz.func239.trans (congrArg some (by kernel_rfl))
  f166:=Tryz.func29.trans (congrArg some (by kernel_rfl))
  f169:=Tryz.func30.trans (congrArg some (by kernel_rfl))
  f240:=Tryz.func79.trans (congrArg some (by kernel_rfl))
  f241:=Tryz.func270.trans (congrArg some (by kernel_rfl))
  f276:=Tryz.func159.trans (congrArg some (by kernel_rfl))
  f277:=Tryz.func293.trans (congrArg some (by kernel_rfl))
  t0:=Tryz.underlying0
  a0:=Tryz.isAgg0
  z0:=Tryz.sizeOf0
  v0:=Tryz.zeroValue0
  t3:=Tryz.underlying3
  a3:=Tryz.isAgg3
  z3:=Tryz.sizeOf3
  v3:=Tryz.zeroValue3
  t4:=Tryz.underlying4
  a4:=Tryz.isAgg4
  z4:=Tryz.sizeOf4
  v4:=Tryz.zeroValue4
  t9:=Tryz.underlying9
  a9:=Tryz.isAgg9
  z9:=Tryz.sizeOf9
  v9:=Tryz.zeroValue9
  t20:=Tryz.underlying20
  a20:=Tryz.isAgg20
  z20:=Tryz.sizeOf20
  v20:=Tryz.zeroValue20
  t31:=Tryz.underlying22
  a31:=Tryz.isAgg22
  z31:=Tryz.sizeOf22
  v31:=Tryz.zeroValue22
  t37:=Tryz.underlying28
  a37:=Tryz.isAgg28
  z37:=Tryz.sizeOf28
  v37:=Tryz.zeroValue28
  t70:=Tryz.underlying56
  a70:=Tryz.isAgg56
  z70:=Tryz.sizeOf56
  v70:=Tryz.zeroValue56
  t72:=Tryz.underlying58
  a72:=Tryz.isAgg58
  z72:=Tryz.sizeOf58
  v72:=Tryz.zeroValue58
  t75:=Tryz.underlying61
  a75:=Tryz.isAgg61
  z75:=Tryz.sizeOf61
  v75:=Tryz.zeroValue61
  t76:=Tryz.underlying62
  a76:=Tryz.isAgg62
  z76:=Tryz.sizeOf62
  v76:=Tryz.zeroValue62
  t127:=Tryz.underlying109
  a127:=Tryz.isAgg109
  z127:=Tryz.sizeOf109
  v127:=Tryz.zeroValue109
  t164:=Tryz.underlying164
  a164:=Tryz.isAgg164
  z164:=Tryz.sizeOf164
  v164:=Tryz.zeroValue164 }
theorem Tryz.laysJoinX:Builder.Extra Tryz.prog Tryz.laysJoin_ren:={
  sizeBuilder:=by kernel_rfl
  liesBuilder:=by kernel_rfl
  t5:=Tryz.underlying5
  a5:=Tryz.isAgg5
  z5:=Tryz.sizeOf5
  v5:=Tryz.zeroValue5
  infoByte:=by kernel_rfl
  cellsByte:=by kernel_rfl
  sizeByte:=by kernel_rfl
  neB5:=by decide }
end Go.Proofs
namespace Go.Proofs.YthgfdbfmnbgkaaaGreatDoor
set_option maxHeartbeats 4000000
namespace Vx
open Go.RowKit Go.Shelf
set_option maxRecDepth 8000
theorem CT {q:Bool} {w:World}:∀ {l:List Str} {vs f},RdL q w (aa l).flatten vs f->vs=l.map (fun s=>Value.string ⟨s.toArray⟩)
 | [],vs,f,h=>by cases h; rfl
 | s :: l,vs,f,h=>by
  cases h with
  | str h1 h2=>rw [CT (l:=l) h2]; rfl
def yX:Con:=.fn 75 (List Str) (fun l=>[.sl true 1 (aa l),.str []]) (fun l=>l.length<=1048576/\l.flatten.length<=1073741824) (fun l=>.str l.flatten) (fun _=>[])
theorem AB (l:List Str):Lib.join l []=l.flatten:=by
 unfold Lib.join
 induction l with
 | nil=>rfl
 | cons x l ih =>
  cases l with
  | nil=>simp [List.intercalate]
  | cons y l=>simp [List.intercalate] at ih ⊢; exact ih
set_option maxHeartbeats 1000000 in
theorem IE {w:World} {l:List Str} {v0:Value} {e:Nat} {fp:List (Nat × Nat)} (h5:RdL false w [D.sl e 1 (aa l)] [v0] fp) (hp:l.length<=1048576/\l.flatten.length<=1073741824) :
  Calls Tryz.prog 191 #[v0,.string ⟨#[]⟩] w fun e w'=>e = .returned (.string ⟨l.flatten.toArray⟩)/\Below w.heap.size w w':=by
 rcases h5.open1 with ⟨h1,_,oa,cap,rfl,_⟩ | ⟨b,off,cap,cs,ty,fr,cvs,f1,rfl,g2,g3,g4,_,g6,g8,g9,_⟩
 ·have hl:l=[]:=by simpa using h1
  subst hl;refine (Any.strings_Join_none Tryz.laysJoin Tryz.laysJoinX oa cap ⟨#[]⟩ w).mono ?_;rintro e w' ⟨rfl,rfl⟩;exact ⟨rfl,Below.refl _ _⟩
 ·have hv:=CT g9;rw [eStrs_length] at g2 g3 ⊢;have hm:(l.map fun s:Str=>(⟨s.toArray⟩:ByteArray)).map (·.data.toList)=l:=by simp [List.map_map,Function.comp_def]
  have hl:(l.map fun s:Str=>(⟨s.toArray⟩:ByteArray)).length=l.length:=List.length_map _;have hj:=Any.strings_Join Tryz.laysJoin Tryz.laysJoinX b off cap (l.map fun s:Str=>(⟨s.toArray⟩:ByteArray)) ⟨#[]⟩ w (fun j x hx=>by
   have hx2:=g8 j (.string x) (by rw [hv]; simp at hx ⊢; obtain ⟨s,q1,rfl⟩:=hx; exact ⟨s,q1,rfl⟩)
   simp only [World.cell?,g6]
   simpa using hx2) (Array.getElem?_eq_some_iff.1 g6).1 (by rw [hl]; omega) (by rw [hl]; omega) (by rw [hm]; exact Nat.le_trans (Nat.le_of_eq (congrArg List.length (AB l))) (by omega))
  rw [hm] at hj;rw [hl] at hj;have e1:Lib.join l []=l.flatten:=AB l;refine hj.mono ?_;rintro e w' ⟨rfl,hw⟩;exact ⟨by rw [<- e1],hw⟩
theorem IF:Has Tryz.prog 191 yX:=by
 refine ⟨fun args w=>Go.MuLone.run_callFunc_enter Tryz.func191 (by kernel_rfl) rfl args w,fun _=>⟨(),trivial⟩,fun _ _=>rfl,?_,trivial,.inl rfl⟩
 intro (l:List Str) (hp:l.length<=1048576/\l.flatten.length<=1073741824) c hky vs β fp hcn hpins hl1 hl2 S;have hr:=li hl1 S;obtain ⟨v0,vs1,rfl,r0,hr⟩:=hr.uncons;obtain ⟨v1,vs2,rfl,r1,hr⟩:=hr.uncons;cases hr;cases r1 with | str h1 h2=>?_
 cases h2;cases r0 with | sl h3 h4=>?_
 cases h4;obtain ⟨e,fp0,h5,h6⟩:=h3;refine (IE h5 hp).mono ?_;rintro e w' ⟨rfl,hb⟩;have hpp:c.pins=[]:=hpins;refine ⟨(),trivial,_,rfl,β,fp,⟨Array.replicate c.n undef,[]⟩,⟨?_,?_,?_,?_,?_,S.fg,fun b hb'=>⟨(S.old b hb').1,(hb.block b (S.old b hb').1)⟩,hb.os,hb.tape,hb.output,hb.size,rfl,by simp,?_⟩,?_⟩
 ·intro t g av ht; cases ht
 ·intro h blk hm; cases hm
 ·intro h blk hm; cases hm
 ·intro h h' blk blk' hm; cases hm
 ·intro h blk hm; cases hm
 ·rw [hpp]; intro p hp; cases hp
 ·exact .str (by show l.flatten.length<=maxLen; have:maxLen=9223372036854775807:=rfl; have:=hp.2; omega) .lnil
theorem H2 (s:Str) (c:UInt8):(aH s c < 0)=(∀ b ∈ s,¬ b=c):=by
 induction s with
 | nil=>simp [aH]
 | cons b l ih =>
  unfold aH;by_cases hb:b=c
  ·simp [hb]
  ·rw [if_neg hb];by_cases h:aH l c < 0
   ·rw [if_pos h]; rw [ih] at h; simp [hb]; exact h
   ·rw [if_neg h]; rw [ih] at h
    have:¬ (aH l c+1 < 0):=by rw [<- ih] at h; omega
    simp only [this,false_iff,eq_iff_iff];intro q; exact h fun x hx=>q x (by simp [hx])
def sU:Con:=.fn 9 (Str × UInt8) (fun a=>[.str a.1,.str [a.2]]) (fun _=>True) (fun a=>.bool (decide (0<=aH a.1 a.2))) (fun _=>[])
theorem GH:Has Tryz.prog 190 sU:=by
 refine ah mixed aw (HasL.cons xF HasL.nil) [0,1,4] ((fun a n (_:Nat)=>(fun _=>az) a n)) [] Tryz.func190 (by unfold Tryz.f190; rfl) (fun _=>⟨(),trivial⟩) ?_
 intro a _;obtain ⟨s,b⟩:=a;simp -implicitDefEqProofs [sU,pV,Con.fn,ag];exact ⟨s,b,⟨rfl,rfl⟩,Iff.rfl⟩
theorem Fm (t:List Str):(aH t.flatten 124 < 0)=(t.all eB=true):=by
 rw [H2];simp only [List.mem_flatten,forall_exists_index,and_imp,List.all_eq_true,eB,decide_eq_true_eq,ne_eq,eq_iff_iff];exact ⟨fun h s hs b hb=>h b s hs hb,fun h b s hs hb=>h s hs b hb⟩
end Vx
end Go.Proofs.YthgfdbfmnbgkaaaGreatDoor
namespace Go.Proofs.YthgfdbfmnbgkaaaGreatDoor
set_option maxHeartbeats 4000000
namespace Vx
open Go.RowKit
set_option maxRecDepth 8000
--TAB aB
theorem zh {r:RepoD} (h:aF r=true) {n:Str} {c:CommitD} (hc:∀ f ∈ c.tree,f.path.length<=536870912):dQ (cmL r n c):=by
 have h1:=fS h;refine ⟨by simp -implicitDefEqProofs [cmL]; omega,fun x hx f hf=>?_⟩
 have hx:x ∈ r.commits++[c]:=hx;rcases List.mem_append.1 hx with hx | hx
 ·exact (eG h).2.2 x hx f hf
 ·rw [List.mem_singleton.1 hx] at hf;exact hc f hf
abbrev oRb (x:RepoD × Bool):AV:=.tup [.agg [.own 8 3 (aD x.1.commits),.own 9 2 (al x.1.heads)],.bool x.2]
abbrev BK (x:RepoD × Bool):List (Nat × Blk):=iS 8 x.1.commits++gD 9 x.1.heads
def cRepoCommitI:Con:=.fn 36 (RepoD × Str × Str × List FileD) (fun a=>[aM a.1,.str a.2.1,.str a.2.2.1,.sl true 2 (ac a.2.2.2)]) (fun a=>dQ a.1/\fK a.2.2.2) (fun a=>oRb (dz a.1 a.2.1 a.2.2.1 a.2.2.2)) (fun a=>BK (dz a.1 a.2.1 a.2.2.1 a.2.2.2))
theorem HS {P:Program} {f:Nat} {k:Con} {c:k.A->Prop} (h1:Has P f { k with pre:=fun a=>k.pre a/\c a }) (h2:Has P f { k with pre:=fun a=>k.pre a /\ ¬ c a }):Has P f k :=
 ⟨h1.enter,h1.tot,h1.nob,fun a ha=>by
  by_cases q:c a
  ·exact h1.calls a ⟨ha,q⟩
  ·exact h2.calls a ⟨ha,q⟩,h1.bldr,h1.bt⟩
def sR:Con:={ A:=RepoD × Str × Str × List FileD,X:=Unit,n:=28,args:=fun a=>[.agg [.own 0 3 (aD a.1.commits),.own 1 2 (al a.1.heads)],.str a.2.1,.str a.2.2.1,.sl true 2 (ac a.2.2.2),.nil],boxes:=fun _=>[],pre:=fun a=>a.1.heads.length<=1048576/\a.1.commits.length<=1048576/\a.2.2.2.length<=1048576 /\ ∀ f ∈ a.2.2.2,f.text.length<=1048576,post:=fun _ _=>True,res:=fun a _=>.agg [.own 8 3 (aD (cmL a.1 a.2.1 ⟨[],a.2.2.1,a.2.2.2⟩).commits),.own 9 2 (al (cmL a.1 a.2.1 ⟨[],a.2.2.1,a.2.2.2⟩).heads)],fin:=fun a _=>iS 8 (cmL a.1 a.2.1 ⟨[],a.2.2.1,a.2.2.2⟩).commits++gD 9 (cmL a.1 a.2.1 ⟨[],a.2.2.1,a.2.2.2⟩).heads,owns:=fun a=>gG a.1,mv:=true }
theorem GC:Has Tryz.prog 108 sR:=by
 refine ah mixed aL (HasL.cons jc (HasL.cons rp HasL.nil)) [0,1,2,3,4,5,10] ((fun a n (_:Nat)=>(fun _=>az) a n)) [18] Tryz.func108 (by unfold Tryz.f108; rfl) (fun _=>⟨(),trivial⟩) ?_
 intro a ha;obtain ⟨r,n,w,t⟩:=a;obtain ⟨h1,h2,h3,h4⟩:r.heads.length<=1048576/\r.commits.length<=1048576/\t.length<=1048576 /\ ∀ f ∈ t,f.text.length<=1048576:=ha;simp (maxSteps:=8000000) -implicitDefEqProofs [sR,gG,lS,gY,Con.fn,aB,ag,aN]
 try dsimp only
 have sn:aD r.commits++[[D.sl 3 1 [],D.str w,D.sl 119 2 (ac t)]]=aD (r.commits++[⟨[],w,t⟩]):=jM _ [] _ _;rw [sn];exact ⟨⟨h3,h4⟩,⟨by omega,by omega⟩,fun _=>⟨by omega,fun _=>⟨⟨r.commits++[⟨[],w,t⟩],r.heads⟩,n,_,⟨⟨rfl,rfl⟩,rfl,rfl⟩,⟨rfl,rfl⟩,h1,⟨rfl,rfl⟩,rfl,rfl⟩⟩⟩
def y7:Con:={ cRepoCommitI with pre:=fun a=>cRepoCommitI.pre a/\0<=atL a.1.heads a.2.1 }
theorem NQ:Has Tryz.prog 194 y7:=by
 refine ah mixed aL (HasL.cons lf (HasL.cons jG (HasL.cons jr (HasL.cons vd (HasL.cons oJ HasL.nil))))) [0,1,2,3,4,8,9,10,11] ((fun a n (_:Nat)=>(fun _=>az) a n)) [16409,16416,16417] Tryz.func194 (by unfold Tryz.f194; rfl) (fun _=>⟨(),trivial⟩) ?_
 intro a ha;obtain ⟨r,n,w,t⟩:=a;obtain ⟨⟨h1,h2⟩,h0⟩:(dQ r/\fK t)/\0<=atL r.heads n:=ha;simp (maxSteps:=8000000) [-kStep_move,-kStepC_move,-Bool.exists_bool,y7,cRepoCommitI,ja,gX,hJ,mW,nt,kG,gG,Con.fn,aB,ag,aN]
 try dsimp only
 try simp only [and_assoc,exists_eq_left,exists_and_left,RepoD.ex1,RepoD.eta]
 refine ⟨h1,fun h=>?_,fun h=>⟨fun _=>?_,h0⟩⟩
 ·rw [oB,if_neg (by simp -implicitDefEqProofs [h])]; exact ⟨rfl,rfl,rfl,rfl,rfl⟩
 ·obtain ⟨hz,hp⟩:=eG h;obtain ⟨k1,k2,k3⟩:=h2;have hc:aC t=true \/ True:=.inr trivial;refine ⟨hz,[atL r.heads n],rfl,trivial,trivial,rfl,hz.2.2,hz.1,k1,k2,trivial,trivial,hz,zh h k3,?_⟩;have e:dz r n w t=if aF (cmL r n ⟨[atL r.heads n],w,t⟩) then (cmL r n ⟨[atL r.heads n],w,t⟩,true) else (r,false):=by rw [oB,if_pos h]; unfold nu; rw [if_pos h0]
  rw [e];by_cases q:aF (cmL r n ⟨[atL r.heads n],w,t⟩)=true
  ·rw [if_pos q,if_pos q,q]; exact ⟨rfl,rfl,rfl,rfl,rfl⟩
  ·rw [if_neg q,if_neg q]; exact ⟨rfl,rfl,by simpa using q,rfl,rfl⟩
def y8:Con:={ cRepoCommitI with pre:=fun a=>cRepoCommitI.pre a /\ ¬ 0<=atL a.1.heads a.2.1 }
theorem NR:Has Tryz.prog 194 y8:=by
 refine ah mixed aL (HasL.cons lf (HasL.cons jG (HasL.cons jr (HasL.cons GC (HasL.cons oJ HasL.nil))))) [0,1,2,3,4,8,9,10,11] ((fun a n (_:Nat)=>(fun _=>az) a n)) [16409,16416,16417] Tryz.func194 (by unfold Tryz.f194; rfl) (fun _=>⟨(),trivial⟩) ?_
 intro a ha;obtain ⟨r,n,w,t⟩:=a;obtain ⟨⟨h1,h2⟩,h0⟩:(dQ r/\fK t) /\ ¬ 0<=atL r.heads n:=ha;simp (maxSteps:=8000000) [-kStep_move,-kStepC_move,-Bool.exists_bool,y8,cRepoCommitI,ja,gX,hJ,sR,kG,gG,Con.fn,aB,ag,aN]
 try dsimp only
 try simp only [and_assoc,exists_eq_left,exists_and_left,RepoD.ex1,RepoD.eta]
 refine ⟨h1,fun h=>?_,fun h=>⟨by omega,fun _=>?_⟩⟩
 ·rw [oB,if_neg (by simp -implicitDefEqProofs [h])]; exact ⟨rfl,rfl,rfl,rfl,rfl⟩
 ·obtain ⟨hz,hp⟩:=eG h;obtain ⟨k1,k2,k3⟩:=h2;refine ⟨hz,trivial,trivial,hz.2.2,hz.1,k1,k2,trivial,trivial,hz,zh h k3,?_⟩;have e:dz r n w t=if aF (cmL r n ⟨[],w,t⟩) then (cmL r n ⟨[],w,t⟩,true) else (r,false):=by rw [oB,if_pos h]; unfold nu; rw [if_neg h0]
  rw [e];by_cases q:aF (cmL r n ⟨[],w,t⟩)=true
  ·rw [if_pos q,if_pos q,q]; exact ⟨rfl,rfl,rfl,rfl,rfl⟩
  ·rw [if_neg q,if_neg q]; exact ⟨rfl,rfl,by simpa using q,rfl,rfl⟩
theorem NS:Has Tryz.prog 194 cRepoCommitI:=HS (c:=fun a=>0<=atL a.1.heads a.2.1) NQ NR
def ux:Con:=.fn 27 (RepoD × Str × Int) (fun a=>[aM a.1,.str a.2.1,.int .i64 a.2.2]) (fun a=>dQ a.1) (fun a=>oRb (db a.1 a.2.1 a.2.2)) (fun a=>BK (db a.1 a.2.1 a.2.2))
theorem NN:Has Tryz.prog 147 ux:=by
 refine ah mixed aL (HasL.cons lf (HasL.cons jG (HasL.cons jr (HasL.cons rp (HasL.cons oJ HasL.nil))))) [0,1,2,3,6,7] ((fun a n (_:Nat)=>(fun _=>az) a n)) [16402,16407,16408] Tryz.func147 (by unfold Tryz.f147; rfl) (fun _=>⟨(),trivial⟩) ?_
 intro a ha;obtain ⟨r,n,b⟩:=a;replace ha:dQ r:=ha;simp (maxSteps:=8000000) [-kStep_move,-kStepC_move,-Bool.exists_bool,ux,ja,gX,hJ,lS,kG,gG,Con.fn,aB,ag,aN]
 try dsimp only
 try simp only [and_assoc,exists_eq_left,exists_and_left,RepoD.ex1,RepoD.eta]
 refine ⟨ha,fun h=>?_,fun h=>⟨fun h0=>?_,fun h0=>?_⟩⟩
 ·rw [ru,if_neg (by simp -implicitDefEqProofs [h])]; exact ⟨rfl,rfl,rfl,rfl,rfl⟩
 ·rw [ru,if_pos h,if_pos h0]; exact ⟨(eG h).1,rfl,rfl,rfl,rfl,rfl⟩
 ·obtain ⟨hz,hp⟩:=eG h;refine ⟨hz,trivial,trivial,hz.2.2,trivial,trivial,hz,hp,?_⟩;rw [ru,if_pos h,if_neg (by omega)]
  by_cases q:aF ⟨r.commits,ptL r.heads n b⟩=true
  ·rw [if_pos q,if_pos q,q]; exact ⟨rfl,rfl,rfl,rfl,rfl⟩
  ·rw [if_neg q,if_neg q]; exact ⟨rfl,rfl,by simpa using q,rfl,rfl⟩
def uF:Con:=.fn 29 (RepoD × OpD × List FileD × Bool) (fun a=>[aM a.1,vOp a.2.1,.sl true 2 (ac a.2.2.1),.bool a.2.2.2]) (fun a=>aF a.1=true/\fK a.2.2.1) (fun a=>oR (dj a.1 a.2.1 a.2.2)) (fun a=>oRf (dj a.1 a.2.1 a.2.2))
theorem OC:Has Tryz.prog 144 uF:=by
 refine ah mixed aL (HasL.cons jr (HasL.cons NS HasL.nil)) [0,1,2,3,4,5,8,9,10] ((fun a n (_:Nat)=>(fun _=>az) a n)) [] Tryz.func144 (by unfold Tryz.f144; rfl) (fun _=>⟨(),trivial⟩) ?_
 intro a ha;obtain ⟨r,o,t,k⟩:=a;obtain ⟨h1,h2⟩:aF r=true/\fK t:=ha;simp (maxSteps:=8000000) [-kStep_move,-kStepC_move,-Bool.exists_bool,uF,hJ,cRepoCommitI,Con.fn,aB,ag,aN,bOp]
 try dsimp only
 try simp only [and_assoc,exists_eq_left,exists_and_left,RepoD.ex1,RepoD.eta]
 obtain ⟨hz,hp⟩:=eG h1;refine ⟨fun h=>?_,fun h=>⟨hp,h2,fun h'=>?_,fun h'=>?_⟩⟩
 ·unfold dj; rw [if_neg (by simp -implicitDefEqProofs [h])]; exact ⟨hz,rfl,rfl,rfl,rfl,rfl⟩
 ·have e:(dz r o.branch o.who t).1=r:=by
   rw [oB,if_pos h1] at h' ⊢;split at h'
   ·cases h'
   ·rename_i q; rw [if_neg q]
  unfold dj; rw [if_pos h,if_neg (by simp -implicitDefEqProofs [h']),e]; exact ⟨rfl,rfl,rfl,rfl,rfl⟩
 ·unfold dj; rw [if_pos h,if_pos h']; exact ⟨rfl,rfl,rfl,rfl,rfl⟩
theorem Pw {t:List Str} (h:bg t=true):(t.map List.length).sum<=1073741824:=by
 unfold bg at h;simp only [Bool.and_eq_true,decide_eq_true_eq,List.all_eq_true] at h;have g:∀ l:List Str,(∀ x ∈ l,fG x=true)->(l.map List.length).sum<=1000 * l.length:=by
  intro l
  induction l with
  | nil=>intro _; simp
  | cons x l ih =>
   intro q;have h1:=q x (by simp)
   have h2:=ih fun y hy=>q y (by simp -implicitDefEqProofs [hy])
   unfold fG at h1;simp only [Bool.and_eq_true,decide_eq_true_eq] at h1;simp only [List.map_cons,List.sum_cons,List.length_cons];omega
 have:=g t h.2;omega
def pR:Con:=.fn 115 OpD (fun o=>[vOp o]) jq (fun o=>.bool (opB o)) (fun _=>[])
theorem BP:Has Tryz.prog 141 pR:=by
 refine ah mixed aL (HasL.cons mo (HasL.cons rl (HasL.cons rP (HasL.cons IF (HasL.cons GH (HasL.cons oL HasL.nil)))))) [0,1,2,3,4,5,6,31,85,100] ((fun a n (_:Nat)=>(fun _=>az) a n)) [] Tryz.func141 (by unfold Tryz.f141; rfl) (fun _=>⟨(),trivial⟩) ?_
 intro (o:OpD) (ho:jq o);simp (maxSteps:=8000000) [-kStep_move,-kStepC_move,-Bool.exists_bool,pR,jJ,lQ,lT,yX,sU,kI,Con.fn,aB,ag,bOp]
 try dsimp only
 obtain ⟨p1,p2,p3⟩:=ho;have hsum:bg o.text=true->(List.map List.length o.text).sum<=1073741824:=Pw;have e0:aQ o.branch=false \/ aQ o.who=false->opB o=false:=fun h=>by unfold opB; rcases h with h | h <;> rw [h] <;> simp
 refine ⟨e0,fun n1 n2=>?_⟩;have e1:o.kind=1->opB o=(dZ o.path && bg o.text && decide (aH o.text.flatten 124 < 0) && decide (o.to_=[]) && decide (o.at_=0)):=fun h=>by unfold opB fN eZ; rw [n1,n2,if_pos h,Bool.eq_iff_iff,gF]; simp only [Fm]; simp; grind
 have e2:o.kind=2->opB o=(dZ o.path && decide (o.to_=[]) && decide (o.at_=0) && decide (o.text=[])):=fun h=>by unfold opB fN; rw [n1,n2,if_neg (by omega),if_pos h,Bool.eq_iff_iff,gF]; simp; grind
 have e3:o.kind=3->opB o=(dZ o.path && dZ o.to_ && decide (o.at_=0) && decide (o.text=[])):=fun h=>by unfold opB fN; rw [n1,n2,if_neg (by omega),if_neg (by omega),if_pos h,Bool.eq_iff_iff,gF,gF]; simp; grind
 have e4:o.kind=4 \/ o.kind=5->opB o=(aQ o.to_ && decide (o.path=[]) && decide (o.at_=0) && decide (o.text=[])):=fun h=>by unfold opB fN; rw [n1,n2,if_neg (by omega),if_neg (by omega),if_neg (by omega),if_pos h,Bool.eq_iff_iff]; simp; grind
 have e6:o.kind=6 \/ o.kind=7->opB o=(decide (0<=o.at_) && decide (o.at_<=15) && decide (o.path=[]) && decide (o.to_=[]) && decide (o.text=[])):=fun h=>by unfold opB fN; rw [n1,n2,if_neg (by omega),if_neg (by omega),if_neg (by omega),if_neg (by omega),if_pos h,Bool.eq_iff_iff]; simp; grind
 have e8:¬ o.kind=1 -> ¬ o.kind=2 -> ¬ o.kind=3 -> ¬ o.kind=4 -> ¬ o.kind=5 -> ¬ o.kind=6 -> ¬ o.kind=7->opB o=false:=fun a b c d e f g=>by unfold opB; rw [if_neg a,if_neg b,if_neg c,if_neg (by omega),if_neg (by omega)]; simp
 repeat' (first
  | intro _
  | refine ⟨_,_,_,⟨rfl,rfl,rfl⟩,?_⟩
  | refine ⟨_,_,⟨rfl,rfl⟩,?_⟩
  | apply And.intro)
 all_goals first
  | omega
  | contradiction
  | assumption
  | exact hsum (by assumption)
  | exact e1 (by assumption)
  | exact e2 (by assumption)
  | exact e3 (by assumption)
  | exact e4 (by omega)
  | exact e6 (by omega)
  | exact e8 (by omega) (by omega) (by omega) (by omega) (by omega) (by omega) (by omega)
  | grind
theorem w7 {t:List FileD} (h:aR t=true):fK t :=
 ⟨(gM (gO h)).1,(gM (gO h)).2,fun f hf=>by have:=mL h f hf; omega⟩
theorem LT {t:List FileD} (h:aR t=true) (p:Str):fK (fX t p).1 :=
 ⟨(gM (xO h p)).1,(gM (xO h p)).2,fun f hf=>by
  unfold fX aE at hf;rw [if_pos h] at hf;have:=mL h f (List.mem_filter.1 hf).1;omega⟩
theorem L3 {o:OpD} (a:¬ o.kind=1) (b:¬ o.kind=2) (c:¬ o.kind=3) (d:¬ o.kind=4) (e:¬ o.kind=5) (f:¬ o.kind=6) (g:¬ o.kind=7):opB o=false:=by unfold opB; rw [if_neg a,if_neg b,if_neg c,if_neg (by omega),if_neg (by omega)]; simp
def uA:Con:=.fn 130 (RepoD × OpD) (fun a=>[aM a.1,vOp a.2]) (fun a=>dQ a.1/\jq a.2) (fun a=>oR (iV a.1 a.2)) (fun a=>oRf (iV a.1 a.2))
theorem NV:Has Tryz.prog 73 uA:=by
 refine ah mixed aL (HasL.cons lf (HasL.cons BP (HasL.cons jr (HasL.cons jG (HasL.cons DJ (HasL.cons PI (HasL.cons PC (HasL.cons PF (HasL.cons OC (HasL.cons NN (HasL.cons PV (HasL.cons MN HasL.nil)))))))))))) [0,1,2,3,4,5,6,7,8,9,10,11,12,13,14,15,35] ((fun a n (_:Nat)=>(fun _=>az) a n)) [] Tryz.func73 (by unfold Tryz.f73; rfl) (fun _=>⟨(),trivial⟩) ?_
 intro a ha;obtain ⟨r,o⟩:=a;obtain ⟨h1,h2⟩:dQ r/\jq o:=ha;simp (maxSteps:=8000000) -implicitDefEqProofs [-kStep_move,-kStepC_move,-Bool.exists_bool,uA,ja,pR,hJ,gX,nr,uQ,uM,uO,uF,ux,uU,uu,Con.fn,aB,ag,aN,bOp]
 try dsimp only
 simp -implicitDefEqProofs only [and_assoc,exists_eq_left,exists_and_left,RepoD.ex1,RepoD.eta,OpD.ex1,OpD.eta];refine ⟨h1,fun h=>?_,fun h=>⟨h2,fun hb=>?_,fun hb=>?_⟩⟩
 ·have e:iV r o=(noR,1):=by unfold iV; rw [if_neg (by rw [<- b9,h]; simp)]
  rw [e]; exact ⟨rfl,rfl,rfl,rfl,rfl⟩
 ·have e:iV r o=(r,1):=by unfold iV; rw [if_pos (by rw [<- b9]; exact h),if_neg (by simp -implicitDefEqProofs [hb])]
  rw [e]; exact ⟨(eG h).1,rfl,rfl,rfl,rfl,rfl⟩
 ·have hS:an r=true:=by rw [<- b9]; exact h
  have d:iV r o=aP r o:=by unfold iV; rw [if_pos hS,if_pos hb]
  have eT:fY r (atL r.heads o.branch)=dR r o.branch:=by
   unfold fY dR;by_cases q:0<=atL r.heads o.branch
   ·rw [if_neg (by omega),if_pos q]
   ·rw [if_pos (by omega),if_neg q]
  have hT:=DK hS o.branch;obtain ⟨p1,p2,p3⟩:=h2;have hat:=mS (n:=o.branch) ((be r).1 hS).2.1;have s0:=w7 hT;have s1:=w7 (DL hT ⟨o.path,o.text⟩);have s2:=LT hT o.path;have s3:=w7 (DI hT o.path o.to_);rw [d,eT];simp only [PK,PE,PH];have e1:o.kind=1->aP r o=dj r o (iB (dR r o.branch) ⟨o.path,o.text⟩):=fun h=>by unfold aP; rw [if_pos h]
  have e2:o.kind=2->aP r o=dj r o (fX (dR r o.branch) o.path):=fun h=>by unfold aP; rw [if_neg (by omega),if_pos h]
  have e3:o.kind=3->aP r o=dj r o (ep (dR r o.branch) o.path o.to_):=fun h=>by unfold aP; rw [if_neg (by omega),if_neg (by omega),if_pos h]
  have e4:o.kind=4->(db r o.to_ (atL r.heads o.branch)).2=true->aP r o=((db r o.to_ (atL r.heads o.branch)).1,0):=fun h h'=>by unfold aP; rw [if_neg (by omega),if_neg (by omega),if_neg (by omega),if_pos h,if_pos h']
  have e4':o.kind=4->(db r o.to_ (atL r.heads o.branch)).2=false->aP r o=(r,1):=fun h h'=>by unfold aP; rw [if_neg (by omega),if_neg (by omega),if_neg (by omega),if_pos h,if_neg (by simp -implicitDefEqProofs [h'])]
  have e5:o.kind=5->aP r o=cI r o.branch o.who (atL r.heads o.to_):=fun h=>by unfold aP; rw [if_neg (by omega),if_neg (by omega),if_neg (by omega),if_neg (by omega),if_pos h]
  have e7:¬ o.kind=1 -> ¬ o.kind=2 -> ¬ o.kind=3 -> ¬ o.kind=4 -> ¬ o.kind=5->aP r o=ck (decide (o.kind=7)) r o.branch o.who o.at_:=fun k1 k2 k3 k4 k5=>by
   unfold aP; rw [if_neg k1,if_neg k2,if_neg k3,if_neg k4,if_neg k5]
   by_cases k6:o.kind=6
   ·rw [if_pos k6,k6]; rfl
   ·have k7:o.kind=7:=by
     rcases Classical.em (o.kind=7) with q | q
     ·exact q
     ·rw [L3 k1 k2 k3 k4 k5 k6 q] at hb; cases hb
    rw [if_neg k6,k7]; rfl
  refine ⟨by omega,by omega,fun k=>⟨⟨o.path,o.text⟩,rfl,rfl,s0,p3,p1,h,s1,by rw [e1 k]; exact ⟨rfl,rfl,rfl,rfl,rfl⟩⟩,fun k1=>⟨fun k=>⟨s0,by omega,h,s2,by rw [e2 k]; exact ⟨rfl,rfl,rfl,rfl,rfl⟩⟩,fun k2=>⟨fun k=>⟨s0,p1,p2,h,s3,by rw [e3 k]; exact ⟨rfl,rfl,rfl,rfl,rfl⟩⟩,fun k3=>⟨fun k=>⟨h1,fun q=>?_,fun q=>?_⟩,fun k4=>⟨fun k=>⟨h,by rw [e5 k]; exact ⟨rfl,rfl,rfl,rfl,rfl⟩⟩,fun k5=>⟨h,by rw [e7 k1 k2 k3 k4 k5]; exact ⟨rfl,rfl,rfl,rfl,rfl⟩⟩⟩⟩⟩⟩⟩
  ·have eb:(db r o.to_ (atL r.heads o.branch)).1=r:=by
    rw [ru,if_pos h] at q ⊢;split at q
    ·rename_i g; rw [if_pos g]
    ·rename_i g;rw [if_neg g];split at q
     ·cases q
     ·rename_i g2; rw [if_neg g2]
   rw [e4' k q,eb]; exact ⟨rfl,rfl,rfl,rfl,rfl⟩
  ·rw [e4 k q]; exact ⟨rfl,rfl,rfl,rfl,rfl⟩
theorem Ah {w:Str}:∀ {l:List Str} {i:Nat},w ∉ l.take i->l[i]? = some w->l.idxOf w=i
 | x :: l,0,_,h=>by simp at h; subst h; simp
 | x :: l,i+1,h,h'=>by
  simp only [List.take_succ_cons,List.mem_cons,not_or] at h;rw [List.getElem?_cons_succ] at h';have ih:=Ah h.2 h';have hx:(x == w)=false:=by simpa using fun e=>h.1 e.symm
  rw [List.idxOf_cons,hx,ih]; rfl
def ij (l:List Str) (w:Str):Int:=if w ∈ l then (l.idxOf w:Int) else -1
theorem H3 {w:Str} {l:List Str} {i:Nat} (h:w ∉ l.take i) (hi:i < l.length) (he:w=l[i]):ij l w=i:=by
 have h1:l[i]? = some w:=by rw [List.getElem?_eq_getElem hi,he]
 unfold ij;rw [if_pos (List.mem_of_getElem? h1),Ah h h1]
theorem H4 {w:Str} {l:List Str} (h:w ∉ l):ij l w = -1:=by unfold ij; rw [if_neg h]
def s9:Con:=.fn 19 (List Str × Str) (fun a=>[.sl true 1 (aa a.1),.str a.2]) (fun a=>a.1.length<=1048576) (fun a=>.int .i64 (ij a.1 a.2)) (fun _=>[])
theorem Ii:Has Tryz.prog 93 s9:=by
 refine ah mixed aw HasL.nil [0,1,4,5,7,8] ((fun a n (_:Nat)=>(fun a _=>⟨Nat,fun i=>⟨[(0,true,.sl true 1 (aa a.1)),(1,true,.str a.2),(4,true,.int .i64 0),(7,true,.int .i64 a.1.length),(8,true,.int .i64 i)],[]⟩,fun i=>i<=a.1.length/\a.2 ∉ a.1.take i,fun i=>a.1.length - i⟩) a n)) [] Tryz.func93 (by unfold Tryz.f93; rfl) (fun _=>⟨(),trivial⟩) ?_
 intro a ha;obtain ⟨l,w⟩:=a;replace ha:l.length<=1048576:=ha;have hT:∀ {i:Nat},i < l.length->(w ∉ l.take (i+1) ↔ w ∉ l.take i /\ ¬ w=l[i]?.getD []):=fun {i} hi=>by
  rw [List.take_succ_eq_append_getElem hi,List.getElem?_eq_getElem hi];simp only [List.mem_append,List.mem_singleton,Option.getD_some,not_or]
 simp -implicitDefEqProofs [s9,Con.fn,ag]
 try dsimp only
 refine fun _ t ht hw=>⟨fun hlt=>⟨hlt,fun _=>?_⟩,fun hge=>?_⟩
 ·have qq:Option.map ar l[t]? = some (ar l[t]):=by simp -implicitDefEqProofs [hlt]
  have q2:=hT hlt;rw [qq];simp -implicitDefEqProofs [ar,D.asStr];refine ⟨fun he=>H3 hw hlt he,fun hne=>⟨by omega,fun _ _=>⟨t+1,by omega,⟨by omega,?_⟩,by omega⟩⟩⟩
  exact q2.2 ⟨hw,by rw [List.getElem?_eq_getElem hlt]; exact hne⟩
 ·rw [List.take_of_length_le hge] at hw;exact H4 hw
theorem DV (w:Str):ij wordsO w=if w=[] then 0 else kindOf (-1) w:=by
 unfold ij;by_cases h:w ∈ wordsO
 ·rw [if_pos h];revert h;simp only [wordsO,List.mem_cons,List.not_mem_nil,or_false];rintro (rfl | rfl | rfl | rfl | rfl | rfl | rfl | rfl) <;> decide
 ·rw [if_neg h];simp only [wordsO,List.mem_cons,List.not_mem_nil,or_false,not_or] at h;obtain ⟨h0,h1,h2,h3,h4,h5,h6,h7⟩:=h;rw [if_neg h0];have k:∀ n:Int,co n=if n=1 then [115,101,116] else if n=2 then [100,114,111,112] else if n=3 then [109,111,118,101] else if n=4 then [102,111,114,107] else if n=5 then [117,110,105,116,101] else if n=6 then [112,105,99,107] else if n=7 then [98,97,99,107] else []:=fun n=>rfl
  unfold kindOf;rw [if_neg (by rw [k]; exact h1),if_neg (by rw [k]; exact h2),if_neg (by rw [k]; exact h3),if_neg (by rw [k]; exact h4),if_neg (by rw [k]; exact h5),if_neg (by rw [k]; exact h6),if_neg (by rw [k]; exact h7)]

def Ps:List (Nat × TI):=(210,⟨false,[.int .u32],4,[],0⟩) :: ag
--TAB Ps


def ug:Con:=.fn 47 Str (fun s=>[.str s]) (fun s=>s.length<=1073741824) (fun s=>.int .i64 (iQ s)) (fun _=>[])
theorem LA {s:Str} {i:Nat} {n:Int} (h:i < s.length):ir (s.drop i) i n=if s[i].toNat < 48 \/ 57 < s[i].toNat \/ 6<=i then -1 else ir (s.drop (i+1)) (i+1) (n * 10+((s[i].toNat:Int) - 48)):=by rw [List.drop_eq_getElem_cons h]; rfl
theorem Lz {s:Str} {i:Nat} {n:Int} (h:s.length<=i):ir (s.drop i) i n=n:=by rw [List.drop_eq_nil_of_le h]; rfl
theorem LB:Has Tryz.prog 121 ug:=by
 refine ah mixed aw HasL.nil [0,2,3,4] ((fun a n (_:Nat)=>(fun s _=>⟨Nat × Int,fun t=>⟨[(0,true,.str s),(2,true,.int .i64 0),(3,true,.int .i64 t.2),(4,true,.int .i64 t.1)],[]⟩,fun t=>t.1<=s.length/\t.1<=6/\0<=t.2/\t.2 < ((10 ^ t.1:Nat):Int)/\ir (s.drop t.1) t.1 t.2=ir s 0 0,fun t=>s.length - t.1⟩) a n)) [] Tryz.func121 (by unfold Tryz.f121; rfl) (fun _=>⟨(),trivial⟩) ?_
 intro (s:Str) (hs:s.length<=1073741824);simp -implicitDefEqProofs [ug,Con.fn,ag]
 try dsimp only
 refine ⟨⟨0,0,⟨rfl,rfl⟩,by omega,by omega,by omega,by simp,rfl⟩,fun i n g1 g2 g3 g4 g5 _=>⟨fun hlt=>⟨hlt,fun _=>?_⟩,fun hge _=>?_⟩⟩
 ·have e:s[i]?.getD 0=s[i]:=by simp -implicitDefEqProofs [hlt]
  rw [e];have st:=LA (n:=n) hlt;rw [g5] at st;have q:(10:Int) ^ (i+1)=10 * 10 ^ i:=by rw [Int.pow_succ]; omega
  have p6:(10:Int) ^ i<=1000000:=by
   have h1:(10:Nat) ^ i<=10 ^ 6:=Nat.pow_le_pow_right (by omega) g2
   have h2:(((10:Nat) ^ i:Nat):Int)=(10:Int) ^ i:=by simp
   rw [<- h2];omega
  have hb:s[i].toNat < 256:=s[i].toNat_lt;have hno:(s[i].toNat < 48 \/ 57 < s[i].toNat \/ 6<=i)->iQ s = -1:=fun h=>by unfold iQ; rw [st,if_pos h]; simp
  have hok:¬ (s[i].toNat < 48 \/ 57 < s[i].toNat \/ 6<=i)->ir (s.drop (i+1)) (i+1) (n * 10+((s[i].toNat:Int) - 48))=ir s 0 0:=fun h=>by rw [st,if_neg h]
  exact ⟨fun h=>hno (by omega),fun a1=>⟨hlt,fun _=>⟨fun h=>hno (by omega),fun a2=>⟨fun h=>hno (by omega),fun a3=>⟨by omega,fun _ _=>⟨hlt,fun _=>⟨by omega,fun _ _=>⟨by omega,fun _ _=>⟨by omega,fun _ _=>⟨by omega,fun _ _=>⟨i+1,_,⟨rfl,by omega⟩,⟨by omega,by omega,by omega,by rw [q]; omega,hok (by omega)⟩,by omega⟩⟩⟩⟩⟩⟩⟩⟩⟩⟩⟩
 ·have e5:ir s 0 0=n:=by rw [<- g5,Lz hge]
  have nb:iQ s=if s.length=0 \/ (1 < s.length/\s.getD 0 0=48) then -1 else n:=by unfold iQ; rw [e5,if_neg (by omega)]
  rw [nb];have hc:s[0]?.getD 0=s.getD 0 0:=by simp -implicitDefEqProofs [List.getD_eq_getElem?_getD]
  rw [hc];have h48:∀ x:UInt8,((x.toNat:Int)=48)=(x=48):=fun x=>by
   apply propext;constructor
   ·intro h; exact UInt8.toNat_inj.1 (by have:(48:UInt8).toNat=48:=rfl; omega)
   ·rintro rfl; rfl
  rw [h48];refine ⟨fun h=>⟨fun _=>if_pos (.inl (by simp -implicitDefEqProofs [h])),fun _=>if_pos (.inl (by simp -implicitDefEqProofs [h]))⟩,fun h _=>?_⟩
  have hl:0 < s.length:=List.length_pos_iff.2 h;exact ⟨fun h1=>⟨by omega,fun _=>⟨fun h2=>if_pos (.inr ⟨by omega,h2⟩),fun h2=>if_neg fun q=>q.elim (fun q=>by omega) fun q=>h2 q.2⟩⟩,fun h1=>if_neg fun q=>q.elim (fun q=>by omega) fun q=>by omega⟩
theorem qd {b:Int} {m:Nat}:∀ {s c:Str} {n:Nat},∀ x ∈ aO b m s c n,x.length<=c.length+s.length
 | [],c,n,x,h=>by simp -implicitDefEqProofs [aO] at h; subst h; simp
 | y :: s,c,n,x,h=>by
  rw [aO] at h;split at h
  ·split at h
   ·rcases List.mem_cons.1 h with rfl | h
    ·simp
    ·have:=qd x h;simp at this ⊢; omega
   ·have:=qd x h;simp at this ⊢; omega
  ·simp at h; subst h; simp
theorem qc {b:Int} {m:Nat}:∀ {s c:Str} {n:Nat},n<=m->(aO b m s c n).length<=m - n+1
 | [],c,n,_=>by simp -implicitDefEqProofs [aO]
 | y :: s,c,n,h=>by
  rw [aO];split
  ·split
   ·have:=qc (b:=b) (m:=m) (s:=s) (c:=[]) (n:=n+1) (by omega)
    simp only [List.length_cons]; omega
   ·exact qc h
  ·simp
theorem zs (s:Str):(aA s 32 4).length < 4 \/ (∃ a b c d,aA s 32 4=[a,b,c,d]) \/ ∃ a b c d e,aA s 32 4=[a,b,c,d,e]:=by
 have h:(aA s 32 4).length<=4 - 0+1:=qc (Nat.zero_le _);generalize aA s 32 4=W at *
 match W,h with
 | [],_=>exact .inl (by simp)
 | [_],_=>exact .inl (by simp)
 | [_,_],_=>exact .inl (by simp)
 | [_,_,_],_=>exact .inl (by simp)
 | [a,b,c,d],_=>exact .inr (.inl ⟨a,b,c,d,rfl⟩)
 | [a,b,c,d,e],_=>exact .inr (.inr ⟨a,b,c,d,e,rfl⟩)
 | _ :: _ :: _ :: _ :: _ :: _ :: _,h=>simp at h
theorem qo {s:Str} {o:OpD} {X:OpD × Bool} (hX:X=if opB o=true/\ba o=s then (o,true) else (zO,false)) :
  (opB o=false \/ ¬ ba o=s->(X.1.kind=0/\X.1.branch=[]/\X.1.who=[]/\X.1.path=[]/\X.1.to_=[]/\X.1.at_=0/\X.1.text=[])/\X.2=false) /\
  (opB o=true->ba o=s->(X.1.kind=o.kind/\X.1.branch=o.branch/\X.1.who=o.who/\X.1.path=o.path/\X.1.to_=o.to_/\X.1.at_=o.at_/\X.1.text=o.text)/\X.2=true):=by
 subst hX;refine ⟨fun h=>?_,fun h1 h2=>?_⟩
 ·rw [if_neg (fun q=>h.elim (fun e=>(by rw [q.1] at e; cases e)) (fun e=>e q.2))]
  exact ⟨⟨rfl,rfl,rfl,rfl,rfl,rfl,rfl⟩,rfl⟩
 ·rw [if_pos ⟨h1,h2⟩];exact ⟨⟨rfl,rfl,rfl,rfl,rfl,rfl,rfl⟩,rfl⟩
def rdK (num:Str->Int) (k:Int) (w1 w2 w3 l:Str):OpD :=
 if k=1 then ⟨1,w1,w2,w3,[],0,if l=[] then [] else (spl 124 l []).drop 1⟩
 else if k=2 then ⟨2,w1,w2,w3,[],0,[]⟩
 else if k=3 then ⟨3,w1,w2,w3,l,0,[]⟩
 else if k=4 \/ k=5 then ⟨k,w1,w2,[],w3,0,[]⟩
 else if k=6 \/ k=7 then ⟨k,w1,w2,[],[],num w3,[]⟩
 else ⟨k,w1,w2,[],[],0,[]⟩
theorem NA (num:Str->Int) (w0 w1 w2 w3:Str):rdI num [w0,w1,w2,w3]=rdK num (ij wordsO w0) w1 w2 w3 []:=by rw [DV]; rfl
theorem NB (num:Str->Int) (w0 w1 w2 w3 w4:Str):rdI num [w0,w1,w2,w3,w4]=rdK num (ij wordsO w0) w1 w2 w3 w4:=by rw [DV]; rfl
theorem Dv (c:UInt8):∀ (s p:Str),1<=(spl c s p).length
 | [],p=>by simp -implicitDefEqProofs [spl]
 | x :: s,p=>by
  rw [spl];split
  ·simp
  ·exact Dv c s _
theorem je (l:List Str):List.take (l.length - 1) (aa l).tail=aa (l.drop 1):=by
 rw [List.take_of_length_le (by simp)]
 cases l <;> simp -implicitDefEqProofs [aa]
def yp:Blk:=.box 70 [.int .i64 0,.str [],.str [],.str [],.str [],.int .i64 0,.nil]
def ul:Con:={ (Con.fn 95 Str (fun s=>[.str s]) (fun s=>s.length<=1048576) (fun s=>.tup [.agg [.int .i64 (aK (rdI cu) s).1.kind,.str (aK (rdI cu) s).1.branch,.str (aK (rdI cu) s).1.who,.str (aK (rdI cu) s).1.path,.str (aK (rdI cu) s).1.to_,.int .i64 (aK (rdI cu) s).1.at_,.sl false 1 (aa (aK (rdI cu) s).1.text)],.bool (aK (rdI cu) s).2]) (fun _=>[])) with need:=jp }
theorem LX:Has Tryz.prog 72 ul:=by
 refine ah mixed aw (HasL.cons O0 (HasL.cons BQ (HasL.cons Ii (HasL.cons xB (HasL.cons E2 (HasL.cons BP (HasL.cons LZ HasL.nil))))))) [0,2,3,4,5,25,66,73] ((fun a n (_:Nat)=>(fun _=>az) a n)) [] Tryz.func72 (by unfold Tryz.f72; rfl) (fun _=>⟨(),trivial⟩) ?_
 intro (s:Str) (hs:s.length<=1048576);simp (maxSteps:=8000000) -implicitDefEqProofs [-kStep_move,-kStepC_move,-Bool.exists_bool,ul,uI,pS,s9,nq,yR,pR,un,Con.fn,ag,bOp]
 try dsimp only
 refine ⟨s,32,⟨rfl,rfl⟩,by omega,fun _=>?_⟩
 simp only [c32];have hp:∀ x ∈ aA s 32 4,x.length<=1048576:=fun x hx=>by
  have:=qd x hx;simp at this; omega
 have eg:(aK (rdI cu) s)=(if (aA s 32 4).length < 4 then (zO,false) else if opB (rdI cu (aA s 32 4))=true/\ba (rdI cu (aA s 32 4))=s then (rdI cu (aA s 32 4),true) else (zO,false)):=rfl
 rw [eg];clear eg;rcases zs s with h | ⟨w0,w1,w2,w3,h⟩ | ⟨w0,w1,w2,w3,w4,h⟩
 ·refine ⟨fun _=>?_,fun q=>absurd q (by omega)⟩
  rw [if_pos h];exact ⟨⟨rfl,rfl,rfl,rfl,rfl,rfl,rfl⟩,rfl⟩
 ·rw [h];rw [h] at hp;simp -implicitDefEqProofs [ar,D.asStr];refine ⟨wordsO,w0,⟨rfl,rfl⟩,by decide,?_⟩
  have l1:=hp w1 (by simp)
  have l2:=hp w2 (by simp)
  have l3:=hp w3 (by simp)
  rw [NA];generalize ij wordsO w0=K;generalize hX:(if opB (rdK cu K w1 w2 w3 [])=true/\ba (rdK cu K w1 w2 w3 [])=s then (rdK cu K w1 w2 w3 [],true) else (zO,false))=X
  replace hX:=hX.symm;have gl:=fun (o:OpD) (ho:rdK cu K w1 w2 w3 []=o)=>@qo s o X (by rw [hX,ho])
  clear hX;have sz:∀ (k a:Int) (b w p q:Str) (t:List Str),p.length<=1048576->q.length<=1048576->t.length<=1048576->jq ⟨k,b,w,p,q,a,t⟩:=fun k a b w p q t h1 h2 h3=>⟨h1,h2,h3⟩
  repeat' (first
   | (refine gl _ ?_; clear gl; unfold rdK; (repeat' split); all_goals (first | rfl | omega | contradiction | (simp only [OpD.mk.injEq,true_and,and_true]; omega) | (exfalso; simp_all; done)))
   | intro _
   | exact sz _ _ _ _ _ _ _ (by first | assumption | simp) (by first | assumption | simp) (by first | assumption | simp)
   | omega
   | apply And.intro)
 ·rw [h];rw [h] at hp;simp -implicitDefEqProofs [ar,D.asStr];refine ⟨wordsO,w0,⟨rfl,rfl⟩,by decide,?_⟩
  have l1:=hp w1 (by simp)
  have l2:=hp w2 (by simp)
  have l3:=hp w3 (by simp)
  have l4:=hp w4 (by simp)
  rw [NB];generalize ij wordsO w0=K;generalize hX:(if opB (rdK cu K w1 w2 w3 w4)=true/\ba (rdK cu K w1 w2 w3 w4)=s then (rdK cu K w1 w2 w3 w4,true) else (zO,false))=X
  replace hX:=hX.symm;have gl:=fun (o:OpD) (ho:rdK cu K w1 w2 w3 w4=o)=>@qo s o X (by rw [hX,ho])
  clear hX;have sz:∀ (k a:Int) (b w p q:Str) (t:List Str),p.length<=1048576->q.length<=1048576->t.length<=1048576->jq ⟨k,b,w,p,q,a,t⟩:=fun k a b w p q t h1 h2 h3=>⟨h1,h2,h3⟩;have ls:((spl 124 w4 []).drop 1).length<=1048576:=by have:=rI 124 w4 []; have:=List.count_le_length (a:=(124:UInt8)) (l:=w4); simp only [List.length_drop]; omega
  refine ⟨fun k1=>⟨fun hne=>⟨w4,124,⟨rfl,rfl⟩,by omega,by have:=Dv 124 w4 []; omega,fun _=>⟨⟨K,w1,w2,w3,[],0,(spl 124 w4 []).drop 1⟩,⟨rfl,rfl,rfl,rfl,rfl,rfl,(je _).symm⟩,sz _ _ _ _ _ _ _ l3 (by simp) ls,⟨K,w1,w2,w3,[],0,(spl 124 w4 []).drop 1⟩,⟨rfl,rfl,rfl,rfl,rfl,rfl,(je _).symm⟩,fun h=>⟨h,h⟩,?_⟩⟩,?_⟩,?_⟩
  ·simp only [je,eStrs_inj];refine gl _ ?_;unfold rdK;rw [if_pos k1,if_neg hne,k1]
  all_goals repeat' (first
   | (refine gl _ ?_; clear gl; unfold rdK; (repeat' split); all_goals (first | rfl | omega | contradiction | (simp only [OpD.mk.injEq,true_and,and_true]; omega) | (exfalso; simp_all; done)))
   | intro _
   | exact sz _ _ _ _ _ _ _ (by first | assumption | simp) (by first | assumption | simp) (by first | assumption | simp)
   | omega
   | apply And.intro)
def jQ (w:Str):Nat->Int
 | 0=>0
 | k+1=>if 1<=k/\wordsO.getD k []=w then (k:Int) else jQ w k
theorem AL (w:Str):jQ w 8=kindOf 0 w:=by
 have k1:co 1=wordsO.getD 1 []:=rfl;have k2:co 2=wordsO.getD 2 []:=rfl;have k3:co 3=wordsO.getD 3 []:=rfl;have k4:co 4=wordsO.getD 4 []:=rfl;have k5:co 5=wordsO.getD 5 []:=rfl;have k6:co 6=wordsO.getD 6 []:=rfl;have k7:co 7=wordsO.getD 7 []:=rfl;unfold kindOf;by_cases h1:w=co 1
 ·subst h1; rfl
 by_cases h2:w=co 2
 ·subst h2; rfl
 by_cases h3:w=co 3
 ·subst h3; rfl
 by_cases h4:w=co 4
 ·subst h4; rfl
 by_cases h5:w=co 5
 ·subst h5; rfl
 by_cases h6:w=co 6
 ·subst h6; rfl
 by_cases h7:w=co 7
 ·subst h7; rfl
 rw [if_neg h1,if_neg h2,if_neg h3,if_neg h4,if_neg h5,if_neg h6,if_neg h7];rw [k1] at h1; rw [k2] at h2; rw [k3] at h3; rw [k4] at h4; rw [k5] at h5; rw [k6] at h6; rw [k7] at h7
 simp only [jQ];rw [if_neg (fun q=>h7 q.2.symm),if_neg (fun q=>h6 q.2.symm),if_neg (fun q=>h5 q.2.symm),if_neg (fun q=>h4 q.2.symm),if_neg (fun q=>h3 q.2.symm),if_neg (fun q=>h2 q.2.symm),if_neg (fun q=>h1 q.2.symm),if_neg (by omega)]
def fq (k:Int) (w1 w2 w3 l:Str):OpD :=
 if k=1 then ⟨1,w1,w2,w3,[],0,(aA l 124 11).drop 1⟩
 else if k=2 then ⟨2,w1,w2,w3,[],0,[]⟩
 else if k=3 then ⟨3,w1,w2,w3,l,0,[]⟩
 else if k=4 \/ k=5 then ⟨k,w1,w2,[],w3,0,[]⟩
 else ⟨k,w1,w2,[],[],iQ w3,[]⟩
theorem ND (w0 w1 w2 w3:Str):rdS [w0,w1,w2,w3]=fq (kindOf 0 w0) w1 w2 w3 []:=rfl
theorem NE (w0 w1 w2 w3 w4:Str):rdS [w0,w1,w2,w3,w4]=fq (kindOf 0 w0) w1 w2 w3 w4:=rfl
theorem zq {b:Int} {m:Nat}:∀ (s c:Str) (n:Nat),1<=(aO b m s c n).length
 | [],c,n=>by simp -implicitDefEqProofs [aO]
 | x :: s,c,n=>by
  rw [aO];split
  ·split
   ·simp
   ·exact zq s _ _
  ·simp
theorem zu (l:Str):1<=(aA l 124 11).length/\((aA l 124 11).drop 1).length<=1048576:=by
 have h1:(aA l 124 11).length<=11 - 0+1:=qc (Nat.zero_le _);refine ⟨zq _ _ _,?_⟩;simp only [List.length_drop]; omega
def ogI (s:Str):Inv:=⟨Nat,fun k=>⟨[(0,true,.str s),(2,true,.ptr 10 0),(3,true,.bool false),(4,true,.own 9 1 (aa (aA s 32 4))),(5,true,.ptr 11 0),(6,true,.int .i64 k)],
 [(9,.own 9 1 true (aa (aA s 32 4))),(10,yp),(11,.box 70 [.int .i64 (jQ ((aA s 32 4).getD 0 []) k),.str ((aA s 32 4).getD 1 []),.str ((aA s 32 4).getD 2 []),.str [],.str [],.int .i64 0,.nil])]⟩,fun k=>4<=(aA s 32 4).length/\1<=k/\k<=8,fun k=>8 - k⟩
def um:Con:=.fn 92 Str (fun s=>[.str s]) (fun s=>s.length<=1048576) (fun s=>.tup [.agg [.int .i64 (aK rdS s).1.kind,.str (aK rdS s).1.branch,.str (aK rdS s).1.who,.str (aK rdS s).1.path,.str (aK rdS s).1.to_,.int .i64 (aK rdS s).1.at_,.sl false 1 (aa (aK rdS s).1.text)],.bool (aK rdS s).2]) (fun _=>[])
theorem LY:Has Tryz.prog 65 um:=by
 refine ah mixed aw (HasL.cons wi (HasL.cons AR (HasL.cons LB (HasL.cons AP (HasL.cons AQ HasL.nil))))) [0,2,3,4,5,6,7,44,74] ((fun a n (_:Nat)=>(fun s _=>ogI s) a n)) [] Tryz.func65 (by unfold Tryz.f65; rfl) (fun _=>⟨(),trivial⟩) ?_
 intro (s:Str) (hs:s.length<=1048576);simp (maxSteps:=8000000) -implicitDefEqProofs [-kStep_move,-kStepC_move,-Bool.exists_bool,um,m9,pC,ug,pA,pB,Con.fn,ag,bOp,ogI,yp]
 try dsimp only
 refine ⟨s,32,4,⟨rfl,rfl,rfl⟩,by omega,fun _=>?_⟩
 have hp:∀ x ∈ aA s 32 4,x.length<=1048576:=fun x hx=>by
  have:=qd x hx;simp at this; omega
 have eg:(aK rdS s)=(if (aA s 32 4).length < 4 then (zO,false) else if opB (rdS (aA s 32 4))=true/\ba (rdS (aA s 32 4))=s then (rdS (aA s 32 4),true) else (zO,false)):=rfl
 rw [eg];clear eg;rcases zs s with h | ⟨w0,w1,w2,w3,h⟩ | ⟨w0,w1,w2,w3,w4,h⟩
 ·refine ⟨fun _=>?_,fun q=>absurd q (by omega)⟩
  rw [if_pos h];exact ⟨⟨rfl,rfl,rfl,rfl,rfl,rfl,rfl⟩,rfl⟩
 ·rw [h];rw [h] at hp;simp -implicitDefEqProofs [ar,D.asStr];have l1:=hp w1 (by simp)
  have l2:=hp w2 (by simp)
  have l3:=hp w3 (by simp)
  have hW:wordsO.length=8:=rfl;refine ⟨⟨1,⟨rfl,rfl⟩,by omega,by omega⟩,fun t g1 g2 g3=>⟨fun hlt=>⟨hlt,fun _=>?_⟩,fun hge=>?_⟩⟩
  ·have qq:Option.map ar wordsO[t]? = some (ar wordsO[t]):=by simp -implicitDefEqProofs [hlt]
   rw [qq];have hs:jQ w0 (t+1)=if 1<=t/\wordsO.getD t []=w0 then (t:Int) else jQ w0 t:=rfl
   have hgd:wordsO.getD t []=wordsO[t]:=by simp -implicitDefEqProofs [List.getD_eq_getElem?_getD,hlt]
   rw [hgd] at hs;simp -implicitDefEqProofs [ar];exact ⟨fun he=>⟨⟨by omega,by omega⟩,fun _ _=>⟨t+1,⟨by omega,by rw [hs,if_pos ⟨by omega,he⟩]⟩,⟨by omega,by omega⟩,by omega⟩⟩,fun he=>⟨⟨by omega,by omega⟩,fun _ _=>⟨t+1,⟨by omega,by rw [hs,if_neg (fun q=>he q.2)]⟩,⟨by omega,by omega⟩,by omega⟩⟩⟩
  ·have t8:t=8:=by omega
   subst t8;rw [AL,ND];generalize kindOf 0 w0=K;generalize hX:(if opB (fq K w1 w2 w3 [])=true/\ba (fq K w1 w2 w3 [])=s then (fq K w1 w2 w3 [],true) else (zO,false))=X
   replace hX:=hX.symm;have gl:=fun (o:OpD) (ho:fq K w1 w2 w3 []=o)=>@qo s o X (by rw [hX,ho])
   clear hX;have ct:=zu [];refine ⟨fun k1=>⟨[],124,11,⟨rfl,rfl,rfl⟩,by omega,by omega,fun _=>⟨⟨K,w1,w2,w3,[],0,(aA [] 124 11).drop 1⟩,⟨rfl,rfl,rfl,rfl,rfl,rfl,(je _).symm⟩,ct.2,⟨K,w1,w2,w3,[],0,(aA [] 124 11).drop 1⟩,⟨rfl,rfl,rfl,rfl,rfl,rfl,(je _).symm⟩,fun h=>⟨h,om h⟩,?_⟩⟩,?_⟩
   ·simp only [je,eStrs_inj];refine gl _ ?_;unfold fq;rw [if_pos k1,k1]
   repeat' (first
    | (refine gl _ ?_; clear gl; unfold fq; (repeat' split); all_goals (first | rfl | omega | contradiction | (simp only [OpD.mk.injEq,true_and,and_true]; omega) | (exfalso; simp_all; done)))
    | exact fun h=>⟨h,om h⟩
    | intro _
    | omega
    | apply And.intro)
 ·rw [h];rw [h] at hp;have l4:=hp w4 (by simp)
  simp -implicitDefEqProofs [ar,D.asStr];have l1:=hp w1 (by simp)
  have l2:=hp w2 (by simp)
  have l3:=hp w3 (by simp)
  have hW:wordsO.length=8:=rfl;refine ⟨⟨1,⟨rfl,rfl⟩,by omega,by omega⟩,fun t g1 g2 g3=>⟨fun hlt=>⟨hlt,fun _=>?_⟩,fun hge=>?_⟩⟩
  ·have qq:Option.map ar wordsO[t]? = some (ar wordsO[t]):=by simp -implicitDefEqProofs [hlt]
   rw [qq];have hs:jQ w0 (t+1)=if 1<=t/\wordsO.getD t []=w0 then (t:Int) else jQ w0 t:=rfl
   have hgd:wordsO.getD t []=wordsO[t]:=by simp -implicitDefEqProofs [List.getD_eq_getElem?_getD,hlt]
   rw [hgd] at hs;simp -implicitDefEqProofs [ar];exact ⟨fun he=>⟨⟨by omega,by omega⟩,fun _ _=>⟨t+1,⟨by omega,by rw [hs,if_pos ⟨by omega,he⟩]⟩,⟨by omega,by omega⟩,by omega⟩⟩,fun he=>⟨⟨by omega,by omega⟩,fun _ _=>⟨t+1,⟨by omega,by rw [hs,if_neg (fun q=>he q.2)]⟩,⟨by omega,by omega⟩,by omega⟩⟩⟩
  ·have t8:t=8:=by omega
   subst t8;rw [AL,NE];generalize kindOf 0 w0=K;generalize hX:(if opB (fq K w1 w2 w3 w4)=true/\ba (fq K w1 w2 w3 w4)=s then (fq K w1 w2 w3 w4,true) else (zO,false))=X
   replace hX:=hX.symm;have gl:=fun (o:OpD) (ho:fq K w1 w2 w3 w4=o)=>@qo s o X (by rw [hX,ho])
   clear hX;have ct:=zu w4;refine ⟨fun k1=>⟨w4,124,11,⟨rfl,rfl,rfl⟩,by omega,by omega,fun _=>⟨⟨K,w1,w2,w3,[],0,(aA w4 124 11).drop 1⟩,⟨rfl,rfl,rfl,rfl,rfl,rfl,(je _).symm⟩,ct.2,⟨K,w1,w2,w3,[],0,(aA w4 124 11).drop 1⟩,⟨rfl,rfl,rfl,rfl,rfl,rfl,(je _).symm⟩,fun h=>⟨h,om h⟩,?_⟩⟩,?_⟩
   ·simp only [je,eStrs_inj];refine gl _ ?_;unfold fq;rw [if_pos k1,k1]
   repeat' (first
    | (refine gl _ ?_; clear gl; unfold fq; (repeat' split); all_goals (first | rfl | omega | contradiction | (simp only [OpD.mk.injEq,true_and,and_true]; omega) | (exfalso; simp_all; done)))
    | exact fun h=>⟨h,om h⟩
    | intro _
    | omega
    | apply And.intro)
--TAB aB
theorem BO {o:OpD} (h:opB o=true):jq o:=by
 obtain ⟨_,_,_,h1,h2,_,h3,_⟩:=om h;exact ⟨by omega,by omega,by omega⟩
--TAB aB
def sQ:Con:=.fn 2 Unit (fun _=>[]) (fun _=>True) (fun _=>.sl false 1 (aa (codeW.take 6))) (fun _=>[])
theorem Gx:Has Tryz.prog 74 sQ:=by
 refine ah mixed aL HasL.nil [0] ((fun a n (_:Nat)=>(fun _=>az) a n)) [] Tryz.func74 (by unfold Tryz.f74; rfl) (fun _=>⟨(),trivial⟩) ?_
 intro _ _;simp -implicitDefEqProofs [sQ,Con.fn,aB,ag,codeW,aa,ar]
theorem GM (s:Str):(((aA s 32 3).length=2 \/ (aA s 32 3).length=3) ↔ ((spl 32 s []).length=2 \/ (spl 32 s []).length=3))/\((spl 32 s []).length<=3->aA s 32 3=spl 32 s []):=by
 have hl:=rI 32 s [];by_cases h:s.count 32<=3
 ·have e:aA s 32 3=spl 32 s []:=vg (b:=32) (most:=3) (by omega)
  rw [e]; exact ⟨Iff.rfl,fun _=>rfl⟩
 ·have e:(aA s 32 3).length=4:=zt (b:=32) (most:=3) (by omega) (by omega)
  rw [e,hl];exact ⟨by omega,fun q=>by omega⟩
def sX:Con:={ (Con.fn 63 (RepoD × Str) (fun a=>[aM a.1,.str a.2]) (fun a=>an a.1=true/\a.2.length<=1048576) (fun a=>.tup [.agg [.sl false 3 (aD (bC a.1 a.2).1.commits),.sl false 2 (al (bC a.1 a.2).1.heads)],.str (bC a.1 a.2).2]) (fun _=>[])) with need:=jp }
theorem G4:Has Tryz.prog 28 sX:=by
 refine ah mixed aL (HasL.cons LX (HasL.cons NV (HasL.cons Gx (HasL.cons xB (HasL.cons vU (HasL.cons Jp (HasL.cons oL (HasL.cons EU HasL.nil)))))))) [0,1,2,4,5,6,7,8,9,10] ((fun a n (_:Nat)=>(fun _=>az) a n)) [32772,32795] Tryz.func28 (by unfold Tryz.f28; rfl) (fun _=>⟨(),trivial⟩) ?_
 intro a ha;obtain ⟨r,s⟩:=a;obtain ⟨h1,h2⟩:an r=true/\s.length<=1048576:=ha;simp (maxSteps:=8000000) -implicitDefEqProofs [-kStep_move,-Bool.exists_bool,sX,ul,uA,sQ,nq,mZ,tj,kI,pi,Con.fn,aB,ag,aN,bOp,maxLen]
 try dsimp only
 have hRI:aF r=true:=by rw [b9]; exact h1
 have hrp:=(eG hRI).2;have hn:=((be r).1 h1).2.2;have hh:=((eY _ _).1 ((be r).1 h1).2.1).1;have hkl:(keepR r).commits.length<=16:=by rw [jP]; have:=nT r; omega
 have d1:=jd r.commits.length;have d2:=jd r.heads.length;have hG:aK (rdI cu) s=aK rdS s:=HE (fun _ h=>NC EZ h) (fun _ h=>CS h) s;have e1:(aK rdS s).2=true->bC r s=((aP r (aK rdS s).1).1,codeW.getD (aP r (aK rdS s).1).2.toNat default):=fun h=>by unfold bC; rw [if_pos h]
 have e2:(aK rdS s).2=false->s=[97,108,108]->bC r s=(r,aW r.commits.length++[32]++aW r.heads.length):=fun h q=>by unfold bC; rw [if_neg (by rw [h]; simp),if_pos q]
 have e3:(aK rdS s).2=false -> ¬ s=[97,108,108]->s=[107,101,101,112]->bC r s=(keepR r,aW (keepR r).commits.length):=fun h q q2=>by unfold bC; rw [if_neg (by rw [h]; simp),if_neg q,if_pos q2]
 have e4:(aK rdS s).2=false -> ¬ s=[97,108,108] -> ¬ s=[107,101,101,112]->((aA s 32 3).length=2 \/ (aA s 32 3).length=3)->bC r s=(r,bP r (aA s 32 3)):=fun h q q2 q3=>by unfold bC; rw [if_neg (by rw [h]; simp),if_neg q,if_neg q2,if_pos q3]
 have e5:(aK rdS s).2=false -> ¬ s=[97,108,108] -> ¬ s=[107,101,101,112] -> ¬ ((aA s 32 3).length=2 \/ (aA s 32 3).length=3)->bC r s=(r,gQ):=fun h q q2 q3=>by unfold bC; rw [if_neg (by rw [h]; simp),if_neg q,if_neg q2,if_neg q3]
 obtain ⟨c1,c2⟩:=GM s;rw [hG];refine ⟨h2,fun hv=>?_,fun hv=>⟨s,32,⟨rfl,rfl⟩,by omega,fun q=>?_,fun q=>⟨fun q2=>?_,fun q2 _=>⟨_,_,_,⟨rfl,rfl,rfl⟩,fun q3 q4=>?_,fun q3=>?_⟩⟩⟩⟩
 ·have hc:=zy r (aK rdS s).1;have hop:=(nJ hv).1;have hd:iV r (aK rdS s).1=aP r (aK rdS s).1:=by unfold iV; rw [if_pos h1,if_pos hop]
  rw [e1 hv];refine ⟨r,(aK rdS s).1,⟨⟨rfl,rfl⟩,rfl,rfl,rfl,rfl,rfl,rfl,rfl⟩,⟨hrp,BO hop⟩,?_⟩;rw [hd];generalize aP r (aK rdS s).1=x at *;obtain ⟨x,c⟩:=x;have hcc:c=0 \/ c=1 \/ c=2 \/ c=3 \/ c=4 \/ c=5:=by simp only at hc; omega
  rcases hcc with rfl | rfl | rfl | rfl | rfl | rfl <;> simp -implicitDefEqProofs [codeW,ar,D.asStr]
 ·rw [e2 hv q];exact ⟨r.commits.length,rfl,by omega,by omega,fun _=>⟨r.heads.length,rfl,by omega,by omega,fun _=>⟨⟨rfl,rfl⟩,by simp⟩⟩⟩
 ·rw [e3 hv q q2];exact ⟨h1,(keepR r).commits.length,rfl,by omega,⟨rfl,rfl⟩,rfl⟩
 ·have q5:(spl 32 s []).length=2 \/ (spl 32 s []).length=3:=by omega
  have q6:=c2 (by omega)
  rw [e4 hv q q2 (c1.2 q5)];exact ⟨r,spl 32 s [],⟨⟨rfl,rfl⟩,rfl⟩,⟨h1,q5,fun x hx=>by have:=OW x hx; simp only [List.length_nil] at this; omega⟩,⟨rfl,rfl⟩,by rw [q6]⟩
 ·rw [e5 hv q q2 (fun q4=>by have:=c1.1 q4; omega)]
  exact ⟨⟨rfl,rfl⟩,rfl⟩
--TAB oF
def siI (l:List Str):Inv:=⟨Nat,fun i=>⟨[(2,true,.str []),(3,true,.ptr 10 0),(4,true,.ptr 11 0),(9,true,.sl true 1 (aa l)),(10,true,.int .i64 l.length),(11,true,.int .i64 i)],[(10,.box 35 [.sl false 3 (aD (cD (l.take i)).1.commits),.sl false 2 (al (cD (l.take i)).1.heads)]),(11,.box 58 [.slf 11,.own 12 1 (cj (cD (l.take i)).2)]),(12,.own 5 1 true (cj (cD (l.take i)).2))]⟩,fun i=>i<=l.length/\i<=40,fun i=>l.length - i⟩
def nl:Con:={ (Con.fn 30 (List Str) (fun l=>[.sl true 1 (aa l)]) (fun l=>∀ s ∈ l,s.length<=1048576) (fun l=>.str (eH l)) (fun _=>[])) with need:=jp }
theorem xx:Has Tryz.prog 11 nl:=by
 refine ah mixed Pr (HasL.cons G4 (HasL.cons QK (HasL.cons E3 HasL.nil))) [0,2,3,4,5,6,7,8,9,10,11] ((fun a n (_:Nat)=>(fun l _=>siI l) a n)) [] Tryz.func11 (by unfold Tryz.f11; rfl) (fun _=>⟨(),trivial⟩) ?_
 intro (l:List Str) (ha:∀ s ∈ l,s.length<=1048576);simp (maxSteps:=8000000) -implicitDefEqProofs [-kStep_move,-Bool.exists_bool,nl,sX,za,yS,Con.fn,oF,ag,siI,Od]
 try dsimp only
 simp -implicitDefEqProofs only [and_assoc,exists_eq_left,exists_and_left,RepoD.ex1,RepoD.eta];refine fun _=>⟨rfl,rfl,rfl,Nat.zero_le _,Nat.zero_le _,fun t ht h40=>⟨fun hlt=>⟨hlt,fun _=>?_⟩,fun hge=>?_⟩⟩
 ·have q:Option.map ar l[t]? = some [D.str l[t]]:=by simp -implicitDefEqProofs [hlt,ar]
  have hs:=Dp hlt;have hok:=(xw (l.take t)).1;have hb:=Do (l.take t);rw [List.length_take,Nat.min_eq_left (by omega)] at hb
  have hx:=ha _ (List.getElem_mem hlt);have hlb:=wL hok l[t];have h4:(t:Int)=40->eH l=(cD (l.take t)).2:=fun h=>by
   have:t=40:=by omega
   subst this; rfl
  rw [q];generalize cD (l.take t)=R at *;generalize l[t]=x at *;unfold eR at hs;simp -implicitDefEqProofs [D.asStr,maxLen];have he:cj R.2++cj ((bC R.1 x).2++[10])=cj (cD (l.take (t+1))).2:=by rw [hs]; simp -implicitDefEqProofs [cj]
  exact ⟨h4,fun hne=>⟨hok,hx,by omega,fun _=>⟨by omega,by omega,by omega,fun _ _=>⟨t+1,by omega,by rw [hs],by rw [hs],he.symm,he,by omega,by omega,by omega⟩⟩⟩⟩
 ·have e:eH l=(cD (l.take t)).2:=by unfold eH; rw [List.take_of_length_le hge,List.take_of_length_le (by omega)]
  exact e
--TAB aB
def pE:Con:=.fn 155 (RepoD × List Str) (fun a=>[aM a.1,.sl true 1 (aa a.2)]) (fun a=>an a.1=true/\(a.2.length=2 \/ a.2.length=3)) (fun a=>.str (bP a.1 a.2++[10])) (fun _=>[])
theorem J0:Has Tryz.prog 71 pE:=by
 refine ah mixed aL (HasL.cons jk (HasL.cons qP (HasL.cons J2 (HasL.cons wt (HasL.cons J4 (HasL.cons JG (HasL.cons KZ (HasL.cons A5 HasL.nil)))))))) [0,1,2,4,5,6,7,8,9] ((fun a n (_:Nat)=>(fun a _=>⟨Nat,fun i=>⟨[(2,true,.ptr 10 0),(5,true,.int .i64 (atL a.1.heads (a.2.getD 1 []))),(6,true,.str (fk ((aj a.1 (atL a.1.heads (a.2.getD 1 []))).take i))),(7,true,.int .i64 i)],[(10,bG a.1)]⟩,fun i=>i<=(aj a.1 (atL a.1.heads (a.2.getD 1 []))).length,fun i=>(aj a.1 (atL a.1.heads (a.2.getD 1 []))).length - i⟩) a n)) [] Tryz.func71 (by unfold Tryz.f71; rfl) (fun _=>⟨(),trivial⟩) ?_
 intro a ha;obtain ⟨r,w⟩:=a;obtain ⟨h1,h2⟩:an r=true/\(w.length=2 \/ w.length=3):=ha;have hRI:aF r=true:=by rw [b9]; exact h1
 have hn:=((be r).1 h1).2.2;rcases h2 with h2 | h2
 ·obtain ⟨x,y,rfl⟩:∃ x y,w=[x,y]:=by match w,h2 with | [x,y],_=>exact ⟨x,y,rfl⟩
  simp (maxSteps:=8000000) -implicitDefEqProofs [-kStep_move,-Bool.exists_bool,pE,gm,kE,pF,lN,pG,tq,pP,nk,Con.fn,aB,ag,aN]
  try dsimp only
  have e0:atL r.heads y < 0->bP r [x,y]++[10]=[110,111,10]:=fun h=>congrArg (· ++ [10]) (show bP r [x,y]=noA from if_pos h)
  have e1:0<=atL r.heads y->bP r [x,y]=ew r x (atL r.heads y):=fun h=>by unfold bP; rw [if_neg (by simp; omega)]; rfl
  simp -implicitDefEqProofs [ar,D.asStr];refine ⟨r,y,⟨⟨rfl,rfl⟩,rfl⟩,e0,fun h=>?_⟩;have hat:=gU hRI h;have gc:=ns (r:=r) h hat;have tl:=oI (du h1 (atL r.heads y));have tp:=mL (du h1 (atL r.heads y));have hal:=oW h1 (atL r.heads y);rw [e1 h];generalize hA:atL r.heads y=a at *;have f1:x=[102,105,108,101,115]->ew r x a=fk (aj r a):=fun q=>by unfold ew; rw [if_pos q]
  have f2:¬ x=[102,105,108,101,115]->x=[102,114,111,109]->ew r x a=c7 (ak (anc r a)):=fun q q2=>by unfold ew; rw [if_neg q,if_pos q2]
  have f3:¬ x=[102,105,108,101,115] -> ¬ x=[102,114,111,109]->ew r x a=gQ:=fun q q2=>by unfold ew; rw [if_neg q,if_neg q2]
  simp -implicitDefEqProofs [gc,D.asRows,D.asStr];refine ⟨fun q=>⟨⟨0,⟨rfl,rfl⟩,Nat.zero_le _⟩,fun t ht=>⟨⟨h,hat⟩,fun _ _ _=>⟨fun hlt=>⟨⟨h,hat⟩,fun _ _=>⟨hlt,fun _=>?_⟩⟩,fun hge=>?_⟩⟩⟩,fun q=>⟨fun q2=>⟨r,a,⟨⟨rfl,rfl⟩,rfl⟩,⟨hRI,h,hat⟩,⟨by omega,fun n hm=>?_⟩,by rw [f2 q q2]; rfl⟩,fun q2=>by rw [f3 q q2]; rfl⟩⟩
  ·have q1:Option.map aq (aj r a)[t]? = some (aq (aj r a)[t]):=by simp -implicitDefEqProofs [hlt]
   have st:=CD hlt;have b1:=rn (t:=(aj r a).take t) fun f hf=>tp f (List.mem_of_mem_take hf);have b2:=tp _ (List.getElem_mem hlt);rw [List.length_take] at b1;rw [q1];generalize (aj r a)[t]=f at *;generalize fk ((aj r a).take t)=B at *;simp -implicitDefEqProofs [aq,maxLen];exact ⟨by omega,fun _=>⟨by omega,fun _=>⟨⟨by omega,by omega⟩,fun _ _=>⟨t+1,⟨by rw [st,List.append_assoc],by omega⟩,by omega,by omega⟩⟩⟩⟩
  ·have b1:=rn (t:=(aj r a).take t) fun f hf=>tp f (List.mem_of_mem_take hf);rw [List.length_take] at b1;rw [f1 q,List.take_of_length_le hge] at *;exact ⟨by unfold maxLen; omega,fun _=>rfl⟩
  ·obtain ⟨i,hi,_,rfl⟩:=listT_mem.1 hm;rw [ci] at hi;omega
 ·obtain ⟨x,y,z,rfl⟩:∃ x y z,w=[x,y,z]:=by match w,h2 with | [x,y,z],_=>exact ⟨x,y,z,rfl⟩
  simp (maxSteps:=8000000) -implicitDefEqProofs [-kStep_move,-Bool.exists_bool,pE,gm,kE,pF,lN,pG,tq,pP,nk,Con.fn,aB,ag,aN]
  try dsimp only
  have e0:atL r.heads y < 0->bP r [x,y,z]++[10]=[110,111,10]:=fun h=>congrArg (· ++ [10]) (show bP r [x,y,z]=noA from if_pos h)
  have e1:0<=atL r.heads y->bP r [x,y,z]=cK r x (atL r.heads y) z:=fun h=>by unfold bP; rw [if_neg (by simp; omega)]; rfl
  simp -implicitDefEqProofs [ar,D.asStr];refine ⟨r,y,⟨⟨rfl,rfl⟩,rfl⟩,e0,fun h=>?_⟩;have hat:=gU hRI h;have gc:=ns (r:=r) h hat;have hal:=oW h1 (atL r.heads y);rw [e1 h];generalize hA:atL r.heads y=a at *;have f1:x=[115,104,111,119]->(au (aj r a) z).2=true->cK r x a z=dU (au (aj r a) z).1:=fun q q2=>by unfold cK; rw [if_pos q,if_pos q2]
  have f1':x=[115,104,111,119]->(au (aj r a) z).2=false->cK r x a z=noA:=fun q q2=>by unfold cK; rw [if_pos q,if_neg (by rw [q2]; simp)]
  have f2:¬ x=[115,104,111,119]->x=[98,108,97,109,101]->cK r x a z=c7 (blm r z 16 a):=fun q q2=>by unfold cK; rw [if_neg q,if_pos q2]
  have f3:¬ x=[115,104,111,119] -> ¬ x=[98,108,97,109,101]->x=[108,111,103]->cK r x a z=c7 (fa r a z):=fun q q2 q3=>by unfold cK; rw [if_neg q,if_neg q2,if_pos q3]
  have f4:¬ x=[115,104,111,119] -> ¬ x=[98,108,97,109,101] -> ¬ x=[108,111,103]->x=[98,97,115,101,115]->0<=atL r.heads z->cK r x a z=c7 (eh r a (atL r.heads z)):=fun q q2 q3 q4 q5=>by unfold cK; rw [if_neg q,if_neg q2,if_neg q3,if_pos ⟨q4,q5⟩]
  have f5:¬ x=[115,104,111,119] -> ¬ x=[98,108,97,109,101] -> ¬ x=[108,111,103] -> ¬ (x=[98,97,115,101,115]/\0<=atL r.heads z)->cK r x a z=gQ:=fun q q2 q3 q4=>by unfold cK; rw [if_neg q,if_neg q2,if_neg q3,if_neg q4]
  simp -implicitDefEqProofs [gc,D.asRows,D.asStr];refine ⟨fun q=>⟨⟨h,hat⟩,fun _ _=>⟨aj r a,z,⟨rfl,rfl⟩,fun q2=>by rw [f1' q q2]; rfl,fun q2=>⟨?_,by rw [f1 q q2]; rfl⟩⟩⟩,fun q=>⟨fun q2=>⟨r,a,z,⟨⟨rfl,rfl⟩,rfl,rfl⟩,⟨h1,⟨h,hat⟩,by omega⟩,⟨?_,fun n hm=>?_⟩,by rw [f2 q q2]; rfl⟩,fun q2=>⟨fun q3=>⟨r,a,z,⟨⟨rfl,rfl⟩,rfl,rfl⟩,⟨h1,h,hat⟩,⟨?_,fun n hm=>?_⟩,by rw [f3 q q2 q3]; rfl⟩,fun q3=>⟨fun q4=>⟨r,z,⟨⟨rfl,rfl⟩,rfl⟩,fun q5=>⟨r,z,⟨⟨rfl,rfl⟩,rfl⟩,r,a,_,⟨⟨rfl,rfl⟩,rfl,rfl⟩,⟨hRI,⟨h,hat⟩,q5,gU hRI q5⟩,⟨?_,fun n hm=>?_⟩,by rw [f4 q q2 q3 q4 q5]; rfl⟩,fun q5=>by rw [f5 q q2 q3 (by rintro ⟨_,q6⟩; omega)]; rfl⟩,fun q4=>by rw [f5 q q2 q3 (fun q6=>q4 q6.1)]; rfl⟩⟩⟩⟩
  ·obtain ⟨g1,g2⟩:=xI (vL h1 a z);exact ⟨by omega,fun l hl=>by have:=g2 l hl; omega⟩
  ·have:=sE h1 z a; omega
  ·have:=sG h1 z 16 a ⟨h,hat⟩ n hm; omega
  ·have:=wS h1 a z; omega
  ·have hm2:n ∈ ak (anc r a):=by
    have:=(List.mem_filter.1 hm).1
    simpa using this
   obtain ⟨i,hi,_,rfl⟩:=listT_mem.1 hm2;rw [ci] at hi;omega
  ·have:=o7 hRI (a:=a) (b:=atL r.heads z); omega
  ·have:=sy n hm; omega
--TAB aB
def tJ:Con:=.fn 69 (RepoD × Str) (fun a=>[aM a.1,.str a.2]) (fun a=>an a.1=true/\a.2.length<=1048576) (fun a=>.tup [.agg [.sl false 3 (aD (bC a.1 a.2).1.commits),.sl false 2 (al (bC a.1 a.2).1.heads)],.str ((bC a.1 a.2).2++[10])]) (fun _=>[])
theorem J3:Has Tryz.prog 27 tJ:=by
 refine ah mixed aL (HasL.cons LY (HasL.cons JO (HasL.cons J1 (HasL.cons wi (HasL.cons wj (HasL.cons Jq (HasL.cons J0 HasL.nil))))))) [0,1,2,4,5,6,7,8,9,10,11] ((fun a n (_:Nat)=>(fun _=>az) a n)) [32772] Tryz.func27 (by unfold Tryz.f27; rfl) (fun _=>⟨(),trivial⟩) ?_
 intro a ha;obtain ⟨r,s⟩:=a;obtain ⟨h1,h2⟩:an r=true/\s.length<=1048576:=ha;simp (maxSteps:=8000000) -implicitDefEqProofs [-kStep_move,-Bool.exists_bool,tJ,um,tC,tI,m9,na,tm,pE,Con.fn,aB,ag,aN,bOp,maxLen]
 try dsimp only
 have hn:=((be r).1 h1).2.2;have hh:=((eY _ _).1 ((be r).1 h1).2.1).1;have hkl:(keepR r).commits.length<=16:=by rw [jP]; have:=nT r; omega
 have d1:=jd r.commits.length;have d2:=jd r.heads.length;have d3:=jd (keepR r).commits.length;have e1:(aK rdS s).2=true->bC r s=((aP r (aK rdS s).1).1,codeW.getD (aP r (aK rdS s).1).2.toNat default):=fun h=>by unfold bC; rw [if_pos h]
 have e2:(aK rdS s).2=false->s=[97,108,108]->bC r s=(r,aW r.commits.length++[32]++aW r.heads.length):=fun h q=>by unfold bC; rw [if_neg (by rw [h]; simp),if_pos q]
 have e3:(aK rdS s).2=false -> ¬ s=[97,108,108]->s=[107,101,101,112]->bC r s=(keepR r,aW (keepR r).commits.length):=fun h q q2=>by unfold bC; rw [if_neg (by rw [h]; simp),if_neg q,if_pos q2]
 have e4:(aK rdS s).2=false -> ¬ s=[97,108,108] -> ¬ s=[107,101,101,112]->((aA s 32 3).length=2 \/ (aA s 32 3).length=3)->bC r s=(r,bP r (aA s 32 3)):=fun h q q2 q3=>by unfold bC; rw [if_neg (by rw [h]; simp),if_neg q,if_neg q2,if_pos q3]
 have e5:(aK rdS s).2=false -> ¬ s=[97,108,108] -> ¬ s=[107,101,101,112] -> ¬ ((aA s 32 3).length=2 \/ (aA s 32 3).length=3)->bC r s=(r,gQ):=fun h q q2 q3=>by unfold bC; rw [if_neg (by rw [h]; simp),if_neg q,if_neg q2,if_neg q3]
 refine ⟨h2,fun hv=>?_,fun hv=>⟨s,32,3,⟨rfl,rfl,rfl⟩,by omega,fun q=>?_,fun q=>⟨fun q2=>?_,fun q2 _ _=>⟨fun q3=>?_,fun q3 q4=>?_⟩⟩⟩⟩
 ·have hc:=zy r (aK rdS s).1;rw [e1 hv];exact ⟨r,(aK rdS s).1,⟨⟨rfl,rfl⟩,rfl,rfl,rfl,rfl,rfl,rfl,rfl⟩,⟨h1,BO (nJ hv).1⟩,⟨hc.1,by omega⟩,⟨rfl,rfl⟩,by rw [List.getD_eq_getElem?_getD]⟩
 ·rw [e2 hv q];exact ⟨r.commits.length,rfl,by omega,by omega,fun _=>⟨r.heads.length,rfl,by omega,by omega,fun _=>⟨by omega,fun _=>⟨⟨rfl,rfl⟩,by simp⟩⟩⟩⟩
 ·rw [e3 hv q q2];exact ⟨h1,(keepR r).commits.length,rfl,by omega,by omega,fun _=>⟨⟨rfl,rfl⟩,rfl⟩⟩
 ·have q3':(aA s 32 3).length=2 \/ (aA s 32 3).length=3:=by omega
  rw [e4 hv q q2 q3'];exact ⟨r,aA s 32 3,⟨⟨rfl,rfl⟩,rfl⟩,⟨h1,q3'⟩,⟨rfl,rfl⟩,rfl⟩
 ·rw [e5 hv q q2 (by omega)]
  exact ⟨⟨rfl,rfl⟩,rfl⟩
def ssI (l:List Str):Inv:=⟨Nat,fun i=>⟨[(0,true,.sl true 1 (aa l)),(2,true,.str []),(3,true,.ptr 10 0),(4,true,.str (cD (l.take i)).2),(5,true,.int .i64 i)],[(10,.box 35 [.sl false 3 (aD (cD (l.take i)).1.commits),.sl false 2 (al (cD (l.take i)).1.heads)])]⟩,fun i=>i<=l.length/\i<=40,fun i=>l.length - i⟩
def np:Con:=.fn 33 (List Str) (fun l=>[.sl true 1 (aa l)]) (fun l=>∀ s ∈ l,s.length<=1048576) (fun l=>.str (eH l)) (fun _=>[])
theorem xy:Has Tryz.prog 9 np:=by
 refine ah mixed aL (HasL.cons J3 HasL.nil) [0,2,3,4,5,6,7] ((fun a n (_:Nat)=>(fun l _=>ssI l) a n)) [12287] Tryz.func9 (by unfold Tryz.f9; rfl) (fun _=>⟨(),trivial⟩) ?_
 intro (l:List Str) (ha:∀ s ∈ l,s.length<=1048576);simp (maxSteps:=8000000) -implicitDefEqProofs [-kStep_move,-Bool.exists_bool,np,tJ,Con.fn,aB,ag,ssI]
 try dsimp only
 simp -implicitDefEqProofs only [and_assoc,exists_eq_left,exists_and_left,RepoD.ex1,RepoD.eta];refine ⟨⟨0,rfl,rfl,rfl,rfl,Nat.zero_le _,Nat.zero_le _⟩,fun t ht h40 _=>⟨fun hlt h40'=>⟨hlt,fun _=>?_⟩,fun h=>?_⟩⟩
 ·have q:Option.map ar l[t]? = some [D.str l[t]]:=by simp -implicitDefEqProofs [hlt,ar]
  have hs:=Dp hlt;have hok:=(xw (l.take t)).1;have hb:=Do (l.take t);rw [List.length_take,Nat.min_eq_left (by omega)] at hb
  have hx:=ha _ (List.getElem_mem hlt);have hlb:=wL hok l[t];rw [q];generalize cD (l.take t)=R at *;generalize l[t]=x at *;unfold eR at hs;simp -implicitDefEqProofs [D.asStr,maxLen];exact ⟨hok,hx,by omega,fun _=>⟨by omega,by omega,fun _ _=>⟨t+1,by rw [hs],by omega,by rw [hs],by rw [hs],by omega,by omega,by omega⟩⟩⟩
 ·have e:eH l=(cD (l.take t)).2:=by
   unfold eH;rcases Nat.lt_or_ge t l.length with h1 | h1
   ·have:=h h1;have:t=40:=by omega
    rw [this]
   ·rw [List.take_of_length_le h1,List.take_of_length_le (by omega)]
  exact e
def yU:Con:={ (Con.fn 27 (List Str) (fun l=>[.sl true 1 (aa l)]) (fun _=>True) (fun _=>.bool true) (fun _=>[])) with need:=jp }
theorem Hp:Has Tryz.prog 3 yU:=by
 refine ah mixed aw (HasL.cons Pp (HasL.cons PB (HasL.cons xy (HasL.cons xx (HasL.cons G2 HasL.nil))))) [0,2,3,4,5,6] ((fun a n (_:Nat)=>(fun _=>az) a n)) [] Tryz.func3 (by unfold Tryz.f3; rfl) (fun _=>⟨(),trivial⟩) ?_
 intro (l:List Str) _;have hz:=fun h=>Pq (a:=l) (l:=1048576) h;have h1:0<=lp l 1048576->l.length<=1048576:=fun h=>by have:=(hz h).1; omega
 have h2:0<=lp l 1048576 -> ∀ s ∈ l,s.length<=1048576:=fun h s hs=>by have:=(hz h).2 s hs; omega
 simp -implicitDefEqProofs [-Bool.exists_bool,yU,uJ,uL,np,nl,sV,Con.fn,ag]
 try dsimp only
 exact ⟨l,1048576,⟨rfl,rfl⟩,⟨by omega,by omega⟩,fun h=>⟨h1 h,h2 h,h1 h,h2 h,h1 h⟩⟩
end Vx
end Go.Proofs.YthgfdbfmnbgkaaaGreatDoor
namespace Go.Proofs.YthgfdbfmnbgkaaaGreatDoor
open Go.ChangeShapes Go.WideShapes Go.ChangeAt Go.RowKit
namespace Vx
theorem OK {T:Nat->Option TI} (hs:∀ te,T 5=some te->te.cells=[.int .u8]) {ds:List D} (h:Shp T [.sl 5 1] ds):∃ l,ds=[.sl 5 1 (cj l)]:=by
 cases h with
 | @sl e k te rows ks ds h1 h2 h3 =>
  cases h3;rw [hs _ h1] at h2;obtain ⟨l,rfl,_⟩:=C8 (f:=eD) (p:=fun _=>True) (rows:=rows) (fun r hr=>by
   have:=h2 r hr;cases this with
   | @int k n _ _ q1 q2 =>
    cases q2;have q3:IntKind.u8.min<=n/\n<=IntKind.u8.max:=by simpa only [Lit.wf,Bool.and_eq_true,decide_eq_true_eq] using q1
    have q4:IntKind.u8.min=0:=rfl;have q5:IntKind.u8.max=255:=rfl;rw [q4,q5] at q3;refine ⟨UInt8.ofNat n.toNat,?_,trivial⟩;have:(UInt8.ofNat n.toNat).toNat=n.toNat:=by rw [UInt8.toNat_ofNat']; omega
    simp only [eD,this]
    congr 2
    omega)
  exact ⟨l,rfl⟩
section
variable {H:Type} {enc:TypeId × Value->H} {W:World} {sp:Nat->Bool} {held:Bool} {r:Reach} {base:Nat}
set_option maxRecDepth 100000 in
theorem w8 {v:Value} {d:DataW H} {p:List MemPlace} (hu:Tryz.prog.underlying 28=some (.slice 5)) (hv:Value.okWide Tryz.prog W r base 28 v)
  (h:DataW.Trod enc Tryz.prog W 0 sp held 28 v d p):∃ l f,RdL false W [.sl 5 1 (cj l)] [v] f:=by
 obtain ⟨a,n,c,rfl⟩:=okWide_slice hu hv;obtain ⟨fuel,hf⟩:=h;obtain ⟨ds,f,h1,h2⟩:=CU aw DC fuel (t:=28) rfl hf;obtain ⟨l,rfl⟩:=OK (fun te ht=>by cases ht; rfl) h2
 exact ⟨l,f,h1⟩
end
end Vx
end Go.Proofs.YthgfdbfmnbgkaaaGreatDoor
namespace Go.Proofs.YthgfdbfmnbgkaaaGreatDoor
set_option maxHeartbeats 4000000
namespace Vx
open Go.RowKit
set_option maxRecDepth 8000
def pn:Con:={ A:=Str × Int,X:=Str,n:=6,args:=fun _=>[.ptr 0 0],boxes:=fun a=>[(0,111,[.sl true 1 (cj a.1),.int .i64 a.2])],pre:=fun a=>a.1.length<=2000/\0<=a.2/\a.2<=1073741800,post:=fun _ x=>x.length<=4,res:=fun _ x=>.str x,fin:=fun a _=>[(0,iy a.1 (a.2+1))],nob:=false }
theorem yQ:Has Tryz.prog 36 pn:=by
 refine ah mixed aw (HasL.cons of_has HasL.nil) [0,2] ((fun a n (_:Nat)=>(fun _=>az) a n)) [] Tryz.func36 (by unfold Tryz.f36; rfl) (fun _=>⟨([]:Str),Nat.zero_le 4⟩) ?_
 intro a ha;obtain ⟨s,p⟩:=a;obtain ⟨h1,h2,h3⟩:s.length<=2000/\0<=p/\p<=1073741800:=ha;simp -implicitDefEqProofs [pn,cOf,ag,nz,clash,kd,eD,lE];exact ⟨s,p,⟨rfl,rfl⟩,⟨h1,by omega,by omega⟩,by simp⟩
def ny (o:OpD):Prop:=(1<=o.kind/\o.kind<=7)/\o.branch.length<=4/\o.who.length<=3/\o.path.length<=5/\o.to_.length<=5/\(0<=o.at_/\o.at_<=9)/\o.text.length<=8 /\ ∀ s ∈ o.text,s.length<=7
def uk:Con:={ A:=Str × Int,X:=OpD × Int,n:=63,args:=fun _=>[.ptr 0 0],boxes:=fun a=>[(0,111,[.sl true 1 (cj a.1),.int .i64 a.2])],pre:=fun a=>a.1.length<=2000/\0<=a.2/\a.2<=1073741500,post:=fun a x=>ny x.1/\a.2<=x.2/\x.2<=a.2+20,res:=fun _ x=>.agg [.int .i64 x.1.kind,.str x.1.branch,.str x.1.who,.str x.1.path,.str x.1.to_,.int .i64 x.1.at_,.own 8 1 (aa x.1.text)],fin:=fun a x=>(0,iy a.1 x.2) :: dN 8 x.1.text,nob:=false }
theorem LW:Has Tryz.prog 34 uk:=by
 refine ah mixed aw (HasL.cons yQ (HasL.cons of_has (HasL.cons ro (HasL.cons CA (HasL.cons Pv HasL.nil))))) [0,2,3,11,34,42] ((fun a n (_:Nat)=>(fun _=>az) a n)) [] Tryz.func34 (by unfold Tryz.f34; rfl) (fun a=>⟨((⟨1,[],[],[],[],0,[]⟩:OpD),a.2),(by simp -implicitDefEqProofs [ny]),Int.le_refl _,by omega⟩) ?_
 intro a ha;obtain ⟨s,p⟩:=a;obtain ⟨h1,h2,h3⟩:s.length<=2000/\0<=p/\p<=1073741500:=ha;simp (maxSteps:=8000000) -implicitDefEqProofs [-kStep_move,-Bool.exists_bool,uk,pn,cOf,lR,pT,uK,ag,nz,clash,kd,eD,lE];have fin:∀ (k:Int) (b w pa t:Str) (i:Int) (q:Int),(1<=k/\k<=7)->b.length<=4->w.length<=3->pa.length<=5->t.length<=5->(0<=i/\i<=9)->(p<=q/\q<=p+20) -> ∃ (a:OpD) (c:Int),(ny a/\p<=c/\c<=p+20)/\(a.kind=k/\a.branch=b/\a.who=w/\a.path=pa/\a.to_=t/\a.at_=i/\a.text=[])/\(s=s/\c=q)/\a.text=[] :=
  fun k b w pa t i q h1 h2 h3 h4 h5 h6 h7=>⟨⟨k,b,w,pa,t,i,[]⟩,q,⟨⟨h1,h2,h3,h4,h5,h6,Nat.zero_le _,by simp⟩,h7⟩,⟨rfl,rfl,rfl,rfl,rfl,rfl,rfl⟩,⟨rfl,rfl⟩,rfl⟩
 have fin2:∀ (k:Int) (b w pa t:Str) (i:Int) (l:List Str) (q:Int),(1<=k/\k<=7)->b.length<=4->w.length<=3->pa.length<=5->t.length<=5->(0<=i/\i<=9)->(l.length<=8)->(∀ s ∈ l,s.length<=7)->(p<=q/\q<=p+20) -> ∃ (a:OpD) (c:Int),(ny a/\p<=c/\c<=p+20)/\(a.kind=k/\a.branch=b/\a.who=w/\a.path=pa/\a.to_=t/\a.at_=i/\a.text=l)/\(s=s/\c=q)/\l=a.text :=
  fun k b w pa t i l q h1 h2 h3 h4 h5 h6 g1 g2 h7=>⟨⟨k,b,w,pa,t,i,l⟩,q,⟨⟨h1,h2,h3,h4,h5,h6,g1,g2⟩,h7⟩,⟨rfl,rfl,rfl,rfl,rfl,rfl,rfl⟩,⟨rfl,rfl⟩,rfl⟩
 repeat' (first
  | intro _
  | refine ⟨_,_,⟨rfl,rfl⟩,⟨h1,by omega,by omega⟩,?_⟩
  | exact fin _ _ _ _ _ _ _ (by omega) (by first | assumption | omega | decide) (by first | assumption | omega | decide) (by first | assumption | omega | decide) (by first | assumption | omega | decide) (by omega) (by omega)
  | exact fin2 _ _ _ _ _ _ _ _ (by omega) (by first | assumption | omega | decide) (by first | assumption | omega | decide) (by first | assumption | omega | decide) (by first | assumption | omega | decide) (by omega) (by assumption) (by assumption) (by omega)
  | apply And.intro)




--TAB aB
theorem zB {o:OpD} (h:ny o):j8 o:=by
 obtain ⟨h1,h2,h3,h4,h5,⟨h6,h7⟩,h8,h9⟩:=h;exact ⟨h1,by omega,by omega,by omega,by omega,⟨h6,by omega⟩,by omega,fun l hl=>by have:=h9 l hl; omega⟩
theorem Nn {o:OpD} (h:j8 o):(ba o).length<=400:=by
 obtain ⟨h1,h2,h3,h4,h5,h6,h7,h8⟩:=h;have l0:=Jz o.kind;have l3:(cH o).length<=160:=by
  have k2:=mU h8;have k3:=nw o.at_.toNat;unfold cH;split
  ·simp only [List.length_append,List.length_cons]; omega
  ·split
   ·omega
   ·split
    ·simp only [List.length_append,List.length_cons]; omega
    ·split
     ·omega
     ·omega
 unfold ba;simp only [List.length_append,List.length_cons];omega
--TAB aB
def uo:Con:=.fn 8 OpD (fun o=>[vOp o]) j8 (fun o=>.str (if opB o=true then ba o else [])) (fun _=>[])
theorem L0:Has Tryz.prog 33 uo:=by
 refine ah mixed aL (HasL.cons AP (HasL.cons AQ HasL.nil)) [0,1,2] ((fun a n (_:Nat)=>(fun _=>az) a n)) [] Tryz.func33 (by unfold Tryz.f33; rfl) (fun _=>⟨(),trivial⟩) ?_
 intro (o:OpD) (ho:j8 o);simp (maxSteps:=8000000) -implicitDefEqProofs [-kStep_move,-Bool.exists_bool,uo,pA,pB,Con.fn,aB,ag,bOp]
 try dsimp only
 exact ⟨by obtain ⟨_,_,_,_,_,_,h,_⟩:=ho; omega,fun h h2=>absurd h2 (by rw [h]; simp),fun h=>⟨ho,fun h2=>absurd h (by rw [h2]; simp)⟩⟩
def yZ:Con:={ cOf with pre:=fun a=>cOf.pre a /\ ∀ w ∈ a.2,w.length<=20,post:=fun _ x=>x.length<=20 }
theorem LK:Has Tryz.prog 35 yZ :=
 ⟨of_has.enter,fun _=>⟨([]:Str),Nat.zero_le _⟩,of_has.nob,fun a h c hk vs β fp h1 h2 h3 h4 S=>(of_has.calls a h.1 c hk vs β fp h1 h2 h3 h4 S).mono fun e w' q=>(let ⟨y,z,q⟩:=q; ⟨y,h.2 y (z h.1.2.2.2.1),q⟩),of_has.bldr,.inl rfl⟩
def mi (l:List Str):Prop:=∀ x ∈ l,x.length<=1000
def dsI (s:Str):Inv:=⟨List Str × Int × Nat,fun t=>⟨[(2,true,.nil),(3,true,.ptr 11 0),(4,true,.own 9 1 (aa t.1)),(5,true,.int .i64 t.2.2)],[(11,iy s t.2.1),(9,.own 9 1 true (aa t.1))]⟩,fun t=>mi t.1/\t.1.length+3 * t.2.2<=72/\0<=t.2.1/\t.2.1+100 * t.2.2<=10000,fun t=>t.2.2⟩
def pq:Con:={ A:=Str,X:=List Str,n:=56,args:=fun s=>[.sl true 1 (cj s)],boxes:=fun _=>[],pre:=fun _=>True,post:=fun _ x=>mi x/\x.length<=72,res:=fun _ x=>.own 8 1 (aa x),fin:=fun _ x=>dN 8 x }
theorem zA:Has Tryz.prog 13 pq:=by
 refine ah mixed aL (HasL.cons J5 (HasL.cons ro (HasL.cons LW (HasL.cons L0 (HasL.cons LK (HasL.cons yQ (HasL.cons CA HasL.nil))))))) [0,2,3,4,5] ((fun a n (_:Nat)=>(fun s _=>dsI (s.take 2000)) a n)) [] Tryz.func13 (by unfold Tryz.f13; rfl) (fun _=>⟨([]:List Str),(by simp -implicitDefEqProofs [mi]),Nat.zero_le _⟩) ?_
 intro (s:Str) _;simp (maxSteps:=8000000) -implicitDefEqProofs [-kStep_move,-Bool.exists_bool,pq,tK,lR,uk,uo,yZ,cOf,pn,pT,Con.fn,aB,ag,dsI,nz,clash,kd,eD,lE]
 try dsimp only
 have hl:(s.take 2000).length<=2000:=by simp; omega
 have hml:maxLen=9223372036854775807:=rfl;have snc:∀ (l:List Str) (x:Str),aa l++[[D.str x]]=aa (l++[x]):=fun l x=>by simp -implicitDefEqProofs [aa,ar]
 have lsn:∀ (l:List Str) (x:Str),mi l->x.length<=1000->mi (l++[x]):=fun l x h1 h2 y hy=>by
  rcases List.mem_append.1 hy with hy | hy
  ·exact h1 y hy
  ·rw [List.mem_singleton] at hy; subst hy; exact h2
 refine ⟨_,_,⟨rfl,rfl⟩,⟨hl,by omega,by omega⟩,fun y hy0 hy1=>⟨⟨[],_,y.toNat,⟨⟨rfl,by omega⟩,⟨rfl,rfl⟩,rfl⟩,by simp -implicitDefEqProofs [mi],by simp; omega,by omega,by omega⟩,fun out p n g1 g2 g3 g4=>⟨fun hn=>⟨_,_,⟨rfl,rfl⟩,⟨hl,by omega,by omega⟩,fun y2 _ _=>⟨fun _=>⟨_,_,⟨rfl,rfl⟩,⟨hl,by omega,by omega⟩,fun o q ho k1 k2=>⟨zB ho,⟨by omega,by omega⟩,⟨by omega,by omega⟩,fun _ _=>?_⟩⟩,fun _=>⟨_,_,⟨rfl,rfl⟩,⟨hl,by omega,by omega⟩,fun w1 hw1=>⟨_,_,⟨rfl,rfl⟩,⟨hl,by omega,by omega⟩,fun b1 hb1=>⟨by omega,fun _=>?_⟩⟩⟩⟩⟩,fun hn=>⟨g1,by omega⟩⟩⟩⟩
 ·have hpo:=Nn (zB ho);have hq:(if opB o=true then ba o else []).length<=1000:=by
   split
   ·omega
   ·simp
  generalize (if opB o=true then ba o else [])=z at *
  rw [snc];exact ⟨out++[z],q,n - 1,⟨⟨rfl,by omega⟩,⟨rfl,rfl⟩,rfl⟩,⟨lsn _ _ g1 hq,by simp; omega,by omega,by omega⟩,by omega⟩
 ·refine ⟨⟨by omega,by omega⟩,_,_,⟨rfl,rfl⟩,⟨hl,by omega,by omega⟩,fun w2 hw2=>⟨_,_,⟨rfl,rfl⟩,⟨hl,by omega,by omega⟩,fun b2 hb2=>⟨by omega,fun _=>⟨by omega,fun _=>⟨_,_,⟨rfl,rfl⟩,⟨hl,by omega,by omega⟩,fun p2 hp2=>⟨by omega,fun _=>⟨⟨by omega,by omega⟩,_,_,⟨rfl,rfl⟩,⟨hl,by omega,by omega⟩,fun y3 _ _=>⟨fun _=>⟨_,_,⟨rfl,rfl⟩,⟨hl,by omega,by omega⟩,?_⟩,fun _=>⟨⟨by omega,by omega⟩,fun _ _=>?_⟩⟩⟩⟩⟩⟩⟩⟩⟩
  ·intro z hz;have e:aa out++[[D.str (w1++b1)],[D.str (w2++(b2++32 :: p2))],[D.str z]]=aa (out++[w1++b1,w2++(b2++32 :: p2),z]):=by simp -implicitDefEqProofs [aa,ar]
   rw [e];refine ⟨⟨by omega,by omega⟩,⟨by omega,by omega⟩,fun _ _=>⟨_,_,n - 1,⟨⟨rfl,by omega⟩,⟨rfl,rfl⟩,rfl⟩,⟨?_,by simp; omega,by omega,by omega⟩,by omega⟩⟩
   have q:=lsn _ z (lsn _ (w2++(b2++32 :: p2)) (lsn _ (w1++b1) g1 (by simp; omega)) (by simp; omega)) (by omega)
   simpa using q
  ·have e:aa out++[[D.str (w1++b1)],[D.str (w2++(b2++32 :: p2))]]=aa (out++[w1++b1,w2++(b2++32 :: p2)]):=by simp -implicitDefEqProofs [aa,ar]
   rw [e];refine ⟨_,_,n - 1,⟨⟨rfl,by omega⟩,⟨rfl,rfl⟩,rfl⟩,⟨?_,by simp; omega,by omega,by omega⟩,by omega⟩
   have q:=lsn _ (w2++(b2++32 :: p2)) (lsn _ (w1++b1) g1 (by simp; omega)) (by simp; omega)
   simpa using q
theorem Ox (l:List Str) (k:Nat):(cD (l.take k)).2 <+: (cD l).2:=by
 have h:∀ (m:List Str) (x:RepoD × Str),x.2 <+: (m.foldl eR x).2:=by
  intro m
  induction m with
  | nil=>intro x; exact List.prefix_refl _
  | cons s m ih =>
   intro x;rw [List.foldl_cons];refine List.IsPrefix.trans ?_ (ih (eR x s));exact List.prefix_append _ _
 have e:cD l=(l.drop k).foldl eR (cD (l.take k)):=by
  unfold cD;rw [<- List.foldl_append,List.take_append_drop]
 rw [e];exact h _ _
theorem Oy (l:List Str) (k:Nat):eH (l.take k) <+: eH l:=by
 unfold eH;rw [List.take_take,Nat.min_comm,<- List.take_take];exact Ox _ _
def yV:Con:={ (Con.fn 48 (Str × Str) (fun a=>[.sl true 1 (cj a.1),.sl true 1 (cj a.2)]) (fun _=>True) (fun _=>.bool true) (fun _=>[])) with need:=jp }
theorem Hr:Has Tryz.prog 4 yV:=by
 refine ah mixed aw (HasL.cons zA (HasL.cons xx (HasL.cons xy HasL.nil))) [0,1,4,5,6,7,8] ((fun a n (_:Nat)=>(fun _=>az) a n)) [] Tryz.func4 (by unfold Tryz.f4; rfl) (fun _=>⟨(),trivial⟩) ?_
 intro a _;obtain ⟨s,m⟩:=a;simp -implicitDefEqProofs [-Bool.exists_bool,yV,pq,np,nl,Con.fn,ag]
 try dsimp only
 refine fun _ h1 _ h2 y hy hyl=>⟨fun x hx=>by have:=hy x hx; omega,fun _ _=>⟨⟨by omega,by omega⟩,fun _ _=>⟨by omega,fun _=>?_⟩⟩⟩
 have hm:(m.length:Int).tmod (y.length+1)=((m.length % (y.length+1):Nat):Int):=by rw [show ((y.length:Int)+1)=((y.length+1:Nat):Int) by omega]; exact (Int.ofNat_tmod _ _).symm
 rw [hm];have hk:=Nat.mod_lt m.length (show 0 < y.length+1 by omega)
 generalize m.length % (y.length+1)=k at *;have hp:=Oy y k;have hle:=hp.length_le;refine ⟨⟨by omega,by omega⟩,fun _ _=>⟨y.take k,by simp -implicitDefEqProofs [aa],fun x hx=>by have:=hy x (List.mem_of_mem_take hx); omega,fun _ _=>⟨fun _ _=>⟨hle,fun _=>?_⟩,hle⟩⟩⟩
 exact (List.prefix_iff_eq_take.1 hp).symm
def wFm:Str:=[102,105,108,101,115,32,109,97,105,110]
def wSm:Str:=[115,104,111,119,32,109,97,105,110,32,97]
def wKp:Str:=[107,101,101,112]
def mM:Str:=[109,97,105,110]
theorem vJ {p:List Str->OpD} {s:Str} (h:(aA s 32 4).length < 4):(aK p s).2=false:=by unfold aK; rw [if_pos h]
theorem Bd (r:RepoD):bC r wFm=(r,bP r [[102,105,108,101,115],mM]):=by
 have h:(aK rdS wFm).2=false:=vJ (by decide)
 have h2:aA wFm 32 3=[[102,105,108,101,115],mM]:=by decide
 unfold bC;rw [if_neg (by rw [h]; simp),if_neg (by decide),if_neg (by decide),if_pos (.inl (by decide)),h2]
theorem Bf (r:RepoD):bC r wSm=(r,bP r [[115,104,111,119],mM,[97]]):=by
 have h:(aK rdS wSm).2=false:=vJ (by decide)
 have h2:aA wSm 32 3=[[115,104,111,119],mM,[97]]:=by decide
 unfold bC;rw [if_neg (by rw [h]; simp),if_neg (by decide),if_neg (by decide),if_pos (.inr (by decide)),h2]
theorem KK (r:RepoD):bC r wKp=(keepR r,aW (keepR r).commits.length):=by
 have h:(aK rdS wKp).2=false:=vJ (by decide)
 unfold bC;rw [if_neg (by rw [h]; simp),if_neg (by decide),if_pos (by decide)]
theorem Ju {r:RepoD} (h:an r=true) (m:Str):bP (keepR r) [[102,105,108,101,115],m]=bP r [[102,105,108,101,115],m]:=by
 obtain ⟨h1,h2⟩:=AJ h m;by_cases q:atL r.heads m < 0
 ·rw [show bP r [[102,105,108,101,115],m]=noA from if_pos q,show bP (keepR r) [[102,105,108,101,115],m]=noA from if_pos (h1.2 q)]
 ·have q1:¬ atL (keepR r).heads m < 0:=fun e=>q (h1.1 e);have e1:bP r [[102,105,108,101,115],m]=fk (aj r (atL r.heads m)):=if_neg q;have e2:bP (keepR r) [[102,105,108,101,115],m]=fk (aj (keepR r) (atL (keepR r).heads m)):=if_neg q1;rw [e1,e2,h2 (by omega)]
theorem Jw {r:RepoD} (h:an r=true) (m p:Str):bP (keepR r) [[115,104,111,119],m,p]=bP r [[115,104,111,119],m,p]:=by
 obtain ⟨h1,h2⟩:=AJ h m;by_cases q:atL r.heads m < 0
 ·rw [show bP r [[115,104,111,119],m,p]=noA from if_pos q,show bP (keepR r) [[115,104,111,119],m,p]=noA from if_pos (h1.2 q)]
 ·have q1:¬ atL (keepR r).heads m < 0:=fun e=>q (h1.1 e);have e1:bP r [[115,104,111,119],m,p]=if (au (aj r (atL r.heads m)) p).2=true then dU (au (aj r (atL r.heads m)) p).1 else noA:=if_neg q
  have e2:bP (keepR r) [[115,104,111,119],m,p]=if (au (aj (keepR r) (atL (keepR r).heads m)) p).2=true then dU (au (aj (keepR r) (atL (keepR r).heads m)) p).1 else noA:=if_neg q1
  rw [e1,e2,h2 (by omega)]
theorem xv (l m:List Str):cD (l++m)=m.foldl eR (cD l):=by unfold cD; rw [List.foldl_append]
theorem rF {l:List Str} (h:l.length<=40):eH l=(cD l).2:=by unfold eH; rw [List.take_of_length_le h]
theorem Jv {l:List Str} (h:l.length<=35):∃ t,eH (l++[wFm,wSm])=eH l++t/\eH (l++[wKp,wFm,wSm])=eH (l++[wKp])++t:=by
 have hok:=(xw l).1;rw [rF (l:=l++[wFm,wSm]) (by simp; omega),rF (l:=l) (by omega),rF (l:=l++[wKp,wFm,wSm]) (by simp; omega),rF (l:=l++[wKp]) (by simp; omega),xv,xv,xv]
 generalize cD l=x at *;obtain ⟨r,o⟩:=x;refine ⟨(bP r [[102,105,108,101,115],mM]++[10])++(bP r [[115,104,111,119],mM,[97]]++[10]),?_,?_⟩
 ·simp only [List.foldl_cons,List.foldl_nil,eR,Bd,Bf,List.append_assoc]
 ·simp only [List.foldl_cons,List.foldl_nil,eR,KK,Bd,Bf,List.append_assoc,Ju hok,Jw hok]
theorem vr (p:List Str):∀ x ∈ aa p,∀ d ∈ x,match d with | .sl _ _ _=>False | _=>True:=by
 intro x hx d hd;simp only [aa,List.mem_map] at hx;obtain ⟨i,_,rfl⟩:=hx;simp only [ar,List.mem_singleton] at hd;subst hd; trivial
def yW:Con:={ (Con.fn 62 Str (fun s=>[.sl true 1 (cj s)]) (fun _=>True) (fun _=>.bool true) (fun _=>[])) with need:=jp }
theorem Hq:Has Tryz.prog 5 yW:=by
 refine ah mixed aw (HasL.cons zA (HasL.cons xx (HasL.cons xy HasL.nil))) [0,2,3,4,5,6,7] ((fun a n (_:Nat)=>(fun _=>az) a n)) [] Tryz.func5 (by unfold Tryz.f5; rfl) (fun _=>⟨(),trivial⟩) ?_
 intro (s:Str) _;simp -implicitDefEqProofs [-Bool.exists_bool,yW,pq,np,nl,Con.fn,ag]
 try dsimp only
 refine fun _ h1 y hy hyl=>⟨fun x hx=>by have:=hy x hx; omega,fun _=>⟨fun _ x hx=>by have:=hy x hx; omega,fun h35=>?_⟩⟩
 obtain ⟨t,k1,k2⟩:=Jv (l:=y) (by omega)
 have mem:∀ (w:List Str),(∀ x ∈ w,x.length<=100) -> ∀ x ∈ y++w,x.length<=1048576:=fun w hw x hx=>by
  rcases List.mem_append.1 hx with hx | hx
  ·have:=hy x hx; omega
  ·have:=hw x hx; omega
 have m1:=mem [wFm,wSm] (by simp -implicitDefEqProofs [wFm,wSm])
 have m2:=mem [wKp] (by simp -implicitDefEqProofs [wKp])
 have m3:=mem [wKp,wFm,wSm] (by simp -implicitDefEqProofs [wKp,wFm,wSm])
 refine ⟨vr y,⟨by omega,by omega⟩,⟨by omega,by omega⟩,y++[wFm,wSm],by simp -implicitDefEqProofs [aa,ar,wFm,wSm],m1,vr y,⟨by omega,by omega⟩,⟨by omega,by omega⟩,y++[wKp],by simp -implicitDefEqProofs [aa,ar,wKp],m2,vr y,⟨by omega,by omega⟩,⟨by omega,by omega⟩,y++[wKp,wFm,wSm],by simp -implicitDefEqProofs [aa,ar,wKp,wFm,wSm],m3,?_⟩
 rw [k1,k2];exact ⟨fun h=>⟨h,fun _=>⟨by simp,fun _=>by simp⟩⟩,by simp⟩
end Vx
end Go.Proofs.YthgfdbfmnbgkaaaGreatDoor
