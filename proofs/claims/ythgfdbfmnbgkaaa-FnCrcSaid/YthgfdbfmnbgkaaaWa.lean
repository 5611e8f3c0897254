/-
  Joined by program (merge.py): Base, Rep, Ea, Eb, Ca, Cb, Cc, Ce, Cd, Cf, Cg, Ch, Dh, Wx, Crc, Yd, Ye, Nr, Wy, Wz. It shows what the single texts show; conditions: none but those of each lemma.
-/
import Derived.Test.YthgfdbfmnbgkaaaVc
import Derived.Test.YthgfdbfmnbgkaaaProg
import Derived.KernelRfl
import Derived.WalkKit
import Derived.ProofKit
import Derived.Handy
import Derived.LoopTactic
import Derived.Laws.IdiomStrings
import Derived.Lib.ConvBytes
import Derived.Lib.AtoiErrMem
import Derived.RegionTactic
import Derived.BigRegion
import Derived.ChangeAlike
set_option linter.unusedVariables false
set_option linter.unusedSimpArgs false
set_option linter.unusedSectionVars false
namespace Go.Proofs.Ythgfdbfmnbgkaaa
open Vx
namespace Vx
def au:List (Nat × TI):=[
(3,⟨false,[.int .i64],8,[],0⟩),
(4,⟨false,[.bool],1,[],0⟩),
(9,⟨false,[.str],16,[],0⟩),
(30,⟨false,[.sl 9 1],24,[],9⟩),
(22,⟨false,[.sl 5 1],24,[],5⟩),
(49,⟨false,[.sl 3 1],24,[],3⟩),
(37,⟨true,[.sl 5 1,.int .i64],32,[(22,0),(3,1)],0⟩),
(32,⟨true,[.int .i64,.str,.str,.str,.str,.int .i64,.sl 9 1],104,[(3,0),(9,1),(9,2),(9,3),(9,4),(3,5),(30,6)],0⟩),
 (5,⟨false,[.int .u8],1,[],0⟩)]
theorem aE:∀ t ti,aa au t=some ti->TOk Try.prog t ti:=lV (by kernel_rfl)
theorem mixed:Try.prog.follows .mixedOrders=true:=by kernel_rfl
def aU:Nat->Inv:=fun _=>⟨Unit,fun _=>⟨[],[]⟩,fun _=>True,fun _=>0⟩
theorem sD {α:Type} (f:Nat -> α) (d:Nat) (v:α) (h:Nat):upd f d v h=if h=d then v else f h:=rfl
def mb (e:Nat->Option (Bool × AV)) (m:Nat->Option Blk):Nat->Option (Bool × AV):=fun t=>(e t).map fun p=>(p.1,p.2.wipe m)
def mc (m:Nat->Option Blk):Nat->Option Blk:=fun h=>(m h).map (Blk.wipe m)
theorem s9 (s:St) (m:Nat->Option Blk):s.wipe m=⟨mb s.e m,mc m⟩:=rfl
theorem sY (e:Nat->Option (Bool × AV)) (m:Nat->Option Blk) (t:Nat):mb e m t=(e t).map fun p=>(p.1,p.2.wipe m):=rfl
theorem sZ (m:Nat->Option Blk) (h:Nat):mc m h=(m h).map (Blk.wipe m):=rfl
abbrev Str:=List UInt8
def aB (s:Str):List D:=[.str s]
def ac (l:List Str):List (List D):=l.map aB
structure FileD where
 path:Str
 text:List Str
 deriving DecidableEq,Inhabited
def bz (f:FileD):List D:=[.str f.path,.sl 9 1 (ac f.text)]
def al (l:List FileD):List (List D):=l.map bz
@[simp] theorem eStrs_length (l:List Str):(ac l).length=l.length:=by simp [ac]
@[simp] theorem eStrs_nil:ac []=[]:=rfl
@[simp] theorem eStrs_get (l:List Str) (i:Nat):(ac l)[i]? = l[i]?.map aB:=by simp [ac]
@[simp] theorem eStrs_getElem (l:List Str) (i:Nat) (h:i < (ac l).length):(ac l)[i]=aB (l[i]'(by simpa using h)):=by simp [ac]
@[simp] theorem eStr_inj (a b:Str):(aB a=aB b)=(a=b):=by simp [aB]
@[simp] theorem eStrs_inj (a b:List Str):(ac a=ac b)=(a=b):=by
 apply propext;constructor
 ·intro h;exact List.map_inj_right (fun x y h=>by simpa using h) |>.1 h
 ·rintro rfl; rfl
@[simp] theorem eStrs_eq_nil (a:List Str):(ac a=[])=(a=[]):=by simp [ac]
@[simp] theorem nil_eq_eStrs (a:List Str):([]=ac a)=(a=[]):=by simp [ac,eq_comm]
theorem eO (a b:List Str):ac (a++b)=ac a++ac b:=by simp [ac]
theorem dy (a:List Str) (x:Str):ac a++[[.str x]]=ac (a++[x]):=by simp [ac,aB]
theorem eS (l:List Str) (i:Nat) (s:Str):(ac l).set i [.str s]=ac (l.set i s):=by simp [ac,List.map_set,aB]
theorem eT (l:List Str) (i:Nat):(ac l).take i=ac (l.take i):=by simp [ac]
theorem eP (l:List Str) (i:Nat):(ac l).drop i=ac (l.drop i):=by simp [ac]
theorem eR (n:Nat):List.replicate n [D.str []]=ac (List.replicate n []):=by simp [ac,aB]
@[simp] theorem eStrs_flat (l:List Str):(∀ x ∈ ac l,∀ d ∈ x,dB d)=True:=by
 simp only [eq_iff_iff,iff_true];intro x hx d hd;simp only [ac,List.mem_map] at hx;obtain ⟨s,_,rfl⟩:=hx;simp only [aB,List.mem_singleton] at hd;subst hd;trivial
@[simp] theorem eFiles_length (l:List FileD):(al l).length=l.length:=by simp [al]
@[simp] theorem eFiles_nil:al []=[]:=rfl
@[simp] theorem eFiles_get (l:List FileD) (i:Nat):(al l)[i]? = l[i]?.map bz:=by simp [al]
@[simp] theorem eFiles_getElem (l:List FileD) (i:Nat) (h:i < (al l).length):(al l)[i]=bz (l[i]'(by simpa using h)):=by simp [al]
@[simp] theorem eFile_inj (a b:FileD):(bz a=bz b)=(a=b):=by cases a; cases b; simp [bz]
@[simp] theorem eFiles_inj (a b:List FileD):(al a=al b)=(a=b):=by
 apply propext;constructor
 ·intro h;exact List.map_inj_right (fun x y h=>by simpa using h) |>.1 h
 ·rintro rfl; rfl
@[simp] theorem eFiles_eq_nil (a:List FileD):(al a=[])=(a=[]):=by simp [al]
@[simp] theorem nil_eq_eFiles (a:List FileD):([]=al a)=(a=[]):=by simp [al,eq_comm]
theorem eM (a:List FileD) (p:Str) (t:List Str):al a++[[.str p,.sl 9 1 (ac t)]]=al (a++[⟨p,t⟩]):=by simp [al,bz]
theorem eI (a b:List FileD):al (a++b)=al a++al b:=by simp [al]
theorem eN (l:List FileD) (i:Nat):(al l).take i=al (l.take i):=by simp [al]
theorem eJ (l:List FileD) (i:Nat):(al l).drop i=al (l.drop i):=by simp [al]
theorem eL (l:List FileD) (i:Nat) (p:Str) (t:List Str):(al l).set i [.str p,.sl 9 1 (ac t)]=al (l.set i ⟨p,t⟩):=by simp [al,List.map_set,bz]
theorem eK (n:Nat):List.replicate n [D.str [],.sl 9 1 []]=al (List.replicate n ⟨[],[]⟩):=by simp [al,bz]
@[simp] theorem FileD.eta (f:FileD):(⟨f.path,f.text⟩:FileD)=f:=rfl
@[simp] theorem asStr_str (s:Str):D.asStr (.str s)=s:=rfl
@[simp] theorem asRows_sl (e k:Nat) (r:List (List D)):D.asRows (.sl e k r)=r:=rfl
@[simp] theorem asInt_int (k:IntKind) (n:Int):D.asInt (.int k n)=n:=rfl
@[simp] theorem asBool_bool (b:Bool):D.asBool (.bool b)=b:=rfl
theorem eD (a b:Nat):((a:Int)=(b:Int)+1)=(a=b+1):=by apply propext; omega
theorem eC (a b:Nat):((a:Int)=(b:Int))=(a=b):=by apply propext; omega
theorem eE (a:Nat):((a:Int)=0)=(a=0):=by apply propext; omega
theorem lW {α:Type} {l:List α} {i:Nat} (h:i < l.length):l.take (i+1)=l.take i++[l[i]]:=List.take_succ_eq_append_getElem h
@[simp] theorem getD_nat (l:Str) (i:Nat) (h:i < l.length):l.getD i 0=l[i]:=by simp [List.getD_eq_getElem?_getD,h]
theorem dQ {α:Type} {l:List α} {p:α -> Bool} {i:Nat} (h:i < l.length):(l.take (i+1)).all p=((l.take i).all p && p l[i]):=by rw [lW h,List.all_append]; simp
@[simp] theorem FileD.ex1 (p:Str) (x:List Str) (Q:FileD->Prop):(∃ a:FileD,a.path=p/\a.text=x/\Q a)=Q ⟨p,x⟩:=by
 apply propext;constructor
 ·rintro ⟨⟨a,b⟩,rfl,rfl,h⟩; exact h
 ·intro h; exact ⟨⟨p,x⟩,rfl,rfl,h⟩
@[simp] theorem FileD.ex2 (p:Str) (x:List Str) (Q:FileD->Prop):(∃ a:FileD,(a.path=p/\a.text=x)/\Q a)=Q ⟨p,x⟩:=by
 apply propext;constructor
 ·rintro ⟨⟨a,b⟩,⟨rfl,rfl⟩,h⟩; exact h
 ·intro h; exact ⟨⟨p,x⟩,⟨rfl,rfl⟩,h⟩
/- What unfolds a walk. -/
attribute [simp] sU aK sT sM sL sN sS sQ sR sO ph pi pg oV oW oU o9 pb o8 o5 pd sJ sI pf kR pF sH sF pe pC pD pB pz pA o6 o7 fhB flB bn aV ap AV.sgl ldB bS ck kQ px pc mF mE mC cg mJ sb sa pw pt AV.isSub mD oT pr dK fw bM eu AV.stolen mN mL mK mM pq pm pn po pH pG pI ep oZ oY pj zAV oX o3 td tm tk tj tg th tl ae az aD calm bN cf fG db gu dG e9 eh aM dZ dH aX m4 bF cW ce ci cj de df e8 mvL AV.mv AV.base AV.moved iI fN wrK stK AV.selfOk AV.src TI.flat dT ei St.val St.cond St.fn St.next St.set St.trim s9 sY sZ ej aa cm sD di ai rm bX Oper.hnd Sc.st eZ fS dE ah cu ldL ld1 dA dC dJ dv cE bV dz Out.of dV dn AV.rows AV.one AV.cells AV.deepOk AV.toD ca bZ bK cJ TK.zeroAV TK.zeroD byteOf inR Op.operands Call.operands bE dc cz cU bh cy da c9 cK bJ i0 c7 cI cT rho over dq cQ cC a9 bL bj bR bQ m2 AV.wipe AV.wipeV AV.wipe1 Blk.wipe AV.hs AV.hs.hsL bP Con.start2 Con.pk fO fX gw cM bD Sc.from fe er fk fo cV fa eq fj lm cY gn iV hMk iH jB setRow iE dB aU rW rX pE cN AV.viewed AV.viewed1
end Vx
end Go.Proofs.Ythgfdbfmnbgkaaa
namespace Go.Proofs.Ythgfdbfmnbgkaaa
namespace Vx
def cq (n:Int):List D:=[.int .i64 n]
@[simp] theorem eInt_inj (a b:Int):(cq a=cq b)=(a=b):=by simp [cq]
def aL (l:List Int):List (List D):=l.map cq
@[simp] theorem eInts_length (l:List Int):(aL l).length=l.length:=by simp [aL]
@[simp] theorem eInts_nil:aL []=[]:=rfl
@[simp] theorem eInts_get (l:List Int) (i:Nat):(aL l)[i]? = l[i]?.map cq:=by simp [aL]
@[simp] theorem eInts_getElem (l:List Int) (i:Nat) (h:i < (aL l).length):(aL l)[i]=cq (l[i]'(by simpa using h)):=by simp [aL]
@[simp] theorem eInts_inj (a b:List Int):(aL a=aL b)=(a=b):=by
 apply propext;constructor
 ·intro h;exact List.map_inj_right (fun x y h=>by simpa using h) |>.1 h
 ·rintro rfl; rfl
@[simp] theorem eInts_eq_nil (a:List Int):(aL a=[])=(a=[]):=by simp [aL]
@[simp] theorem nil_eq_eInts (a:List Int):([]=aL a)=(a=[]):=by simp [aL,eq_comm]
@[simp] theorem eInts_flat (l:List Int):(∀ x ∈ aL l,∀ d ∈ x,dB d)=True:=by
 simp only [eq_iff_iff,iff_true];intro x hx d hd;simp only [aL,List.mem_map] at hx;obtain ⟨s,_,rfl⟩:=hx;simp only [cq,List.mem_singleton] at hd;subst hd;trivial
structure HeadD where
 name:Str
 at_:Int
 deriving DecidableEq,Inhabited
def dx (a:HeadD):List D:=[.str a.name,.int .i64 a.at_]
@[simp] theorem eHead_inj (a b:HeadD):(dx a=dx b)=(a=b):=by cases a; cases b; simp [dx]
@[simp] theorem HeadD.eta (a:HeadD):(⟨a.name,a.at_⟩:HeadD)=a:=rfl
@[simp] theorem HeadD.ex1 (x_name:Str) (x_at_:Int) (Q:HeadD->Prop):(∃ a:HeadD,a.name=x_name/\a.at_=x_at_/\Q a)=Q ⟨x_name,x_at_⟩:=by
 apply propext;constructor
 ·rintro ⟨⟨_,_⟩,rfl,rfl,h⟩; exact h
 ·intro h; exact ⟨⟨x_name,x_at_⟩,rfl,rfl,h⟩
@[simp] theorem HeadD.ex2 (x_name:Str) (x_at_:Int) (Q:HeadD->Prop):(∃ a:HeadD,(a.name=x_name/\a.at_=x_at_)/\Q a)=Q ⟨x_name,x_at_⟩:=by
 apply propext;constructor
 ·rintro ⟨⟨_,_⟩,⟨rfl,rfl⟩,h⟩; exact h
 ·intro h; exact ⟨⟨x_name,x_at_⟩,⟨rfl,rfl⟩,h⟩
@[simp] theorem HeadD.ex0 (x_name:Str) (x_at_:Int):(∃ a:HeadD,a.name=x_name/\a.at_=x_at_)=True:=by
 simp only [eq_iff_iff,iff_true];exact ⟨⟨x_name,x_at_⟩,rfl,rfl⟩
def aZ (l:List HeadD):List (List D):=l.map dx
@[simp] theorem eHeads_length (l:List HeadD):(aZ l).length=l.length:=by simp [aZ]
@[simp] theorem eHeads_nil:aZ []=[]:=rfl
@[simp] theorem eHeads_get (l:List HeadD) (i:Nat):(aZ l)[i]? = l[i]?.map dx:=by simp [aZ]
@[simp] theorem eHeads_getElem (l:List HeadD) (i:Nat) (h:i < (aZ l).length):(aZ l)[i]=dx (l[i]'(by simpa using h)):=by simp [aZ]
@[simp] theorem eHeads_inj (a b:List HeadD):(aZ a=aZ b)=(a=b):=by
 apply propext;constructor
 ·intro h;exact List.map_inj_right (fun x y h=>by simpa using h) |>.1 h
 ·rintro rfl; rfl
@[simp] theorem eHeads_eq_nil (a:List HeadD):(aZ a=[])=(a=[]):=by simp [aZ]
@[simp] theorem nil_eq_eHeads (a:List HeadD):([]=aZ a)=(a=[]):=by simp [aZ,eq_comm]
@[simp] theorem eHeads_flat (l:List HeadD):(∀ x ∈ aZ l,∀ d ∈ x,dB d)=True:=by
 simp only [eq_iff_iff,iff_true];intro x hx d hd;simp only [aZ,List.mem_map] at hx;obtain ⟨s,_,rfl⟩:=hx;simp only [dx,List.mem_cons,List.not_mem_nil,or_false] at hd;rcases hd with rfl | rfl <;> trivial
structure CommitD where
 parents:List Int
 who:Str
 tree:List FileD
 deriving DecidableEq,Inhabited
def dY (a:CommitD):List D:=[.sl 3 1 (aL a.parents),.str a.who,.sl 65001 2 (al a.tree)]
@[simp] theorem eCommit_inj (a b:CommitD):(dY a=dY b)=(a=b):=by cases a; cases b; simp [dY]
@[simp] theorem CommitD.eta (a:CommitD):(⟨a.parents,a.who,a.tree⟩:CommitD)=a:=rfl
@[simp] theorem CommitD.ex1 (x_parents:List Int) (x_who:Str) (x_tree:List FileD) (Q:CommitD->Prop):(∃ a:CommitD,a.parents=x_parents/\a.who=x_who/\a.tree=x_tree/\Q a)=Q ⟨x_parents,x_who,x_tree⟩:=by
 apply propext;constructor
 ·rintro ⟨⟨_,_,_⟩,rfl,rfl,rfl,h⟩; exact h
 ·intro h; exact ⟨⟨x_parents,x_who,x_tree⟩,rfl,rfl,rfl,h⟩
@[simp] theorem CommitD.ex2 (x_parents:List Int) (x_who:Str) (x_tree:List FileD) (Q:CommitD->Prop):(∃ a:CommitD,(a.parents=x_parents/\a.who=x_who/\a.tree=x_tree)/\Q a)=Q ⟨x_parents,x_who,x_tree⟩:=by
 apply propext;constructor
 ·rintro ⟨⟨_,_,_⟩,⟨rfl,rfl,rfl⟩,h⟩; exact h
 ·intro h; exact ⟨⟨x_parents,x_who,x_tree⟩,⟨rfl,rfl,rfl⟩,h⟩
@[simp] theorem CommitD.ex0 (x_parents:List Int) (x_who:Str) (x_tree:List FileD):(∃ a:CommitD,a.parents=x_parents/\a.who=x_who/\a.tree=x_tree)=True:=by
 simp only [eq_iff_iff,iff_true];exact ⟨⟨x_parents,x_who,x_tree⟩,rfl,rfl,rfl⟩
def bm (l:List CommitD):List (List D):=l.map dY
@[simp] theorem eCommits_length (l:List CommitD):(bm l).length=l.length:=by simp [bm]
@[simp] theorem eCommits_nil:bm []=[]:=rfl
@[simp] theorem eCommits_get (l:List CommitD) (i:Nat):(bm l)[i]? = l[i]?.map dY:=by simp [bm]
@[simp] theorem eCommits_getElem (l:List CommitD) (i:Nat) (h:i < (bm l).length):(bm l)[i]=dY (l[i]'(by simpa using h)):=by simp [bm]
@[simp] theorem eCommits_inj (a b:List CommitD):(bm a=bm b)=(a=b):=by
 apply propext;constructor
 ·intro h;exact List.map_inj_right (fun x y h=>by simpa using h) |>.1 h
 ·rintro rfl; rfl
@[simp] theorem eCommits_eq_nil (a:List CommitD):(bm a=[])=(a=[]):=by simp [bm]
@[simp] theorem nil_eq_eCommits (a:List CommitD):([]=bm a)=(a=[]):=by simp [bm,eq_comm]
structure RepoD where
 commits:List CommitD
 heads:List HeadD
 deriving DecidableEq,Inhabited
def iB (a:RepoD):List D:=[.sl 65001 3 (bm a.commits),.sl 65001 2 (aZ a.heads)]
@[simp] theorem eRepo_inj (a b:RepoD):(iB a=iB b)=(a=b):=by cases a; cases b; simp [iB]
@[simp] theorem RepoD.eta (a:RepoD):(⟨a.commits,a.heads⟩:RepoD)=a:=rfl
@[simp] theorem RepoD.ex1 (x_commits:List CommitD) (x_heads:List HeadD) (Q:RepoD->Prop):(∃ a:RepoD,a.commits=x_commits/\a.heads=x_heads/\Q a)=Q ⟨x_commits,x_heads⟩:=by
 apply propext;constructor
 ·rintro ⟨⟨_,_⟩,rfl,rfl,h⟩; exact h
 ·intro h; exact ⟨⟨x_commits,x_heads⟩,rfl,rfl,h⟩
@[simp] theorem RepoD.ex2 (x_commits:List CommitD) (x_heads:List HeadD) (Q:RepoD->Prop):(∃ a:RepoD,(a.commits=x_commits/\a.heads=x_heads)/\Q a)=Q ⟨x_commits,x_heads⟩:=by
 apply propext;constructor
 ·rintro ⟨⟨_,_⟩,⟨rfl,rfl⟩,h⟩; exact h
 ·intro h; exact ⟨⟨x_commits,x_heads⟩,⟨rfl,rfl⟩,h⟩
@[simp] theorem RepoD.ex0 (x_commits:List CommitD) (x_heads:List HeadD):(∃ a:RepoD,a.commits=x_commits/\a.heads=x_heads)=True:=by
 simp only [eq_iff_iff,iff_true];exact ⟨⟨x_commits,x_heads⟩,rfl,rfl⟩
end Vx
end Go.Proofs.Ythgfdbfmnbgkaaa
namespace Go.Proofs.Ythgfdbfmnbgkaaa
set_option maxHeartbeats 4000000
namespace Vx
open Go.RowKit
set_option maxRecDepth 8000
def be (b:UInt8):List D:=[.int .u8 b.toNat]
def aq (s:Str):List (List D):=s.map be
@[simp] theorem eBytes_length (l:Str):(aq l).length=l.length:=by simp -implicitDefEqProofs [aq]
@[simp] theorem eBytes_get (l:Str) (i:Nat):(aq l)[i]? = l[i]?.map be:=by simp -implicitDefEqProofs [aq]
theorem oq (l:Str) (i:Nat):(aq l).take i=aq (l.take i):=by simp -implicitDefEqProofs [aq]
@[simp] theorem eByte_inj (a b:UInt8):(be a=be b)=(a=b):=by
 simp only [be,List.cons.injEq,D.int.injEq,true_and,and_true,eq_iff_iff];constructor
 ·intro h; exact UInt8.toNat_inj.1 (by omega)
 ·rintro rfl; rfl
@[simp] theorem eBytes_inj (a b:Str):(aq a=aq b)=(a=b):=by
 apply propext;constructor
 ·intro h;exact List.map_inj_right (fun x y h=>by simpa using h) |>.1 h
 ·rintro rfl; rfl
@[simp] theorem eBytes_all (l:Str) (f:List D->Bool):(aq l).all f=l.all fun b=>f (be b):=by simp -implicitDefEqProofs [aq,Function.comp_def]
theorem dR (l:Str):(l.all fun _=>true)=true:=by simp
abbrev cL (s:Str) (p:Int):Blk:=.box 37 [.sl true 1 (aq s),.int .i64 p]
def ie:Con:=.fn 11 Str (fun s=>[.sl true 1 (aq s)]) (fun _=>True) (fun _=>.ptr 8 0) (fun s=>[(8,cL (s.take 2000) 0)])
theorem qa:Has Try.prog 7 ie:=by
 refine aC mixed aE HasL.nil [0,2] ((fun a n (_:Nat)=>(fun _=>aU) a n)) [] Try.func7 (by unfold Try.f7; rfl) (fun _=>⟨(),trivial⟩) ?_
 intro (s:Str) _;simp -implicitDefEqProofs [ie,Con.fn,au,oq];exact fun _=>⟨fun h=>by omega,fun h=>List.take_of_length_le (by omega)⟩
theorem tv {a b:Int} (h1:0<=a) (h2:a < 4611686018427387904) (h3:0<=b) (h4:b < 4611686018427387904):0<=aQ .xor .i64 a b:=by
 unfold aQ;simp only [];rw [BitVec.toNat_xor,BitVec.toNat_ofInt,BitVec.toNat_ofInt];have e1:(a % ((2 ^ (IntKind.i64).bits:Nat):Int)).toNat < 2 ^ 62:=by
  have:a % ((2 ^ (IntKind.i64).bits:Nat):Int)=a:=Int.emod_eq_of_lt h1 (by show a < (((2:Nat) ^ 64:Nat):Int); omega)
  rw [this]; omega
 have e2:(b % ((2 ^ (IntKind.i64).bits:Nat):Int)).toNat < 2 ^ 62:=by
  have:b % ((2 ^ (IntKind.i64).bits:Nat):Int)=b:=Int.emod_eq_of_lt h3 (by show b < (((2:Nat) ^ 64:Nat):Int); omega)
  rw [this]; omega
 have e3:=Nat.xor_lt_two_pow e1 e2;rw [dL (by simp only [inR]; omega)]
 omega
def eB:Con:={ A:=(Str × Int) × Int,X:=Int,n:=99,args:=fun a=>[.ptr 0 0,.int .i64 a.2],boxes:=fun a=>[(0,37,[.sl true 1 (aq a.1.1),.int .i64 a.1.2])],pre:=fun a=>a.1.1.length<=2000/\0<=a.1.2/\a.1.2<=1073741824/\a.2<=1073741824,post:=fun a x=>(a.2 < 1->x=0)/\(1<=a.2->0<=x/\x < a.2),res:=fun _ x=>.int .i64 x,fin:=fun a _=>[(0,cL a.1.1 (a.1.2+1))],nob:=false }
theorem jc:Has Try.prog 12 eB:=by
 refine aC mixed aE HasL.nil [0,1,4,5,6] ((fun a n (_:Nat)=>(fun _=>aU) a n)) [] Try.func12 (by unfold Try.f12; rfl) (fun a=>⟨(0:Int),fun _=>rfl,fun h=>⟨Int.le_refl 0,by omega⟩⟩) ?_
 intro a ha;obtain ⟨⟨s,p⟩,n⟩:=a;obtain ⟨h1,h2,h3,h4⟩:s.length<=2000/\0<=p/\p<=1073741824/\n<=1073741824:=ha;simp -implicitDefEqProofs [eB,au];have e:∀ q:Int,0<=q->q < s.length -> ∃ b:Nat,b < 256/\Option.map be s[q.toNat]? = some [.int .u8 b]:=fun q a b=>by
  have hq:q.toNat < s.length:=by omega
  exact ⟨s[q.toNat].toNat,s[q.toNat].toNat_lt,by simp -implicitDefEqProofs [List.getElem?_eq_getElem hq,be]⟩
 refine ⟨by omega,fun _ _=>⟨fun a b=>by omega,fun hn _=>⟨fun _ _=>by omega,fun hs=>⟨by omega,fun _ _ _=>⟨fun hp=>?_,fun hp=>?_⟩⟩⟩⟩⟩
 ·obtain ⟨b,hb,eb⟩:=e p h2 hp;have t1:=Int.tmod_nonneg n (a:=(b:Int)) (by omega)
  have t2:=Int.tmod_lt_of_pos (b:Int) (b:=n) (by omega)
  simp -implicitDefEqProofs [eb];omega
 ·have hl:0 < s.length:=List.length_pos_iff.2 hs;have hL:(0:Int) < (s.length:Int):=by omega
  have t1:=Int.tmod_nonneg (s.length:Int) (a:=p) h2;have t2:=Int.tmod_lt_of_pos p hL;have t3:=Int.tmod_nonneg (s.length:Int) (a:=p * 7+3) (by omega)
  have t4:=Int.tmod_lt_of_pos (p * 7+3) hL;have t5:=Int.tdiv_nonneg h2 (Int.le_of_lt hL);have t6:p.tdiv (s.length:Int)<=p:=by
   have:=Int.natAbs_tdiv_le_natAbs p (s.length:Int);omega
  obtain ⟨b1,hb1,eb1⟩:=e _ t1 t2;obtain ⟨b2,hb2,eb2⟩:=e _ t3 t4;simp -implicitDefEqProofs [eb1,eb2];generalize p.tdiv (s.length:Int)=d at t5 t6 ⊢;generalize p.tmod (s.length:Int)=m1 at t1 t2 ⊢;generalize (p * 7+3).tmod (s.length:Int)=m2 at t3 t4 ⊢;have t7:=Int.tdiv_nonneg (a:=(b1 * 131+b2 * 1117+p * 29+d * 53:Int)) (b:=64) (by omega) (by omega)
  have t8:(b1 * 131+b2 * 1117+p * 29+d * 53:Int).tdiv 64<=b1 * 131+b2 * 1117+p * 29+d * 53:=by
   have:=Int.natAbs_tdiv_le_natAbs (b1 * 131+b2 * 1117+p * 29+d * 53:Int) 64;omega
  have t9:=tv (a:=(b1 * 131+b2 * 1117+p * 29+d * 53:Int)) (b:=(b1 * 131+b2 * 1117+p * 29+d * 53:Int).tdiv 64) (by omega) (by omega) (by omega) (by omega)
  generalize (b1 * 131+b2 * 1117+p * 29+d * 53:Int).tdiv 64=y at t7 t8 t9 ⊢;generalize aQ .xor .i64 (b1 * 131+b2 * 1117+p * 29+d * 53:Int) y=z at t9 ⊢;have t10:=Int.tmod_nonneg n t9;have t11:=Int.tmod_lt_of_pos z (b:=n) (by omega)
  clear e eb1 eb2
  repeat' (first | intro _ | apply And.intro)
  all_goals first | omega | assumption | contradiction
theorem kF {α:Type} {d:α} {l:List α} (h:l ≠ []):l.headD d ∈ l:=by
 cases l with
 | nil=>exact absurd rfl h
 | cons x r=>simp
def cOf:Con:={ A:=(Str × Int) × List Str,X:=Str,n:=12,args:=fun a=>[.ptr 0 0,.sl true 1 (ac a.2)],boxes:=fun a=>[(0,37,[.sl true 1 (aq a.1.1),.int .i64 a.1.2])],pre:=fun a=>a.1.1.length<=2000/\0<=a.1.2/\a.1.2<=1073741824/\a.2 ≠ []/\a.2.length<=1073741824,post:=fun a x=>a.2 ≠ []->x ∈ a.2,res:=fun _ x=>.str x,fin:=fun a _=>[(0,cL a.1.1 (a.1.2+1))],nob:=false,kindly:=true }
theorem of_has:Has Try.prog 8 cOf:=by
 refine aC mixed aE (HasL.cons jc HasL.nil) [0,1,4] ((fun a n (_:Nat)=>(fun _=>aU) a n)) [] Try.func8 (by unfold Try.f8; rfl) (fun a=>⟨a.2.headD [],fun h=>kF h⟩) ?_
 intro a ha;obtain ⟨⟨s,p⟩,l⟩:=a;obtain ⟨h1,h2,h3,h4,h5⟩:s.length<=2000/\0<=p/\p<=1073741824/\l ≠ []/\l.length<=1073741824:=ha;have hl:0 < l.length:=List.length_pos_iff.2 h4;simp -implicitDefEqProofs [cOf,eB,au];refine fun _=>⟨s,p,⟨rfl,rfl⟩,⟨h1,h2,h3,by omega⟩,fun y _ hy2=>?_⟩
 obtain ⟨k1,k2⟩:=hy2 (by omega)
 have hk:y.toNat < l.length:=by omega
 have e:Option.map aB l[y.toNat]? = some (aB l[y.toNat]):=by simp -implicitDefEqProofs [List.getElem?_eq_getElem hk]
 simp -implicitDefEqProofs [e,aB,k1,k2]
def ij:Con:={ A:=(Str × Int) × List Int,X:=Int,n:=12,args:=fun a=>[.ptr 0 0,.sl true 1 (aL a.2)],boxes:=fun a=>[(0,37,[.sl true 1 (aq a.1.1),.int .i64 a.1.2])],pre:=fun a=>a.1.1.length<=2000/\0<=a.1.2/\a.1.2<=1073741824/\a.2 ≠ []/\a.2.length<=1073741824,post:=fun a x=>a.2 ≠ []->x ∈ a.2,res:=fun _ x=>.int .i64 x,fin:=fun a _=>[(0,cL a.1.1 (a.1.2+1))],nob:=false,kindly:=true }
theorem one_has:Has Try.prog 25 ij:=by
 refine aC mixed aE (HasL.cons jc HasL.nil) [0,1,4] ((fun a n (_:Nat)=>(fun _=>aU) a n)) [] Try.func25 (by unfold Try.f25; rfl) (fun a=>⟨a.2.headD 0,fun h=>kF h⟩) ?_
 intro a ha;obtain ⟨⟨s,p⟩,l⟩:=a;obtain ⟨h1,h2,h3,h4,h5⟩:s.length<=2000/\0<=p/\p<=1073741824/\l ≠ []/\l.length<=1073741824:=ha;have hl:0 < l.length:=List.length_pos_iff.2 h4;simp -implicitDefEqProofs [ij,eB,au];refine fun _=>⟨s,p,⟨rfl,rfl⟩,⟨h1,h2,h3,by omega⟩,fun y _ hy2=>?_⟩
 obtain ⟨k1,k2⟩:=hy2 (by omega)
 have hk:y.toNat < l.length:=by omega
 have e:Option.map cq l[y.toNat]? = some (cq l[y.toNat]):=by simp -implicitDefEqProofs [List.getElem?_eq_getElem hk]
 simp -implicitDefEqProofs [e,cq,k1,k2]
theorem eQ (b:List Str) (x:Str) (R:List (List D)):(ac b=[D.str x] :: R) = ∃ t,b=x :: t/\ac t=R:=by
 apply propext;constructor
 ·intro h;cases b with
  | nil=>cases h
  | cons y t =>
   simp only [ac,List.map_cons,List.cons.injEq,aB,D.str.injEq,and_true] at h;exact ⟨t,by rw [h.1],h.2⟩
 ·rintro ⟨t,rfl,rfl⟩; rfl
theorem ot (b:List Int) (x:Int) (R:List (List D)):(aL b=[D.int .i64 x] :: R) = ∃ t,b=x :: t/\aL t=R:=by
 apply propext;constructor
 ·intro h;cases b with
  | nil=>cases h
  | cons y t =>
   simp only [aL,List.map_cons,List.cons.injEq,cq,D.int.injEq,true_and,and_true] at h;exact ⟨t,by rw [h.1],h.2⟩
 ·rintro ⟨t,rfl,rfl⟩; rfl
def ii:Con:={ A:=Str × Int,X:=Str,n:=6,args:=fun _=>[.ptr 0 0],boxes:=fun a=>[(0,37,[.sl true 1 (aq a.1),.int .i64 a.2])],pre:=fun a=>a.1.length<=2000/\0<=a.2/\a.2<=1073741824,post:=fun _ x=>x.length<=7,res:=fun _ x=>.str x,fin:=fun a _=>[(0,cL a.1 (a.2+1))],nob:=false }
theorem qj:Has Try.prog 26 ii:=by
 refine aC mixed aE (HasL.cons of_has HasL.nil) [0,2] ((fun a n (_:Nat)=>(fun _=>aU) a n)) [] Try.func26 (by unfold Try.f26; rfl) (fun _=>⟨([]:Str),Nat.zero_le 7⟩) ?_
 intro a ha;obtain ⟨s,p⟩:=a;obtain ⟨h1,h2,h3⟩:s.length<=2000/\0<=p/\p<=1073741824:=ha;simp -implicitDefEqProofs [ii,cOf,au,eQ,clash,kd,be,dR];refine ⟨s,p,⟨rfl,rfl⟩,⟨h1,h2,h3⟩,?_⟩;simp
def im:Con:={ A:=Str × Int,X:=Str,n:=6,args:=fun _=>[.ptr 0 0],boxes:=fun a=>[(0,37,[.sl true 1 (aq a.1),.int .i64 a.2])],pre:=fun a=>a.1.length<=2000/\0<=a.2/\a.2<=1073741824,post:=fun _ x=>x.length<=5,res:=fun _ x=>.str x,fin:=fun a _=>[(0,cL a.1 (a.2+1))],nob:=false }
theorem re:Has Try.prog 16 im:=by
 refine aC mixed aE (HasL.cons of_has HasL.nil) [0,2] ((fun a n (_:Nat)=>(fun _=>aU) a n)) [] Try.func16 (by unfold Try.f16; rfl) (fun _=>⟨([]:Str),Nat.zero_le 5⟩) ?_
 intro a ha;obtain ⟨s,p⟩:=a;obtain ⟨h1,h2,h3⟩:s.length<=2000/\0<=p/\p<=1073741824:=ha;simp -implicitDefEqProofs [im,cOf,au,eQ,clash,kd,be,dR];refine ⟨s,p,⟨rfl,rfl⟩,⟨h1,h2,h3⟩,?_⟩;simp
def io:Con:={ A:=Str × Int,X:=List Str × Int,n:=19,args:=fun _=>[.ptr 0 0],boxes:=fun a=>[(0,37,[.sl true 1 (aq a.1),.int .i64 a.2])],pre:=fun a=>a.1.length<=2000/\0<=a.2/\a.2<=1073741800,post:=fun a x=>x.1.length<=8/\(∀ s ∈ x.1,s.length<=7)/\a.2<=x.2/\x.2<=a.2+9,res:=fun _ x=>.own 8 1 (ac x.1),fin:=fun a x=>[(0,cL a.1 x.2),(8,.own 9 1 true (ac x.1))],nob:=false }
theorem sw:Has Try.prog 17 io:=by
 refine aC mixed aE (HasL.cons one_has (HasL.cons qj HasL.nil)) [0,2,3,4] ((fun a n (_:Nat)=>(fun a _=>⟨List Str × Int × Nat,fun t=>⟨[(0,true,.ptr 0 0),(2,true,.nil),(3,true,.own 9 1 (ac t.1)),(4,true,.int .i64 t.2.2)],[(0,cL a.1 t.2.1),(9,.own 9 1 true (ac t.1))]⟩,fun t=>t.1.length+t.2.2<=8/\(∀ s ∈ t.1,s.length<=7)/\a.2<=t.2.1/\t.2.1<=a.2+1+t.1.length,fun t=>t.2.2⟩) a n)) [] Try.func17 (by unfold Try.f17; rfl) (fun a=>⟨(([]:List Str),a.2),Nat.zero_le 8,(by simp),Int.le_refl _,by omega⟩) ?_
 intro a ha;obtain ⟨s,p⟩:=a;obtain ⟨h1,h2,h3⟩:s.length<=2000/\0<=p/\p<=1073741800:=ha;simp -implicitDefEqProofs [io,ij,ii,au,ot,clash,kd,be,dR];refine ⟨s,p,⟨rfl,rfl⟩,⟨h1,by omega,by omega⟩,?_⟩
 refine ⟨⟨⟨[],p+1,0,by simp; omega⟩,?_⟩,⟨⟨[],p+1,1,by simp; omega⟩,?_⟩,⟨⟨[],p+1,3,by simp; omega⟩,?_⟩,⟨⟨[],p+1,5,by simp; omega⟩,?_⟩,⟨[],p+1,8,by simp; omega⟩,?_⟩
 all_goals
  intro a q n g1 g2 g3 g4;refine ⟨fun hn=>⟨s,q,⟨rfl,rfl⟩,⟨h1,by omega,by omega⟩,fun y hy=>⟨by omega,by omega,fun _ _=>⟨a++[y],q+1,n - 1,⟨⟨(dy a y).symm,by omega⟩,⟨rfl,rfl⟩,dy a y⟩,⟨by simp; omega,fun x hx=>?_,by omega,by simp; omega⟩,by omega⟩⟩⟩,fun hn=>⟨a,q,⟨by omega,g2,by omega,by omega⟩,rfl,rfl,rfl⟩⟩
  rcases List.mem_append.1 hx with hx | hx
  ·exact g2 x hx
  ·simp at hx; subst hx; exact hy
def fP:Con:=.fn 15 (Int × Int × Int) (fun a=>[.int .i64 a.1,.int .i64 a.2.1,.int .i64 a.2.2]) (fun _=>True) (fun a=>.bool (decide (a.2.1<=a.1) && decide (a.1<=a.2.2))) (fun _=>[])
theorem kU:Has Try.prog 22 fP:=by
 refine aC mixed aE HasL.nil [0,1,2,6] ((fun a n (_:Nat)=>(fun _=>aU) a n)) [] Try.func22 (by unfold Try.f22; rfl) (fun _=>⟨(),trivial⟩) ?_
 intro a _;obtain ⟨n,lo,hi⟩:=a;simp -implicitDefEqProofs [fP,Con.fn,au];omega
def jr (n:Int):Bool:=(decide (97<=n) && decide (n<=122)) || (decide (48<=n) && decide (n<=57))
def cG (s:Str):Bool:=decide (1<=s.length) && decide (s.length<=6) && s.all fun b=>jr b.toNat
def fQ:Con:=.fn 35 Str (fun s=>[.str s]) (fun _=>True) (fun s=>.bool (cG s)) (fun _=>[])
theorem kV:Has Try.prog 18 fQ:=by
 refine aC mixed aE (HasL.cons kU HasL.nil) [0,2,3] ((fun a n (_:Nat)=>(fun s _=>⟨Nat,fun i=>⟨[(0,true,.str s),(2,true,.bool false),(3,true,.int .i64 i)],[]⟩,fun i=>i<=s.length/\(s.take i).all (fun b=>jr b.toNat)=true,fun i=>s.length - i⟩) a n)) [] Try.func18 (by unfold Try.f18; rfl) (fun _=>⟨(),trivial⟩) ?_
 intro (s:Str) _;simp -implicitDefEqProofs [fQ,Con.fn,au,fP]
 try dsimp only
 try simp +contextual [aB,bz,eD,eC,eE,List.getElem?_eq_getElem,eS,eL,eR,eK,<- eO,<- eI,eT,eP,eN,eJ,dy,eM,and_assoc]
 repeat' (first | intro _ | apply And.intro)
 all_goals first | omega | grind [dQ,cG,jr,List.take_succ_eq_append_getElem]
def gp (s:Str):Bool:=decide (s.length<=12) && s.all fun b=>decide (32<=b.toNat) && decide (b.toNat<=126)
def ia:Con:=.fn 23 Str (fun s=>[.str s]) (fun _=>True) (fun s=>.bool (gp s)) (fun _=>[])
theorem pY:Has Try.prog 29 ia:=by
 refine aC mixed aE HasL.nil [0,2,3] ((fun a n (_:Nat)=>(fun s _=>⟨Nat,fun i=>⟨[(0,true,.str s),(2,true,.bool false),(3,true,.int .i64 i)],[]⟩,fun i=>i<=s.length/\(s.take i).all (fun b=>decide (32<=b.toNat) && decide (b.toNat<=126))=true,fun i=>s.length - i⟩) a n)) [] Try.func29 (by unfold Try.f29; rfl) (fun _=>⟨(),trivial⟩) ?_
 intro (s:Str) _;simp -implicitDefEqProofs [ia,Con.fn,au]
 try dsimp only
 try simp +contextual [aB,bz,eD,eC,eE,List.getElem?_eq_getElem,eS,eL,eR,eK,<- eO,<- eI,eT,eP,eN,eJ,dy,eM,and_assoc]
 repeat' (first | intro _ | apply And.intro)
 all_goals first | omega | grind [dQ,gp,List.take_succ_eq_append_getElem]
def jk (t:List Str):Bool:=decide (t.length<=10) && t.all gp
def ib:Con:=.fn 19 (List Str) (fun t=>[.sl true 1 (ac t)]) (fun _=>True) (fun t=>.bool (jk t)) (fun _=>[])
theorem pZ:Has Try.prog 28 ib:=by
 refine aC mixed aE (HasL.cons pY HasL.nil) [0,2,3] ((fun a n (_:Nat)=>(fun t _=>⟨Nat,fun i=>⟨[(0,true,.sl true 1 (ac t)),(2,true,.bool false),(3,true,.int .i64 i)],[]⟩,fun i=>i<=t.length/\(t.take i).all gp=true,fun i=>t.length - i⟩) a n)) [] Try.func28 (by unfold Try.f28; rfl) (fun _=>⟨(),trivial⟩) ?_
 intro (t:List Str) _;simp -implicitDefEqProofs [ib,Con.fn,au,ia]
 try dsimp only
 try simp +contextual [aB,bz,eD,eC,eE,List.getElem?_eq_getElem,eS,eL,eR,eK,<- eO,<- eI,eT,eP,eN,eJ,dy,eM,and_assoc]
 repeat' (first | intro _ | apply And.intro)
 all_goals first | omega | grind [dQ,jk,List.take_succ_eq_append_getElem]
abbrev gt (h:Nat) (a:List Str):List (Nat × Blk):=[(h,.own 9 1 true (ac a))]


def bw (b:Int) (most:Nat):Str->Str->Nat->List Str
 | [],c,_=>[c]
 | x :: r,c,n=>if n < most then (if (x.toNat:Int)=b then c :: bw b most r [] (n+1) else bw b most r (c++[x]) n) else [c++x :: r]
theorem n9 {b:Int} {most:Nat} {r c:Str} {n:Nat} (h:most<=n):bw b most r c n=[c++r]:=by
 cases r with
 | nil=>simp [bw]
 | cons x r=>simp [bw,Nat.not_lt.2 h]
def aP (s:Str) (fr i:Nat):Str:=(s.drop fr).take (i - fr)
theorem ri {s:Str} {fr i:Nat} (h:fr<=i):aP s fr i++s.drop i=s.drop fr:=by
 unfold aP;have:s.drop i=(s.drop fr).drop (i - fr):=by rw [List.drop_drop]; congr 1; omega
 rw [this,List.take_append_drop]
theorem rl {s:Str} {fr i:Nat} (h:s.length<=i) (hf:fr<=i):aP s fr i=s.drop fr:=by
 unfold aP;exact List.take_of_length_le (by rw [List.length_drop]; omega)
theorem ro {s:Str} {fr:Nat}:aP s fr fr=[]:=by simp [aP]
theorem rn {s:Str} {fr i:Nat} (h:i < s.length) (hf:fr<=i):aP s fr (i+1)=aP s fr i++[s[i]]:=by
 unfold aP;rw [show i+1 - fr=(i - fr)+1 by omega,List.take_succ_eq_append_getElem (by rw [List.length_drop]; omega)]
 congr 2
 rw [List.getElem_drop]
 congr 1
 omega
theorem oe {b:Int} {most:Nat} {s:Str} {fr i n:Nat} (h:i < s.length) (hf:fr<=i) (hn:n < most) :
  bw b most (s.drop i) (aP s fr i) n=if (s[i].toNat:Int)=b then aP s fr i :: bw b most (s.drop (i+1)) (aP s (i+1) (i+1)) (n+1) else bw b most (s.drop (i+1)) (aP s fr (i+1)) n:=by
 rw [List.drop_eq_getElem_cons h,ro,rn h hf];simp [bw,hn]
theorem oc {b:Int} {most:Nat} {s:Str} {fr i n:Nat} (h:s.length<=i) (hf:fr<=i):bw b most (s.drop i) (aP s fr i) n=[s.drop fr]:=by rw [List.drop_eq_nil_of_le h,<- rl h hf]; rfl
theorem od {b:Int} {most:Nat} {s:Str} {fr i n:Nat} (h:most<=n) (hf:fr<=i):bw b most (s.drop i) (aP s fr i) n=[s.drop fr]:=by rw [n9 h,ri hf]
def cn (s:Str) (b:Int) (most:Nat):List Str:=bw b most s [] 0
theorem rj (s:Str) (fr i:Nat):(s.drop fr).take (i - fr)=aP s fr i:=rfl
theorem rk (s:Str) (fr:Nat):aP s fr s.length=s.drop fr:=by
 unfold aP;exact List.take_of_length_le (by rw [List.length_drop]; omega)
def hJ:Con:=.fn 43 (Str × Int × Nat) (fun a=>[.str a.1,.int .u8 a.2.1,.int .i64 a.2.2]) (fun a=>a.2.2<=1000000) (fun a=>.own 8 1 (ac (cn a.1 a.2.1 a.2.2))) (fun a=>gt 8 (cn a.1 a.2.1 a.2.2))
theorem pU:Has Try.prog 27 hJ:=by
 refine aC mixed aE HasL.nil [0,1,2,6,7,8,9] ((fun a n (_:Nat)=>(fun a _=>⟨List Str × Nat × Nat,fun t=>⟨[(0,true,.str a.1),(1,true,.int .u8 a.2.1),(2,true,.int .i64 a.2.2),(6,true,.nil),(7,true,.own 9 1 (ac t.1)),(8,true,.int .i64 t.2.1),(9,true,.int .i64 t.2.2)],gt 9 t.1⟩,fun t=>t.2.1<=t.2.2/\t.2.2<=a.1.length/\t.1.length<=a.2.2/\t.1++bw a.2.1 a.2.2 (a.1.drop t.2.2) (aP a.1 t.2.1 t.2.2) t.1.length=cn a.1 a.2.1 a.2.2,fun t=>a.1.length - t.2.2⟩) a n)) [] Try.func27 (by unfold Try.f27; rfl) (fun _=>⟨(),trivial⟩) ?_
 intro a ha;obtain ⟨s,b,most⟩:=a;replace ha:most<=1000000:=ha;have hs:bw b most s (aP s 0 0) 0=cn s b most:=rfl;simp -implicitDefEqProofs [hJ,Con.fn,au]
 try dsimp only
 try simp +contextual [aB,bz,eD,eC,eE,List.getElem?_eq_getElem,eS,eL,eR,eK,<- eO,<- eI,eT,eP,eN,eJ,dy,eM,and_assoc,rj,rk]
 repeat' (first | intro _ | apply And.intro)
 all_goals first | omega | grind [dQ,oe,oc,od]
theorem nI (a:Nat):((a:Int)=3)=(a=3):=by apply propext; omega
def dd (s:Str):Bool:=(cn s 47 3).all cG && decide ((cn s 47 3).length<=3)
def ig:Con:=.fn 22 Str (fun s=>[.str s]) (fun _=>True) (fun s=>.bool (dd s)) (fun _=>[])
theorem qb:Has Try.prog 20 ig:=by
 refine aC mixed aE (HasL.cons pU (HasL.cons kV HasL.nil)) [0,2,3,4] ((fun a n (_:Nat)=>(fun s _=>⟨Nat,fun i=>⟨[(2,true,.bool false),(3,true,.own 9 1 (ac (cn s 47 3))),(4,true,.int .i64 i)],gt 9 (cn s 47 3)⟩,fun i=>i<=(cn s 47 3).length/\((cn s 47 3).take i).all cG=true,fun i=>(cn s 47 3).length - i⟩) a n)) [] Try.func20 (by unfold Try.f20; rfl) (fun _=>⟨(),trivial⟩) ?_
 intro (s:Str) _;simp -implicitDefEqProofs [ig,Con.fn,au,hJ,fQ]
 try dsimp only
 try simp +contextual [aB,bz,eD,eC,eE,List.getElem?_eq_getElem,eS,eL,eR,eK,<- eO,<- eI,eT,eP,eN,eJ,dy,eM,and_assoc,nI]
 repeat' (first | intro _ | apply And.intro)
 all_goals first | omega | grind [dQ,dd,List.take_succ_eq_append_getElem]
def co (n:Nat):Str:=if n < 10 then [UInt8.ofNat (48+n)] else [UInt8.ofNat (48+n / 10),UInt8.ofNat (48+n % 10)]
theorem oM {P:Program} {f:Nat} {fn:Func} {code:Code} {k:Con} (hf:P.funcs[f]? = some fn) (hname:(fn.name == "runtime.NumGoroutine")=false) (hb:fn.body=some code) (tot:∀ a,∃ x,k.post a x) (nob:k.nob=true -> ∀ a,k.boxes a=[]) (hp:∀ a,¬ k.pre a) (hbd:k.bld=(0,0,0,0):=by rfl) (hbt:k.bty=[]:=by rfl):Has P f k :=
 ⟨fun args w=>Go.MuLone.run_callFunc_enter hf hname hb args w,tot,nob,fun a ha=>absurd ha (hp a),by rw [hbd]; trivial,.inl hbt⟩
def j5:Con:=.fn 28 Nat (fun n=>[.int .i64 n]) (fun _=>False) (fun n=>.str (co n)) (fun _=>[])
theorem pV:Has Try.prog 24 j5 :=
 oM Try.func24 (by kernel_rfl) (code:=_) (by unfold Try.f24; rfl) (fun _=>⟨(),trivial⟩) (by intro _ _; rfl) (fun _ h=>h)
def hY:Con:=.fn 28 Nat (fun n=>[.int .i64 n]) (fun n=>n < 10) (fun n=>.str (co n)) (fun _=>[])
theorem pW:Has Try.prog 24 hY:=by
 refine aC mixed aE (HasL.cons pV HasL.nil) [0,2] ((fun a n (_:Nat)=>(fun _=>aU) a n)) [] Try.func24 (by unfold Try.f24; rfl) (fun _=>⟨(),trivial⟩) ?_
 intro (n:Nat) (hn:n < 10);simp -implicitDefEqProofs [hY,j5,Con.fn,au];refine ⟨fun h=>absurd h (by omega),fun h=>absurd h (by omega),fun h=>⟨by omega,fun _ _=>⟨by omega,fun _ _=>⟨by omega,fun _=>?_⟩⟩⟩,fun h=>absurd h (by omega)⟩
 rw [show (48+(n:Int)).toNat=48+n by omega]
 simp -implicitDefEqProofs [co,hn]
def hN:Con:=.fn 28 Nat (fun n=>[.int .i64 n]) (fun n=>n < 100) (fun n=>.str (co n)) (fun _=>[])
theorem pX:Has Try.prog 24 hN:=by
 refine aC mixed aE (HasL.cons pW HasL.nil) [0,2] ((fun a n (_:Nat)=>(fun _=>aU) a n)) [] Try.func24 (by unfold Try.f24; rfl) (fun _=>⟨(),trivial⟩) ?_
 intro (n:Nat) (hn:n < 100);simp -implicitDefEqProofs [hN,hY,Con.fn,au];have hm:(n:Int).tmod 10=((n % 10:Nat):Int):=(Int.ofNat_tmod n 10).symm;rw [hm];refine ⟨fun h=>absurd h (by omega),fun h=>absurd h (by omega),fun h=>⟨by omega,fun _ _=>⟨by omega,fun _ _=>⟨by omega,fun _=>?_⟩⟩⟩,fun h=>⟨by omega,fun _ _=>⟨n / 10,by omega,by omega,by omega,fun _ _=>⟨by omega,fun _ _=>⟨by omega,fun _=>?_⟩⟩⟩⟩⟩
 ·rw [show (48+(n:Int)).toNat=48+n by omega]
  simp -implicitDefEqProofs [co,show n < 10 by omega]
 ·have h1:co (n / 10)=[UInt8.ofNat (48+n / 10)]:=by simp -implicitDefEqProofs [co,show n / 10 < 10 by omega]
  rw [h1];refine ⟨by simp -implicitDefEqProofs [maxLen],fun _=>?_⟩
  rw [show (48+((n % 10:Nat):Int)).toNat=48+n % 10 by omega]
  simp -implicitDefEqProofs [co,show ¬ n < 10 by omega]
structure OpD where
 kind:Int
 branch:Str
 who:Str
 path:Str
 to_:Str
 at_:Int
 text:List Str
 deriving DecidableEq,Inhabited
def eOp (a:OpD):List D:=[.int .i64 a.kind,.str a.branch,.str a.who,.str a.path,.str a.to_,.int .i64 a.at_,.sl 9 1 (ac a.text)]
@[simp] theorem eOp_inj (a b:OpD):(eOp a=eOp b)=(a=b):=by cases a; cases b; simp -implicitDefEqProofs [eOp]
@[simp] theorem OpD.eta (a:OpD):(⟨a.kind,a.branch,a.who,a.path,a.to_,a.at_,a.text⟩:OpD)=a:=rfl
@[simp] theorem OpD.ex1 (x_kind:Int) (x_branch:Str) (x_who:Str) (x_path:Str) (x_to_:Str) (x_at_:Int) (x_text:List Str) (Q:OpD->Prop):(∃ a:OpD,a.kind=x_kind/\a.branch=x_branch/\a.who=x_who/\a.path=x_path/\a.to_=x_to_/\a.at_=x_at_/\a.text=x_text/\Q a)=Q ⟨x_kind,x_branch,x_who,x_path,x_to_,x_at_,x_text⟩:=by
 apply propext;constructor
 ·rintro ⟨⟨_,_,_,_,_,_,_⟩,rfl,rfl,rfl,rfl,rfl,rfl,rfl,h⟩; exact h
 ·intro h; exact ⟨⟨x_kind,x_branch,x_who,x_path,x_to_,x_at_,x_text⟩,rfl,rfl,rfl,rfl,rfl,rfl,rfl,h⟩
@[simp] theorem OpD.ex2 (x_kind:Int) (x_branch:Str) (x_who:Str) (x_path:Str) (x_to_:Str) (x_at_:Int) (x_text:List Str) (Q:OpD->Prop):(∃ a:OpD,(a.kind=x_kind/\a.branch=x_branch/\a.who=x_who/\a.path=x_path/\a.to_=x_to_/\a.at_=x_at_/\a.text=x_text)/\Q a)=Q ⟨x_kind,x_branch,x_who,x_path,x_to_,x_at_,x_text⟩:=by
 apply propext;constructor
 ·rintro ⟨⟨_,_,_,_,_,_,_⟩,⟨rfl,rfl,rfl,rfl,rfl,rfl,rfl⟩,h⟩; exact h
 ·intro h; exact ⟨⟨x_kind,x_branch,x_who,x_path,x_to_,x_at_,x_text⟩,⟨rfl,rfl,rfl,rfl,rfl,rfl,rfl⟩,h⟩
@[simp] theorem OpD.ex0 (x_kind:Int) (x_branch:Str) (x_who:Str) (x_path:Str) (x_to_:Str) (x_at_:Int) (x_text:List Str):(∃ a:OpD,a.kind=x_kind/\a.branch=x_branch/\a.who=x_who/\a.path=x_path/\a.to_=x_to_/\a.at_=x_at_/\a.text=x_text)=True:=by
 simp only [eq_iff_iff,iff_true];exact ⟨⟨x_kind,x_branch,x_who,x_path,x_to_,x_at_,x_text⟩,rfl,rfl,rfl,rfl,rfl,rfl,rfl⟩
def bC (l:List OpD):List (List D):=l.map eOp
@[simp] theorem eOps_length (l:List OpD):(bC l).length=l.length:=by simp -implicitDefEqProofs [bC]
@[simp] theorem eOps_nil:bC []=[]:=rfl
@[simp] theorem eOps_get (l:List OpD) (i:Nat):(bC l)[i]? = l[i]?.map eOp:=by simp -implicitDefEqProofs [bC]
@[simp] theorem eOps_getElem (l:List OpD) (i:Nat) (h:i < (bC l).length):(bC l)[i]=eOp (l[i]'(by simpa using h)):=by simp -implicitDefEqProofs [bC]
@[simp] theorem eOps_inj (a b:List OpD):(bC a=bC b)=(a=b):=by
 apply propext;constructor
 ·intro h;exact List.map_inj_right (fun x y h=>by simpa using h) |>.1 h
 ·rintro rfl; rfl
@[simp] theorem eOps_eq_nil (a:List OpD):(bC a=[])=(a=[]):=by simp -implicitDefEqProofs [bC]
@[simp] theorem nil_eq_eOps (a:List OpD):([]=bC a)=(a=[]):=by simp -implicitDefEqProofs [bC,eq_comm]
abbrev vOp (o:OpD):AV:=.agg [.int .i64 o.kind,.str o.branch,.str o.who,.str o.path,.str o.to_,.int .i64 o.at_,.sl true 1 (ac o.text)]
def bOp (o:OpD):Blk:=.box 32 [.int .i64 o.kind,.str o.branch,.str o.who,.str o.path,.str o.to_,.int .i64 o.at_,.sl true 1 (ac o.text)]
def dF (o:OpD) (p t a x:Bool):Bool:=(p || decide (o.path=[])) && (t || decide (o.to_=[])) && (a || decide (o.at_=0)) && (x || decide (o.text=[]))
def bG (s:Str):Bool:=s.all fun b=>decide (b ≠ 124)
def eg (t:List Str):Bool:=t.all bG && jk t
def opB (o:OpD):Bool:=(cG o.branch && cG o.who) &&
 (if o.kind=1 then dF o true false false true && dd o.path && eg o.text
 else if o.kind=2 then dF o true false false false && dd o.path
 else if o.kind=3 then dF o true true false false && dd o.path && dd o.to_
 else if o.kind=4 \/ o.kind=5 then dF o false true false false && cG o.to_
 else if o.kind=6 \/ o.kind=7 then dF o false false true false && (decide (0<=o.at_) && decide (o.at_<=15))
 else false)
def gZ:Con:=.fn 42 (OpD × Bool × Bool × Bool × Bool) (fun a=>[vOp a.1,.bool a.2.1,.bool a.2.2.1,.bool a.2.2.2.1,.bool a.2.2.2.2]) (fun a=>a.1.text.length<=1048576) (fun a=>.bool (dF a.1 a.2.1 a.2.2.1 a.2.2.2.1 a.2.2.2.2)) (fun _=>[])
theorem pN:Has Try.prog 19 gZ:=by
 refine aC mixed aE HasL.nil [0,1,2,3,4,5,10] ((fun a n (_:Nat)=>(fun _=>aU) a n)) [] Try.func19 (by unfold Try.f19; rfl) (fun _=>⟨(),trivial⟩) ?_
 intro a ha;obtain ⟨o,p,t,a,x⟩:=a;replace ha:o.text.length<=1048576:=ha;simp (maxSteps:=8000000) -implicitDefEqProofs [-kStep_move,-Bool.exists_bool,gZ,Con.fn,au];unfold dF;by_cases h1:o.path=[] <;> by_cases h2:o.to_=[] <;> by_cases h3:o.at_=0 <;> by_cases h4:o.text=[] <;> simp -implicitDefEqProofs [h1,h2,h3,h4] <;> cases p <;> cases t <;> cases a <;> cases x <;> simp -implicitDefEqProofs <;> omega
def iT (t:List Str):Inv:=⟨Nat,fun i=>⟨[(0,true,.sl true 1 (ac t)),(2,true,.bool false),(3,true,.int .i64 i)],[]⟩,fun i=>i<=t.length/\(t.take i).all bG=true,fun i=>t.length - i⟩
def iR (t:List Str) (g:Nat):Inv:=⟨Nat,fun k=>⟨[(0,true,.sl true 1 (ac t)),(2,true,.bool false),(3,true,.int .i64 g),(4,true,.int .i64 k)],[]⟩,fun k=>g < t.length/\(t.take g).all bG=true/\k<=(t.getD g []).length/\((t.getD g []).take k).all (fun b=>decide (b ≠ 124))=true,fun k=>(t.getD g []).length - k⟩
def iS (t:List Str) (n g:Nat):Inv:=if n=2 then iT t else iR t g
theorem pO (t g):iS t 2 g=iT t:=rfl
theorem pP (t g):iS t 5 g=iR t g:=rfl
def hC:Con:=.fn 29 (List Str) (fun t=>[.sl true 1 (ac t)]) (fun _=>True) (fun t=>.bool (eg t)) (fun _=>[])
theorem pQ:Has Try.prog 21 hC:=by
 refine aC mixed aE (HasL.cons pZ HasL.nil) [0,2,3,4] (fun t=>iS t) [] Try.func21 (by unfold Try.f21; rfl) (fun _=>⟨(),trivial⟩) ?_
 intro (t:List Str) _;simp -implicitDefEqProofs [hC,ib,Con.fn,au,pO,pP,iT,iR]
 try dsimp only
 have e0:∀ i (h:i < t.length),¬ bG t[i]=true->eg t=false:=fun i h hb=>by
  unfold eg;rw [Bool.and_eq_false_iff]; left
  rw [List.all_eq_false];exact ⟨_,List.getElem_mem h,hb⟩
 refine fun i hi hp _=>⟨fun hlt=>⟨i,⟨0,⟨rfl,rfl⟩,hlt,hp,Nat.zero_le _,by simp⟩,fun k _ _ hk hq=>?_⟩,fun hge=>?_⟩
 ·have e1:=e0 i hlt;have e2:t[i]?.getD []=t[i]:=by simp -implicitDefEqProofs [hlt]
  have qq:Option.map aB t[i]? = some (aB t[i]):=by simp -implicitDefEqProofs [hlt]
  have e3:(t.take (i+1)).all bG=((t.take i).all bG && bG t[i]):=dQ hlt;rw [e2] at hk hq ⊢;rw [qq];generalize t[i]=s at *;simp -implicitDefEqProofs [aB,D.asStr];have hex:∀ h:k < List.length s,s[k]?.getD 0=s[k]:=fun h=>by simp -implicitDefEqProofs [h]
  refine ⟨hlt,fun _ _=>⟨fun hl=>⟨hlt,fun _=>⟨hl,fun _=>?_⟩⟩,fun hg=>⟨⟨by omega,by omega⟩,fun _ _=>⟨i+1,by omega,⟨by omega,?_⟩,by omega⟩⟩⟩⟩
  ·rw [hex hl];have hb:=List.getElem_mem hl;refine ⟨fun hc=>e1 (fun hb2=>?_),fun hc=>⟨⟨by omega,by omega⟩,fun _ _=>⟨k+1,by omega,⟨hlt,‹∀ x ∈ List.take i t,bG x=true›,by omega,fun x hx=>?_⟩,by omega⟩⟩⟩
   ·unfold bG at hb2;have:=List.all_eq_true.1 hb2 _ hb;simp only [ne_eq,decide_not,Bool.not_eq_true',decide_eq_false_iff_not] at this;exact this (UInt8.toNat_inj.1 (by simp; omega))
   ·rw [lW hl] at hx;rcases List.mem_append.1 hx with hx | hx
    ·exact hq x hx
    ·simp only [List.mem_singleton] at hx;subst hx;intro e; rw [e] at hc; exact hc rfl
  ·have hs:bG s=true:=by
    unfold bG;rw [List.all_eq_true];intro x hx;have:=hq x (by rw [List.take_of_length_le hg]; exact hx)
    simp -implicitDefEqProofs [this]
   rw [hs,Bool.and_true] at e3;have hp':(List.take i t).all bG=true:=List.all_eq_true.2 ‹∀ x ∈ List.take i t,bG x=true›;rw [hp'] at e3;exact List.all_eq_true.1 e3
 ·have e:t.take i=t:=List.take_of_length_le hge;rw [e] at hp;unfold eg;rw [List.all_eq_true.2 hp,Bool.true_and]
def hD:Con:=.fn 72 OpD (fun o=>[vOp o]) (fun o=>o.text.length<=1048576) (fun o=>.bool (opB o)) (fun _=>[])
theorem pR:Has Try.prog 13 hD:=by
 refine aC mixed aE (HasL.cons kV (HasL.cons pN (HasL.cons qb (HasL.cons pQ (HasL.cons kU HasL.nil))))) [0,1,2,14,52,62] ((fun a n (_:Nat)=>(fun _=>aU) a n)) [] Try.func13 (by unfold Try.f13; rfl) (fun _=>⟨(),trivial⟩) ?_
 intro (o:OpD) (ha:o.text.length<=1048576);simp (maxSteps:=8000000) -implicitDefEqProofs [-kStep_move,-Bool.exists_bool,hD,fQ,gZ,ig,hC,fP,Con.fn,au,bOp]
 try dsimp only
 simp -implicitDefEqProofs only [and_assoc,exists_eq_left,exists_and_left,OpD.ex1,OpD.eta];have hk:o.kind=1 \/ o.kind=2 \/ o.kind=3 \/ o.kind=4 \/ o.kind=5 \/ o.kind=6 \/ o.kind=7 \/ (¬ o.kind=1 /\ ¬ o.kind=2 /\ ¬ o.kind=3 /\ ¬ o.kind=4 /\ ¬ o.kind=5 /\ ¬ o.kind=6 /\ ¬ o.kind=7):=by omega
 unfold opB;generalize cG o.branch=b1;generalize cG o.who=b2;generalize dd o.path=b3;generalize dd o.to_=b4;generalize cG o.to_=b5;generalize eg o.text=b6;rcases hk with h | h | h | h | h | h | h | h <;> simp -implicitDefEqProofs [h,ha]
 all_goals grind
def gY:Con:={ A:=Str × Int,X:=Str,n:=6,args:=fun _=>[.ptr 0 0],boxes:=fun a=>[(0,37,[.sl true 1 (aq a.1),.int .i64 a.2])],pre:=fun a=>a.1.length<=2000/\0<=a.2/\a.2<=1073741800,post:=fun _ x=>x.length<=4,res:=fun _ x=>.str x,fin:=fun a _=>[(0,cL a.1 (a.2+1))],nob:=false }
theorem np:Has Try.prog 15 gY:=by
 refine aC mixed aE (HasL.cons of_has HasL.nil) [0,2] ((fun a n (_:Nat)=>(fun _=>aU) a n)) [] Try.func15 (by unfold Try.f15; rfl) (fun _=>⟨([]:Str),Nat.zero_le 4⟩) ?_
 intro a ha;obtain ⟨s,p⟩:=a;obtain ⟨h1,h2,h3⟩:s.length<=2000/\0<=p/\p<=1073741800:=ha;simp -implicitDefEqProofs [gY,cOf,au,eQ,clash,kd,be,dR];exact ⟨s,p,⟨rfl,rfl⟩,⟨h1,by omega,by omega⟩,by simp⟩
def eH (o:OpD):Prop:=(1<=o.kind/\o.kind<=7)/\o.branch.length<=4/\o.who.length<=3/\o.path.length<=5/\o.to_.length<=5/\(0<=o.at_/\o.at_<=9)/\o.text.length<=8 /\ ∀ s ∈ o.text,s.length<=7
def ik:Con:={ A:=Str × Int,X:=OpD × Int,n:=63,args:=fun _=>[.ptr 0 0],boxes:=fun a=>[(0,37,[.sl true 1 (aq a.1),.int .i64 a.2])],pre:=fun a=>a.1.length<=2000/\0<=a.2/\a.2<=1073741500,post:=fun a x=>eH x.1/\a.2<=x.2/\x.2<=a.2+20,res:=fun _ x=>.agg [.int .i64 x.1.kind,.str x.1.branch,.str x.1.who,.str x.1.path,.str x.1.to_,.int .i64 x.1.at_,.own 8 1 (ac x.1.text)],fin:=fun a x=>(0,cL a.1 x.2) :: gt 8 x.1.text,nob:=false }
theorem qB:Has Try.prog 10 ik:=by
 refine aC mixed aE (HasL.cons np (HasL.cons of_has (HasL.cons jc (HasL.cons re (HasL.cons sw HasL.nil))))) [0,2,3,11,34,42] ((fun a n (_:Nat)=>(fun _=>aU) a n)) [] Try.func10 (by unfold Try.f10; rfl) (fun a=>⟨((⟨1,[],[],[],[],0,[]⟩:OpD),a.2),(by simp -implicitDefEqProofs [eH]),Int.le_refl _,by omega⟩) ?_
 intro a ha;obtain ⟨s,p⟩:=a;obtain ⟨h1,h2,h3⟩:s.length<=2000/\0<=p/\p<=1073741500:=ha;simp (maxSteps:=8000000) -implicitDefEqProofs [-kStep_move,-Bool.exists_bool,ik,gY,cOf,eB,im,io,au,eQ,clash,kd,be,dR];have fin:∀ (k:Int) (b w pa t:Str) (i:Int) (q:Int),(1<=k/\k<=7)->b.length<=4->w.length<=3->pa.length<=5->t.length<=5->(0<=i/\i<=9)->(p<=q/\q<=p+20) -> ∃ (a:OpD) (c:Int),(eH a/\p<=c/\c<=p+20)/\(a.kind=k/\a.branch=b/\a.who=w/\a.path=pa/\a.to_=t/\a.at_=i/\a.text=[])/\(s=s/\c=q)/\a.text=[] :=
  fun k b w pa t i q h1 h2 h3 h4 h5 h6 h7=>⟨⟨k,b,w,pa,t,i,[]⟩,q,⟨⟨h1,h2,h3,h4,h5,h6,Nat.zero_le _,by simp⟩,h7⟩,⟨rfl,rfl,rfl,rfl,rfl,rfl,rfl⟩,⟨rfl,rfl⟩,rfl⟩
 have fin2:∀ (k:Int) (b w pa t:Str) (i:Int) (l:List Str) (q:Int),(1<=k/\k<=7)->b.length<=4->w.length<=3->pa.length<=5->t.length<=5->(0<=i/\i<=9)->(l.length<=8)->(∀ s ∈ l,s.length<=7)->(p<=q/\q<=p+20) -> ∃ (a:OpD) (c:Int),(eH a/\p<=c/\c<=p+20)/\(a.kind=k/\a.branch=b/\a.who=w/\a.path=pa/\a.to_=t/\a.at_=i/\a.text=l)/\(s=s/\c=q)/\l=a.text :=
  fun k b w pa t i l q h1 h2 h3 h4 h5 h6 g1 g2 h7=>⟨⟨k,b,w,pa,t,i,l⟩,q,⟨⟨h1,h2,h3,h4,h5,h6,g1,g2⟩,h7⟩,⟨rfl,rfl,rfl,rfl,rfl,rfl,rfl⟩,⟨rfl,rfl⟩,rfl⟩
 repeat' (first
  | intro _
  | refine ⟨_,_,⟨rfl,rfl⟩,⟨h1,by omega,by omega⟩,?_⟩
  | exact fin _ _ _ _ _ _ _ (by omega) (by first | assumption | omega | decide) (by first | assumption | omega | decide) (by first | assumption | omega | decide) (by first | assumption | omega | decide) (by omega) (by omega)
  | exact fin2 _ _ _ _ _ _ _ _ (by omega) (by first | assumption | omega | decide) (by first | assumption | omega | decide) (by first | assumption | omega | decide) (by first | assumption | omega | decide) (by omega) (by assumption) (by assumption) (by omega)
  | apply And.intro)
def ee (k:Int):Str:=if k=1 then [115,101,116] else if k=2 then [100,114,111,112] else if k=3 then [109,111,118,101] else if k=4 then [102,111,114,107] else if k=5 then [117,110,105,116,101] else if k=6 then [112,105,99,107] else if k=7 then [98,97,99,107] else []
def br (t:List Str):Str:=(t.map fun l=>124 :: l).flatten
def gx (o:OpD):Str:=if o.kind=1 then o.path++32 :: br o.text else if o.kind=2 then o.path else if o.kind=3 then o.path++32 :: o.to_ else if o.kind=4 \/ o.kind=5 then o.to_ else co o.at_.toNat
def en (o:OpD):Str:=ee o.kind++32 :: (o.branch++32 :: (o.who++32 :: gx o))
def js:List Str:=[[],[115,101,116],[100,114,111,112],[109,111,118,101],[102,111,114,107],[117,110,105,116,101],[112,105,99,107],[98,97,99,107]]
def hI:Con:=.fn 2 Unit (fun _=>[]) (fun _=>True) (fun _=>.sl false 1 (ac js)) (fun _=>[])
theorem pT:Has Try.prog 23 hI:=by
 refine aC mixed aE HasL.nil [0] ((fun a n (_:Nat)=>(fun _=>aU) a n)) [] Try.func23 (by unfold Try.f23; rfl) (fun _=>⟨(),trivial⟩) ?_
 intro _ _;simp -implicitDefEqProofs [hI,Con.fn,au,js,ac,aB]
theorem nh (t:List Str) (l:Str):br (t++[l])=br t++124 :: l:=by simp -implicitDefEqProofs [br]
theorem ni {t:List Str} {i:Nat} (h:i < t.length):br (t.take (i+1))=br (t.take i)++124 :: t[i]:=by rw [List.take_succ_eq_append_getElem h,nh]
theorem gS:∀ {t:List Str} {k:Nat},(∀ l ∈ t,l.length<=k)->(br t).length<=t.length * (k+1)
 | [],k,_=>by simp -implicitDefEqProofs [br]
 | l :: t,k,h=>by
  have e:br (l :: t)=124 :: (l++br t):=rfl;have h1:=gS (t:=t) (k:=k) (fun x hx=>h x (by simp -implicitDefEqProofs [hx]))
  have h2:=h l (by simp)
  rw [e];simp only [List.length_cons,List.length_append];rw [Nat.add_mul]; omega
theorem pM (k:Int):(ee k).length<=5:=by
 unfold ee
 repeat' split
 all_goals decide
theorem iA (n:Nat):(co n).length<=2:=by unfold co; split <;> simp
def eo (o:OpD):Prop:=(1<=o.kind/\o.kind<=7)/\o.branch.length<=20/\o.who.length<=20/\o.path.length<=20/\o.to_.length<=20/\(0<=o.at_/\o.at_<=15)/\o.text.length<=10 /\ ∀ l ∈ o.text,l.length<=12
def hE:Con:=.fn 76 OpD (fun o=>[vOp o]) eo (fun o=>.str (en o)) (fun _=>[])
def el (o:OpD):Str:=ee o.kind++32 :: (o.branch++32 :: (o.who++32 :: (o.path++[32])))
def kT (o:OpD):Inv:=⟨Nat,fun i=>⟨[(1,true,.ptr 10 0),(2,true,.str []),(3,true,.str (el o++br (o.text.take i))),(4,true,.int .i64 i),(19,true,.int .i64 o.kind)],[(10,bOp o)]⟩,fun i=>i<=o.text.length,fun i=>o.text.length - i⟩
theorem pS:Has Try.prog 14 hE:=by
 refine aC mixed aE (HasL.cons pT (HasL.cons pX HasL.nil)) [0,1,2,3,4,19,67] ((fun a n (_:Nat)=>(fun o _=>kT o) a n)) [] Try.func14 (by unfold Try.f14; rfl) (fun _=>⟨(),trivial⟩) ?_
 intro (o:OpD) (ho:eo o);obtain ⟨k,b,w,p,q,a,t⟩:=o;obtain ⟨⟨hk1,hk7⟩,l1,l2,l3,l4,⟨l5,l6⟩,k2,k3⟩:=ho;simp only at hk1 hk7 l1 l2 l3 l4 l5 l6 k2 k3;have hk:k=1 \/ k=2 \/ k=3 \/ k=4 \/ k=5 \/ k=6 \/ k=7:=by omega
 clear hk1 hk7;rcases hk with rfl | rfl | rfl | rfl | rfl | rfl | rfl
 all_goals simp (maxSteps:=8000000) -implicitDefEqProofs [hE,hI,hN,Con.fn,au,bOp,js,ac,aB,D.asStr,maxLen,kT]
 ·have hl:∀ i,(br (t.take i)).length<=130:=fun i=>by
   have:=gS (t:=t.take i) (k:=12) (fun l hl=>k3 l (List.mem_of_mem_take hl));have h3:(t.take i).length<=10:=by rw [List.length_take]; omega
   omega
  have hP:(el ⟨1,b,w,p,q,a,t⟩).length<=70:=by simp -implicitDefEqProofs [el,ee]; omega
  have e:en ⟨1,b,w,p,q,a,t⟩=el ⟨1,b,w,p,q,a,t⟩++br t:=by simp -implicitDefEqProofs [en,el,gx,ee]
  have e0:el ⟨1,b,w,p,q,a,t⟩=115 :: 101 :: 116 :: 32 :: (b++32 :: (w++32 :: (p++[32]))):=rfl
  repeat refine ⟨by omega,fun _=>?_⟩
  refine ⟨⟨0,⟨by rw [e0]; simp -implicitDefEqProofs [br],rfl⟩,Nat.zero_le _⟩,fun i hi _=>⟨fun hlt=>?_,fun hge=>by rw [e,List.take_of_length_le hge]⟩⟩
  have qq:Option.map aB t[i]? = some (aB t[i]):=by simp -implicitDefEqProofs [hlt]
  have q1:=k3 t[i] (List.getElem_mem hlt);have q2:=hl i;have q3:=ni hlt;rw [qq];simp -implicitDefEqProofs [aB];exact ⟨by omega,fun _=>⟨hlt,fun _=>⟨by omega,fun _=>⟨by omega,fun _ _=>⟨i+1,⟨q3,by omega⟩,by omega,by omega⟩⟩⟩⟩⟩
 ·repeat refine ⟨by omega,fun _=>?_⟩
  rfl
 ·repeat refine ⟨by omega,fun _=>?_⟩
  rfl
 ·repeat refine ⟨by omega,fun _=>?_⟩
  rfl
 ·repeat refine ⟨by omega,fun _=>?_⟩
  rfl
 ·have k1:=iA a.toNat
  repeat refine ⟨by omega,fun _=>?_⟩
  exact ⟨a.toNat,by omega,by omega,by omega,fun _=>rfl⟩
 ·have k1:=iA a.toNat
  repeat refine ⟨by omega,fun _=>?_⟩
  exact ⟨a.toNat,by omega,by omega,by omega,fun _=>rfl⟩
theorem ku {o:OpD} (h:eH o):eo o:=by
 obtain ⟨h1,h2,h3,h4,h5,⟨h6,h7⟩,h8,h9⟩:=h;exact ⟨h1,by omega,by omega,by omega,by omega,⟨h6,by omega⟩,by omega,fun l hl=>by have:=h9 l hl; omega⟩
theorem rv {o:OpD} (h:eo o):(en o).length<=400:=by
 obtain ⟨h1,h2,h3,h4,h5,h6,h7,h8⟩:=h;have l0:=pM o.kind;have l3:(gx o).length<=160:=by
  have k2:=gS h8;have k3:=iA o.at_.toNat;unfold gx;split
  ·simp only [List.length_append,List.length_cons]; omega
  ·split
   ·omega
   ·split
    ·simp only [List.length_append,List.length_cons]; omega
    ·split
     ·omega
     ·omega
 unfold en;simp only [List.length_append,List.length_cons];omega
def il:Con:=.fn 8 OpD (fun o=>[vOp o]) eo (fun o=>.str (if opB o=true then en o else [])) (fun _=>[])
theorem qC:Has Try.prog 9 il:=by
 refine aC mixed aE (HasL.cons pR (HasL.cons pS HasL.nil)) [0,1,2] ((fun a n (_:Nat)=>(fun _=>aU) a n)) [] Try.func9 (by unfold Try.f9; rfl) (fun _=>⟨(),trivial⟩) ?_
 intro (o:OpD) (ho:eo o);simp (maxSteps:=8000000) -implicitDefEqProofs [-kStep_move,-Bool.exists_bool,il,hD,hE,Con.fn,au,bOp]
 try dsimp only
 exact ⟨by obtain ⟨_,_,_,_,_,_,h,_⟩:=ho; omega,fun h h2=>absurd h2 (by rw [h]; simp),fun h=>⟨ho,fun h2=>absurd h (by rw [h2]; simp)⟩⟩
end Vx
end Go.Proofs.Ythgfdbfmnbgkaaa
namespace Go.Proofs.Ythgfdbfmnbgkaaa
namespace Vx
def cS (c:Nat):Nat:=if c % 2=1 then (c / 2) ^^^ 3988292384 else c / 2
def cR:Nat->Nat->Nat
 | 0,c=>c
 | n+1,c=>cS (cR n c)
def dX (l:Str):Nat:=l.foldl (fun c b=>cR 8 (c ^^^ b.toNat)) 4294967295
def bl (l:Str):Nat:=dX l ^^^ 4294967295
theorem bv (a b:Nat) (ha:a < 4294967296) (hb:b < 4294967296):a ^^^ b < 4294967296:=Nat.xor_lt_two_pow (n:=32) ha hb
theorem nZ (c:Nat) (h:c < 4294967296):cS c < 4294967296:=by
 unfold cS; split
 ·exact bv _ _ (by omega) (by omega)
 ·omega
theorem c5 (n c:Nat) (h:c < 4294967296):cR n c < 4294967296:=by
 induction n with
 | zero=>exact h
 | succ n ih=>exact nZ _ ih
theorem gE {a b p:Nat} (h:a ^^^ p=b ^^^ p):a=b:=by
 have:=congrArg (· ^^^ p) h
 simpa [Nat.xor_assoc] using this
theorem mf {a b p:Nat} (h:p ^^^ a=p ^^^ b):a=b:=by
 rw [Nat.xor_comm p a,Nat.xor_comm p b] at h;exact gE h
theorem nY {a b:Nat} (ha:a < 4294967296) (hb:b < 4294967296) (h:cS a=cS b):a=b:=by
 have hp:(3988292384:Nat).testBit 31=true:=by decide
 have hz:∀ x,x < 4294967296->(x / 2).testBit 31=false:=fun x hx=>Nat.testBit_lt_two_pow (show x / 2 < 2 ^ 31 by omega)
 have h31:=congrArg (Nat.testBit · 31) h;unfold cS at h h31;by_cases h1:a % 2=1
 ·by_cases h2:b % 2=1
  ·rw [if_pos h1,if_pos h2] at h;have:=gE h;omega
  ·rw [if_pos h1,if_neg h2] at h31;simp only [Nat.testBit_xor,hz a ha,hz b hb,hp] at h31;cases h31
 ·by_cases h2:b % 2=1
  ·rw [if_neg h1,if_pos h2] at h31;simp only [Nat.testBit_xor,hz a ha,hz b hb,hp] at h31;cases h31
  ·rw [if_neg h1,if_neg h2] at h;omega
theorem kp (n:Nat) {a b:Nat} (ha:a < 4294967296) (hb:b < 4294967296) (h:cR n a=cR n b):a=b:=by
 induction n with
 | zero=>exact h
 | succ n ih=>exact ih (nY (c5 n a ha) (c5 n b hb) h)
def bH (l:Str) (c:Nat):Nat:=l.foldl (fun c b=>cR 8 (c ^^^ b.toNat)) c
theorem bu (b:UInt8):b.toNat < 4294967296:=by have:=UInt8.toNat_lt b; omega
theorem iz (l:Str):∀ c,c < 4294967296->bH l c < 4294967296:=by
 induction l with
 | nil=>intro c h; exact h
 | cons b l ih=>intro c h; exact ih _ (c5 _ _ (bv _ _ h (bu b)))
theorem nU (l:Str):∀ {a b:Nat},a < 4294967296->b < 4294967296->bH l a=bH l b->a=b:=by
 induction l with
 | nil=>intro a b _ _ h; exact h
 | cons x l ih =>
  intro a b ha hb h;have h1:=ih (c5 _ _ (bv _ _ ha (bu x))) (c5 _ _ (bv _ _ hb (bu x))) h;exact gE (kp 8 (bv _ _ ha (bu x)) (bv _ _ hb (bu x)) h1)
theorem iy (x y:Str) (c:Nat):bH (x++y) c=bH y (bH x c):=by simp [bH]
theorem nW (l:Str):dX l < 4294967296:=iz l _ (by omega)
theorem n6 {l:Str} {k:Nat} (hk:k < l.length) {b:UInt8} (hb:b ≠ l[k]):dX (l.set k b) ≠ dX l:=by
 intro h;have e1:l.set k b=l.take k++b :: l.drop (k+1):=by rw [List.set_eq_take_append_cons_drop,if_pos hk]
 have e2:l=l.take k++l[k] :: l.drop (k+1):=by rw [<- List.drop_eq_getElem_cons hk,List.take_append_drop]
 have h1:bH (l.take k++b :: l.drop (k+1)) 4294967295=bH (l.take k++l[k] :: l.drop (k+1)) 4294967295:=by rw [<- e1,<- e2]; exact h
 rw [iy,iy] at h1;have hc:=iz (l.take k) 4294967295 (by omega)
 have h2:=nU (l.drop (k+1)) (c5 _ _ (bv _ _ hc (bu b))) (c5 _ _ (bv _ _ hc (bu l[k]))) h1;have h3:=kp 8 (bv _ _ hc (bu b)) (bv _ _ hc (bu l[k])) h2;exact hb (UInt8.toNat_inj.1 (mf h3))
end Vx
end Go.Proofs.Ythgfdbfmnbgkaaa
namespace Go.Proofs.Ythgfdbfmnbgkaaa
namespace Vx
open Go.RowKit
set_option maxRecDepth 8000
theorem me (a b n:Nat) (ha:a < 4294967296) (hb:b < 4294967296) (hn:4294967296<=2 ^ n) :
  (BitVec.ofInt n (a:Int) ^^^ BitVec.ofInt n (b:Int)).toNat=a ^^^ b:=by
 simp [BitVec.toNat_xor,Nat.mod_eq_of_lt (show a < 2 ^ n by omega),Nat.mod_eq_of_lt (show b < 2 ^ n by omega)]
theorem gU {a b:Nat} (ha:a < 4294967296) (hb:b < 4294967296):aQ .xor .i64 (a:Int) (b:Int)=((a ^^^ b:Nat):Int):=by
 have h:=bv a b ha hb
 show IntKind.i64.wrap ((BitVec.ofInt IntKind.i64.bits (a:Int) ^^^ BitVec.ofInt IntKind.i64.bits (b:Int)).toNat:Int)=_
 rw [me a b _ ha hb (show 4294967296<=2 ^ IntKind.i64.bits by decide),IntKind.wrap_i64]; omega
theorem gT {a b:Nat} (ha:a < 4294967296) (hb:b < 4294967296):aQ .xor .u32 (a:Int) (b:Int)=((a ^^^ b:Nat):Int):=by
 have h:=bv a b ha hb
 show IntKind.u32.wrap ((BitVec.ofInt IntKind.u32.bits (a:Int) ^^^ BitVec.ofInt IntKind.u32.bits (b:Int)).toNat:Int)=_
 rw [me a b _ ha hb (show 4294967296<=2 ^ IntKind.u32.bits by decide),IntKind.wrap_u32]; omega
theorem jY {q:Nat} (hq:q < 4294967296):aQ .and .u32 (q:Int) 1=((q % 2:Nat):Int):=by
 have e:(BitVec.ofInt IntKind.u32.bits (q:Int) &&& BitVec.ofInt IntKind.u32.bits 1).toNat=q % 2:=by
  show (BitVec.ofInt 32 (q:Int) &&& BitVec.ofInt 32 1).toNat=q % 2
  rw [BitVec.toNat_and,BitVec.ofInt_natCast,BitVec.toNat_ofNat,Nat.mod_eq_of_lt (by omega)]
  exact Nat.and_one_is_mod q
 show IntKind.u32.wrap ((BitVec.ofInt IntKind.u32.bits (q:Int) &&& BitVec.ofInt IntKind.u32.bits 1).toNat:Int)=_
 rw [e,IntKind.wrap_u32]; omega
def bc (s:Str) (i:Nat):Nat:=bH (s.take i) 4294967295
def aH (s:Str) (i k:Nat):Nat:=cR k (bc s i ^^^ (s.getD i 0).toNat)
theorem eG (s:Str) (i:Nat):bc s i < 4294967296:=iz _ _ (by omega)
theorem ki (s:Str) (i k:Nat):aH s i k < 4294967296:=c5 _ _ (bv _ _ (eG _ _) (bu _))
theorem ke (s:Str):bc s 0=4294967295:=by simp [bc,bH]
theorem kf (s:Str):bc s s.length=dX s:=by simp [bc,bH,dX]
theorem kg {s:Str} {i:Nat} (h:i < s.length):bc s (i+1)=aH s i 8:=by
 unfold bc aH;rw [List.take_succ_eq_append_getElem h,iy]
 show cR 8 (bH (s.take i) 4294967295 ^^^ s[i].toNat)=cR 8 (bc s i ^^^ (s.getD i 0).toNat)
 rw [show s.getD i 0=s[i] by simp [List.getD,List.getElem?_eq_getElem h]]
 rfl
theorem kl (s:Str) (i k:Nat):aH s i (k+1)=cS (aH s i k):=rfl
theorem kj {s:Str} {i k:Nat} (h:aH s i k % 2=1):aH s i (k+1)=(aH s i k / 2) ^^^ 3988292384:=by rw [kl]; unfold cS; rw [if_pos h]
theorem kh {s:Str} {i k:Nat} (h:¬ aH s i k % 2=1):aH s i (k+1)=aH s i k / 2:=by rw [kl]; unfold cS; rw [if_neg h]
theorem n5 (s:Str):bl s < 4294967296:=bv _ _ (nW s) (by omega)
set_option maxHeartbeats 4000000
def fx:List (Nat × TI):=(34,⟨false,[.int .u32],4,[],0⟩) :: au
theorem lU:∀ t ti,aa fx t=some ti->TOk Try.prog t ti:=lV (by kernel_rfl)
def fW (k:IntKind) (s:Str):Inv:=⟨Nat,fun i=>⟨[(0,true,.str s),(2,true,.int .i64 0),(3,true,.int k (bc s i:Nat)),(4,true,.int .i64 i)],[]⟩,fun i=>i<=s.length,fun i=>s.length - i⟩
def fV (k:IntKind) (s:Str) (g:Nat):Inv:=⟨Nat,fun j=>⟨[(0,true,.str s),(2,true,.int .i64 0),(3,true,.int k (aH s g j:Nat)),(4,true,.int .i64 g),(5,true,.int .i64 j)],[]⟩,fun j=>g < s.length/\j<=8,fun j=>8 - j⟩
def fU (k:IntKind) (s:Str) (n g:Nat):Inv:=if n=3 then fW k s else fV k s g
theorem km (k s g):fU k s 3 g=fW k s:=rfl
theorem ko (k s g):fU k s 7 g=fV k s g:=rfl
def ic:Con:=.fn 32 Str (fun s=>[.str s]) (fun s=>s.length<=1073741824) (fun s=>.int .i64 (bl s:Nat)) (fun _=>[])
theorem p9:Has Try.prog 11 ic:=by
 refine aC mixed lU HasL.nil [0,2,3,4,5] (fU .i64) [] Try.func11 (by unfold Try.f11; rfl) (fun _=>⟨(),trivial⟩) ?_
 intro (s:Str) (hs:s.length<=1073741824);simp -implicitDefEqProofs [ic,Con.fn,fx,au,km,ko,fW,fV]
 try dsimp only
 have L:=ki s;have X1:∀ t,aQ .xor .i64 (bc s t:Int) ((s[t]?.getD 0).toNat:Int)=(aH s t 0:Int):=fun t=>by rw [gU (eG s t) (bu _)]; rfl
 have X2:∀ g j,aQ .xor .i64 ((aH s g j:Int) / 2) 3988292384=((aH s g j / 2 ^^^ 3988292384:Nat):Int):=fun g j=>by
  have:=L g j;rw [show ((aH s g j:Int) / 2)=((aH s g j / 2:Nat):Int) by omega,show (3988292384:Int)=((3988292384:Nat):Int) by rfl,gU (by omega) (by omega)]
 have X3:∀ t,aQ .xor .i64 (bc s t:Int) 4294967295=((bc s t ^^^ 4294967295:Nat):Int):=fun t=>by rw [show (4294967295:Int)=((4294967295:Nat):Int) by rfl,gU (eG s t) (by omega)]
 have T:∀ g j,((aH s g j:Nat):Int).tmod 2=((aH s g j % 2:Nat):Int):=fun g j=>(Int.ofNat_tmod _ 2).symm;refine ⟨⟨0,⟨by rw [ke]; rfl,rfl⟩,Nat.zero_le _⟩,fun t ht _=>⟨fun hlt=>⟨hlt,fun _=>⟨by have:=bu (s[t]?.getD 0); omega,fun _=>⟨t,⟨0,⟨(X1 t).symm,rfl,rfl⟩,hlt,by omega⟩,fun j hg hj=>⟨fun hj8=>⟨fun hp=>⟨by have:=L t j; omega,fun _ _=>⟨by omega,fun _ _=>⟨j+1,⟨?_,by omega⟩,⟨hg,by omega⟩,by omega⟩⟩⟩,fun hp=>⟨by have:=L t j; omega,fun _ _=>⟨by omega,fun _ _=>⟨j+1,⟨?_,by omega⟩,⟨hg,by omega⟩,by omega⟩⟩⟩⟩,fun hj8=>⟨by omega,fun _ _=>⟨t+1,⟨?_,by omega⟩,by omega,by omega⟩⟩⟩⟩⟩⟩,fun hge=>?_⟩⟩
 ·rw [T] at hp; rw [X2,kj (by omega)]
 ·rw [T] at hp; rw [kh (by omega)]; omega
 ·rw [kg hlt,show j=8 by omega]
 ·rw [X3,show t=s.length by omega,kf]; rfl
--TAB fx
def j2:Con:=.fn 33 Str (fun s=>[.str s]) (fun s=>s.length<=1073741824) (fun s=>.int .i64 (bl s:Nat)) (fun _=>[])
theorem nV:Has Try.prog 5 j2:=by
 refine aC mixed lU HasL.nil [0,2,3,4,5] (fU .u32) [] Try.func5 (by unfold Try.f5; rfl) (fun _=>⟨(),trivial⟩) ?_
 intro (s:Str) (hs:s.length<=1073741824);simp -implicitDefEqProofs [j2,Con.fn,fx,fx,au,km,ko,fW,fV]
 try dsimp only
 have L:=ki s;have X1:∀ t,aQ .xor .u32 (bc s t:Int) ((s[t]?.getD 0).toNat:Int)=(aH s t 0:Int):=fun t=>by rw [gT (eG s t) (bu _)]; rfl
 have F:∀ g j,((aH s g j:Nat):Int).fdiv (2 ^ min 1 IntKind.u32.bits)=((aH s g j / 2:Nat):Int):=fun g j=>by rw [show ((2:Int) ^ min 1 IntKind.u32.bits)=2 by rfl,Int.fdiv_eq_ediv_of_nonneg _ (by omega)]; omega
 have X2:∀ g j,aQ .xor .u32 ((aH s g j / 2:Nat):Int) 3988292384=((aH s g j / 2 ^^^ 3988292384:Nat):Int):=fun g j=>by
  have:=L g j;rw [show (3988292384:Int)=((3988292384:Nat):Int) by rfl,gT (by omega) (by omega)]
 have X3:∀ t,aQ .xor .u32 (if IntKind.u32.signed=true then -1 else IntKind.u32.max) (bc s t:Int)=((bc s t ^^^ 4294967295:Nat):Int):=fun t=>by rw [show (if IntKind.u32.signed=true then (-1:Int) else IntKind.u32.max)=((4294967295:Nat):Int) by rfl,gT (by omega) (eG s t),Nat.xor_comm]
 refine ⟨⟨0,⟨by rw [ke]; rfl,rfl⟩,Nat.zero_le _⟩,fun t ht _=>⟨fun hlt=>⟨hlt,fun _=>⟨by have:=bu (s[t]?.getD 0); omega,fun _=>⟨t,⟨0,⟨(X1 t).symm,rfl,rfl⟩,hlt,by omega⟩,fun j hg hj=>⟨fun hj8=>⟨fun hp=>⟨by omega,fun _ _=>⟨j+1,⟨?_,by omega⟩,⟨hg,by omega⟩,by omega⟩⟩,fun hp=>⟨by omega,fun _ _=>⟨j+1,⟨?_,by omega⟩,⟨hg,by omega⟩,by omega⟩⟩⟩,fun hj8=>⟨by omega,fun _ _=>⟨t+1,⟨?_,by omega⟩,by omega,by omega⟩⟩⟩⟩⟩⟩,fun hge=>?_⟩⟩
 ·rw [jY (L t j)] at hp; rw [F,X2,kj (by omega)]
 ·rw [jY (L t j)] at hp; rw [F,kh (by omega)]
 ·rw [kg hlt,show j=8 by omega]
 ·rw [X3,show t=s.length by omega,kf]
  have:=n5 s;exact ⟨by show _/\((bl s:Nat):Int)<=_; omega,fun _ _=>rfl⟩
theorem kr:bl [49,50,51,52,53,54,55,56,57]=3421780262:=by decide +kernel
theorem n7:bl []=0:=by decide +kernel
theorem n3 {l:Str} {k:Nat} (hk:k < l.length) {b:UInt8} (hb:b ≠ l[k]):bl (l.set k b) ≠ bl l:=fun h=>n6 hk hb (gE h)
theorem nm (x:UInt8) {m:Nat} (hm:m < 8):x.toNat ^^^ 2 ^ m < 256/\UInt8.ofNat (x.toNat ^^^ 2 ^ m) ≠ x:=by
 have h2:2 ^ m < 256:=by
  have:m=0 \/ m=1 \/ m=2 \/ m=3 \/ m=4 \/ m=5 \/ m=6 \/ m=7:=by omega
  rcases this with rfl | rfl | rfl | rfl | rfl | rfl | rfl | rfl <;> decide
 have h1:x.toNat ^^^ 2 ^ m < 256:=Nat.xor_lt_two_pow (n:=8) (UInt8.toNat_lt x) h2;refine ⟨h1,fun h=>?_⟩;have h3:=congrArg UInt8.toNat h;rw [UInt8.toNat_ofNat',Nat.mod_eq_of_lt h1] at h3;have h4:x.toNat ^^^ 2 ^ m=x.toNat ^^^ 0:=by rw [h3,Nat.xor_zero]
 have h5:=mf h4;have:0 < 2 ^ m:=Nat.pow_pos (by omega)
 omega
def j6:Con:={ cOf with pre:=fun a=>cOf.pre a /\ ∀ w ∈ a.2,w.length<=1000,post:=fun _ x=>x.length<=1000 }
theorem qA:Has Try.prog 8 j6 :=
 ⟨of_has.enter,fun _=>⟨([]:Str),Nat.zero_le _⟩,of_has.nob,fun a h c hk vs β fp h1 h2 h3 h4 S=>(of_has.calls a h.1 c hk vs β fp h1 h2 h3 h4 S).mono fun e w' q=>(let ⟨y,z,q⟩:=q; ⟨y,h.2 y (z h.1.2.2.2.1),q⟩),of_has.bldr,.inl rfl⟩
def j4:Con:={ A:=Str,X:=Str,n:=12,args:=fun s=>[.sl true 1 (aq s)],boxes:=fun _=>[],pre:=fun _=>True,post:=fun _ x=>x.length<=1000,res:=fun _ x=>.str x,fin:=fun _ _=>[] }
theorem og:Has Try.prog 4 j4:=by
 refine aC mixed aE (HasL.cons qa (HasL.cons qB (HasL.cons qC (HasL.cons qA HasL.nil)))) [0,2,3] ((fun a n (_:Nat)=>(fun _=>aU) a n)) [] Try.func4 (by unfold Try.f4; rfl) (fun _=>⟨([]:Str),Nat.zero_le _⟩) ?_
 intro (s:Str) _;simp (maxSteps:=8000000) -implicitDefEqProofs [-kStep_move,-Bool.exists_bool,j4,ie,ik,il,j6,cOf,Con.fn,au,eQ,clash,kd,be,dR]
 try dsimp only
 have hl:(s.take 2000).length<=2000:=by simp; omega
 exact ⟨_,_,⟨rfl,rfl⟩,⟨hl,by omega,by omega⟩,fun o q ho k1 k2=>⟨ku ho,_,_,⟨rfl,rfl⟩,⟨hl,by omega,by omega⟩,by
  have:=rv (ku ho);split
  ·omega
  ·simp⟩⟩
def j3:Con:=.fn 5 Str (fun s=>[.str s]) (fun s=>s.length<=1048576) (fun s=>.int .i64 (bl s)) (fun _=>[])
theorem nX:Has Try.prog 6 j3:=by
 refine aC mixed aE (HasL.cons p9 HasL.nil) [0,2] ((fun a n (_:Nat)=>(fun _=>aU) a n)) [] Try.func6 (by unfold Try.f6; rfl) (fun _=>⟨(),trivial⟩) ?_
 intro (s:Str) hs;simp -implicitDefEqProofs [-Bool.exists_bool,j3,ic,Con.fn,au]
 try dsimp only
 have hs':s.length<=1048576:=hs;omega
theorem i6 {P:Program} {fn:Nat} {k:Con} (HH:Has P fn k) {x:k.A} {W:World} {vs:List Value} {f:List (Nat × Nat)} (hpre:k.pre x) (hb:k.boxes x=[]) (ho:k.owns x=[]) (hl:k.lends=[]) (h:RdArgs W (k.args x) vs f)
  (hlen:vs.length=(k.args x).length) (hn:vs.length<=k.n) (hky:∀ w:World,(∀ b,b < W.heap.size->w.heap[b]? = W.heap[b]?)->k.need w:=by exact fun _ _=>trivial) :
  Calls P fn vs.toArray W fun e w'=>(∃ y v,k.post x y/\e = .returned v /\ ∃ m β c,RelL w' m β c [k.res x y] [v])/\Below W.heap.size W w':=by
 refine (HH.calls x hpre ⟨f,fun b=>b < W.heap.size,W,k.n,[]⟩ hky vs _ _ rfl (by simp -implicitDefEqProofs [Con.pins2,hb,hl]) hlen hn (sd hb ho h hn)).mono ?_
 rintro e w' ⟨y,hy,v,rfl,β',fp',a',S,hv⟩;exact ⟨⟨y,v,hy,rfl,_,_,_,hv⟩,S.os,S.tape,S.output,S.size,fun b hb=>(S.old b hb).2⟩
set_option linter.unusedVariables false
set_option maxRecDepth 8000
theorem oh {W w:World} {s:Str} {o0 n0 c0 fp} (hr:RdArgs w [.sl true 1 (aq s)] [.slice o0 n0 c0] fp) :
  Calls Try.prog 4 #[.slice o0 n0 c0] w fun e w'=>(∃ x:Str,x.length<=1000/\e = .returned (.string ⟨x.toArray⟩))/\Below w.heap.size w w':=by
 refine (i6 og (x:=s) (vs:=[.slice o0 n0 c0]) trivial rfl rfl rfl hr rfl (show (1:Nat)<=12 by decide)).mono ?_
 rintro e w' ⟨⟨y,v,hy,rfl,m,β,c,hv⟩,hb⟩;have hv:RelL w' m β c [.str y] [v]:=hv;cases hv with
 | str h1 _=>exact ⟨⟨y,hy,rfl⟩,hb⟩
theorem fT (w:World) {s:Str} (hs:s.length<=1048576) :
  Calls Try.prog 5 #[.string ⟨s.toArray⟩] w fun e w'=>e = .returned (.int .i64 (bl s:Nat))/\Below w.heap.size w w':=by
 refine (i6 nV (x:=s) (vs:=[.string ⟨s.toArray⟩]) (show s.length<=1073741824 by omega) rfl rfl rfl (.str (by unfold maxLen; omega) .nil) rfl (show (1:Nat)<=33 by decide)).mono ?_
 rintro e w' ⟨⟨y,v,hy,rfl,m,β,c,hv⟩,hb⟩;have hv:RelL w' m β c [.int .i64 (bl s:Nat)] [v]:=hv;cases hv with
 | int _=>exact ⟨rfl,hb⟩
theorem kq (w:World) {s:Str} (hs:s.length<=1048576) :
  Calls Try.prog 6 #[.string ⟨s.toArray⟩] w fun e w'=>e = .returned (.int .i64 (bl s:Nat))/\Below w.heap.size w w':=by
 refine (i6 nX (x:=s) (vs:=[.string ⟨s.toArray⟩]) hs rfl rfl rfl (.str (by unfold maxLen; omega) .nil) rfl (show (1:Nat)<=5 by decide)).mono ?_
 rintro e w' ⟨⟨y,v,hy,rfl,m,β,c,hv⟩,hb⟩;have hv:RelL w' m β c [.int .i64 (bl s:Nat)] [v]:=hv;cases hv with
 | int _=>exact ⟨rfl,hb⟩
theorem tu (a b:Nat) (ha:a < 256) (hb:b < 256):bits .xor .u8 (a:Int) (b:Int)=((a ^^^ b:Nat):Int):=by
 have h:a ^^^ b < 256:=Nat.xor_lt_two_pow (n:=8) ha hb;have e:(BitVec.ofInt 8 (a:Int) ^^^ BitVec.ofInt 8 (b:Int)).toNat=a ^^^ b:=by simp [BitVec.toNat_xor,Nat.mod_eq_of_lt (show a < 2 ^ 8 by omega),Nat.mod_eq_of_lt (show b < 2 ^ 8 by omega)]
 show IntKind.u8.wrap ((BitVec.ofInt 8 (a:Int) ^^^ BitVec.ofInt 8 (b:Int)).toNat:Int)=_
 rw [e,IntKind.wrap_u8]; omega
theorem cD {a b c:World} (h:Below a.heap.size a b) (k:Below b.heap.size b c):Below a.heap.size a c:=h.trans (k.mono h.size)
set_option maxHeartbeats 2000000 in
theorem n8 {W:World} {s m:Str} {o0 o1 c0 c1 fp} (hr:RdArgs W [.sl true 1 (aq s)] [.slice o0 s.length c0] fp) (hs:s.length<=9223372036854775807) (hm:m.length<=9223372036854775807) :
  Calls Try.prog 3 #[.slice o0 s.length c0,.slice o1 m.length c1] W fun e w'=>e = .returned (.bool true)/\Below W.heap.size W w':=by
 go_enter Try.func3,Try.ntmps3
 go_wp2_with fail
 ·go_ret
  exact ⟨rfl,Below.refl _ _⟩
 ·go_call (oh hr) as e w1 ⟨⟨x,hx,rfl⟩,hb1⟩
  go_wp2_with fail
  go_call (fT w1 (s:=x) (by omega)) as e w2 ⟨rfl,hb2⟩
  go_wp2_with fail
  go_call (kq w2 (s:=x) (by omega)) as e w3 ⟨rfl,hb3⟩
  go_wp2_with fail
  go_call (fT w3 (s:=[49,50,51,52,53,54,55,56,57]) (by decide)) as e w4 ⟨rfl,hb4⟩
  rw [kr]
  go_wp2_with fail
  ·go_call (kq w4 (s:=x) (by omega)) as e w5 ⟨rfl,hb5⟩
   go_wp2_with fail
   go_call (fT w5 (s:=[49,50,51,52,53,54,55,56,57]) (by decide)) as e w6 ⟨rfl,hb6⟩
   rw [kr]
   go_wp2_with fail
   have hx0:x=[]:=by simp_all
   rw [hx0,n7]
   go_ret
   exact ⟨rfl,cD (cD (cD (cD (cD hb1 hb2) hb3) hb4) hb5) hb6⟩
  ·have hxp:0 < x.length:=by
    rcases Nat.eq_zero_or_pos x.length with h0 | h0
    ·simp_all
    ·exact h0
   have hz:¬ (x.length:Int)=0:=by omega
   rw [Lib.run_convert_string_bytes (P:=Try.prog) w4 9 22 5 _ Try.underlying9 Try.underlying22 Try.underlying5];simp only [Result.andThen];rw [Oper.upon_value]
   go_wp2_with fail
   ·have hk:(m.length:Int) % (x.length:Int)=((m.length % x.length:Nat):Int):=by omega
    rw [hk];have hkl:=Nat.mod_lt m.length hxp;generalize m.length % x.length=k at *;have hc:=Lib.bytesWorld_cell w4 5 ⟨x.toArray⟩ k (by simpa [ByteArray.size] using hkl)
    have hn5:=Lib.bytesWorld_at_new w4 5 ⟨x.toArray⟩;have hsz:k < (Lib.bytesCells w4 5 ⟨x.toArray⟩).size:=by simp [Lib.bytesCells]; omega
    have hf:(Lib.bytesWorld w4 5 ⟨x.toArray⟩).frozen? ⟨w4.heap.size,k,none⟩=false:=by
     unfold World.frozen?;simp only [hn5];simp; omega
    have h45:Below w4.heap.size w4 (Lib.bytesWorld w4 5 ⟨x.toArray⟩):=Lib.bytesWorld_below _ _ _;have hcs:∀ j,j < x.length->(Lib.bytesWorld w4 5 ⟨x.toArray⟩).cell? ⟨w4.heap.size,j,none⟩=some (.int .u8 (x.getD j 0).toNat):=fun j hj=>Lib.bytesWorld_cell w4 5 ⟨x.toArray⟩ j (by simpa [ByteArray.size] using hj)
    have hs5:=Lib.bytesWorld_size w4 5 ⟨x.toArray⟩;generalize hw5:Lib.bytesWorld w4 5 ⟨x.toArray⟩=w5 at *;have hkl2:(k:Int) < (x.length:Int):=by omega
    go_region
    have hq:m.length % 8 < 8:=Nat.mod_lt _ (by omega)
    obtain ⟨t1,t2⟩:=nm x[k] hq;have hp2:((2:Int) ^ (m.length % 8) % 256)=((2 ^ (m.length % 8):Nat):Int):=by
     generalize m.length % 8=q at hq;have:q=0 \/ q=1 \/ q=2 \/ q=3 \/ q=4 \/ q=5 \/ q=6 \/ q=7:=by omega
     rcases this with rfl | rfl | rfl | rfl | rfl | rfl | rfl | rfl <;> rfl
    have hp3:2 ^ (m.length % 8) < 256:=by
     generalize m.length % 8=q at hq;have:q=0 \/ q=1 \/ q=2 \/ q=3 \/ q=4 \/ q=5 \/ q=6 \/ q=7:=by omega
     rcases this with rfl | rfl | rfl | rfl | rfl | rfl | rfl | rfl <;> decide
    rw [hp2,tu _ _ (UInt8.toNat_lt _) hp3];generalize hb:x[k].toNat ^^^ 2 ^ (m.length % 8)=b at *;have hfl:=n3 (l:=x) hkl t2;have hall:∀ j (hj:j < (x.set k (UInt8.ofNat b)).length),(w5.setCell ⟨w4.heap.size,k,none⟩ (.int .u8 (b:Int))).drew.cell? ((⟨w4.heap.size,0,none⟩:Addr).add j)=some (.int .u8 ((x.set k (UInt8.ofNat b))[j].toNat:Int)):=by
     intro j hj;rw [List.length_set] at hj
     show World.cell? (w5.setCell ⟨w4.heap.size,k,none⟩ (.int .u8 (b:Int))) ((⟨w4.heap.size,0,none⟩:Addr).add j)=_
     have ea:(⟨w4.heap.size,0,none⟩:Addr).add j=⟨w4.heap.size,j,none⟩:=by rw [Addr.add_lit,Nat.zero_add]
     rw [ea,List.getElem_set];by_cases ek:k=j
     ·subst ek;rw [if_pos rfl,World.cell?_setCell_same _ _ _ (hcs k hkl)];rw [UInt8.toNat_ofNat',Nat.mod_eq_of_lt t1]
     ·rw [if_neg ek,World.cell?_setCell_other (w:=w5) (a:=⟨w4.heap.size,k,none⟩) (b:=⟨w4.heap.size,j,none⟩) (h:=fun q=>ek (by cases q; rfl)),hcs j hj]
      simp [List.getD_eq_getElem?_getD,hj]
    go_wp2_with fail
    have hcv:=run_convert_bytes_back (P:=Try.prog) (w5.setCell ⟨w4.heap.size,k,none⟩ (.int .u8 (b:Int))).drew 22 9 5 ⟨w4.heap.size,0,none⟩ (grownCap w4 x.length 0 5) (x.set k (UInt8.ofNat b)) Try.underlying22 Try.underlying5 Try.underlying9 hall;rw [List.length_set] at hcv;rw [hcv];simp only [Result.andThen];rw [Oper.upon_value]
    go_wp2_with fail
    have hxl:(x.set k (UInt8.ofNat b)).length<=1048576:=by rw [List.length_set]; omega
    go_call (fT _ (s:=x.set k (UInt8.ofNat b)) hxl) as e w7 ⟨rfl,hb7⟩
    go_wp2_with fail
    have hne:(((bl (x.set k (UInt8.ofNat b)):Nat):Int) != ((bl x:Nat):Int))=true:=by rw [bne_iff_ne]; omega
    rw [hne]
    go_ret
    have b4:=cD (cD (cD hb1 hb2) hb3) hb4;have b5:=cD b4 h45;have b6:=b5.setCell (p:=⟨w4.heap.size,k,none⟩) b4.size (.int .u8 (b:Int));exact ⟨rfl,cD b6.drew hb7⟩
 ·go_ret
  exact ⟨rfl,Below.refl _ _⟩
end Vx
end Go.Proofs.Ythgfdbfmnbgkaaa
