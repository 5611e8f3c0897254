/-
  Joined by program (merge.py): Base, RowK, Rep, Ea, RowY, RowG, Za, Ca, Cb, Cc, Ce, Cd, Cf, Cg, Ch, Ci, Cj, Lib, Ck, Cl, Pa, Cm, LawA, Cn, Co, Cp, Cq, Cr, Cs, Ct, Ec, Eb, Ef, Cu, Dd, De, La, Lf, Lg, Ma, Md, Mk, Df, Ha, Ia, Ib, Ic, Db, Lb, Lc, Ld, Ed, Mb, Mf. It shows what the single texts show; conditions: none but those of each lemma.
-/
import Derived.Test.YthgfdbfmnbgkaaaGreatDoorVc
import Derived.Test.YthgfdbfmnbgkaaaGreatDoorProg
import Derived.KernelRfl
import Derived.Test.YthgfdbfmnbgkaaaGreatDoorRows
import Derived.Test.YthgfdbfmnbgkaaaGreatDoorCards
import Derived.Test.YthgfdbfmnbgkaaaGreatDoorTie
import Derived.ProofKit
import Derived.OpenShut
import Derived.ShutString
import Derived.Lay
import Derived.LaidMore
import Derived.SevenTiedAt
import Derived.Lib.Walk
import Derived.Lib.Strings
import Derived.Lib.Bytealg
import Derived.Handy
set_option linter.unusedVariables false
set_option linter.unusedSimpArgs false
set_option linter.unusedSectionVars false
namespace Go.Proofs.YthgfdbfmnbgkaaaGreatDoor
open Vx
namespace Vx
def ag:List (Nat × TI):=[
(3,⟨false,[.int .i64],8,[],0⟩),
(4,⟨false,[.bool],1,[],0⟩),
(9,⟨false,[.str],16,[],0⟩),
(22,⟨false,[.sl 9 1],24,[],9⟩),
(28,⟨false,[.sl 5 1],24,[],5⟩),
(119,⟨true,[.str,.sl 9 1],40,[(9,0),(22,1)],0⟩),
(82,⟨false,[.sl 119 2],24,[],119⟩),
(92,⟨false,[.sl 3 1],24,[],3⟩),
(96,⟨true,[.str,.int .i64],24,[(9,0),(3,1)],1⟩),
(33,⟨false,[.sl 96 2],24,[],96⟩),
(94,⟨true,[.sl 3 1,.str,.sl 119 2],64,[(92,0),(9,1),(82,2)],0⟩),
(32,⟨false,[.sl 94 3],24,[],94⟩),
(35,⟨true,[.sl 94 3,.sl 96 2],48,[(32,0),(33,1)],0⟩),
(111,⟨true,[.sl 5 1,.int .i64],32,[(28,0),(3,1)],0⟩),
(70,⟨true,[.int .i64,.str,.str,.str,.str,.int .i64,.sl 9 1],104,[(3,0),(9,1),(9,2),(9,3),(9,4),(3,5),(22,6)],0⟩),
(169,⟨false,[.sl 70 7],24,[],70⟩),
(181,⟨true,[.str,.int .i64],24,[(9,0),(3,1)],1⟩),
(140,⟨false,[.sl 181 2],24,[],181⟩),
(278,⟨true,[.bool,.sl 9 1,.sl 9 1,.sl 9 1,.sl 9 1],104,[(4,0),(22,1),(22,2),(22,3),(22,4)],0⟩),
(258,⟨false,[.sl 278 5],24,[],278⟩),
(213,⟨false,[.sl 92 1],24,[],92⟩),
 (5,⟨false,[.int .u8],1,[],0⟩)]
theorem ap:∀ t ti,ae ag t=some ti->TOk Tryz.prog t ti:=px (by kernel_rfl)
theorem mixed:Tryz.prog.follows .mixedOrders=true:=by kernel_rfl
def aw:Nat->Inv:=fun _=>⟨Unit,fun _=>⟨[],[]⟩,fun _=>True,fun _=>0⟩
theorem Lt {α:Type} (f:Nat -> α) (d:Nat) (v:α) (h:Nat):upd f d v h=if h=d then v else f h:=rfl
def Aw (e:Nat->Option (Bool × AV)) (m:Nat->Option Blk):Nat->Option (Bool × AV):=fun t=>(e t).map fun p=>(p.1,p.2.wipe m)
def Ax (m:Nat->Option Blk):Nat->Option Blk:=fun h=>(m h).map (Blk.wipe m)
theorem LX (s:St) (m:Nat->Option Blk):s.wipe m=⟨Aw s.e m,Ax m⟩:=rfl
theorem LQ (e:Nat->Option (Bool × AV)) (m:Nat->Option Blk) (t:Nat):Aw e m t=(e t).map fun p=>(p.1,p.2.wipe m):=rfl
theorem LR (m:Nat->Option Blk) (h:Nat):Ax m h=(m h).map (Blk.wipe m):=rfl
abbrev Str:=List UInt8
def ak (s:Str):List D:=[.str s]
def aa (l:List Str):List (List D):=l.map ak
structure FileD where
 path:Str
 text:List Str
 deriving DecidableEq,Inhabited
def an (f:FileD):List D:=[.str f.path,.sl 9 1 (aa f.text)]
def ac (l:List FileD):List (List D):=l.map an
@[simp] theorem eStrs_length (l:List Str):(aa l).length=l.length:=by simp [aa]
@[simp] theorem eStrs_nil:aa []=[]:=rfl
@[simp] theorem eStrs_get (l:List Str) (i:Nat):(aa l)[i]? = l[i]?.map ak:=by simp [aa]
@[simp] theorem eStrs_getElem (l:List Str) (i:Nat) (h:i < (aa l).length):(aa l)[i]=ak (l[i]'(by simpa using h)):=by simp [aa]
@[simp] theorem eStr_inj (a b:Str):(ak a=ak b)=(a=b):=by simp [ak]
@[simp] theorem eStrs_inj (a b:List Str):(aa a=aa b)=(a=b):=by
 apply propext;constructor
 ·intro h;exact List.map_inj_right (fun x y h=>by simpa using h) |>.1 h
 ·rintro rfl; rfl
@[simp] theorem eStrs_eq_nil (a:List Str):(aa a=[])=(a=[]):=by simp [aa]
@[simp] theorem nil_eq_eStrs (a:List Str):([]=aa a)=(a=[]):=by simp [aa,eq_comm]
theorem bw (a b:List Str):aa (a++b)=aa a++aa b:=by simp [aa]
theorem aU (a:List Str) (x:Str):aa a++[[.str x]]=aa (a++[x]):=by simp [aa,ak]
theorem bX (l:List Str) (i:Nat) (s:Str):(aa l).set i [.str s]=aa (l.set i s):=by simp [aa,List.map_set,ak]
theorem bj (l:List Str) (i:Nat):(aa l).take i=aa (l.take i):=by simp [aa]
theorem bp (l:List Str) (i:Nat):(aa l).drop i=aa (l.drop i):=by simp [aa]
theorem bN (n:Nat):List.replicate n [D.str []]=aa (List.replicate n []):=by simp [aa,ak]
@[simp] theorem eStrs_flat (l:List Str):(∀ x ∈ aa l,∀ d ∈ x,fL d)=True:=by
 simp only [eq_iff_iff,iff_true];intro x hx d hd;simp only [aa,List.mem_map] at hx;obtain ⟨s,_,rfl⟩:=hx;simp only [ak,List.mem_singleton] at hd;subst hd;trivial
@[simp] theorem eFiles_length (l:List FileD):(ac l).length=l.length:=by simp [ac]
@[simp] theorem eFiles_nil:ac []=[]:=rfl
@[simp] theorem eFiles_get (l:List FileD) (i:Nat):(ac l)[i]? = l[i]?.map an:=by simp [ac]
@[simp] theorem eFiles_getElem (l:List FileD) (i:Nat) (h:i < (ac l).length):(ac l)[i]=an (l[i]'(by simpa using h)):=by simp [ac]
@[simp] theorem eFile_inj (a b:FileD):(an a=an b)=(a=b):=by cases a; cases b; simp [an]
@[simp] theorem eFiles_inj (a b:List FileD):(ac a=ac b)=(a=b):=by
 apply propext;constructor
 ·intro h;exact List.map_inj_right (fun x y h=>by simpa using h) |>.1 h
 ·rintro rfl; rfl
@[simp] theorem eFiles_eq_nil (a:List FileD):(ac a=[])=(a=[]):=by simp [ac]
@[simp] theorem nil_eq_eFiles (a:List FileD):([]=ac a)=(a=[]):=by simp [ac,eq_comm]
theorem bH (a:List FileD) (p:Str) (t:List Str):ac a++[[.str p,.sl 9 1 (aa t)]]=ac (a++[⟨p,t⟩]):=by simp [ac,an]
theorem bS (a b:List FileD):ac (a++b)=ac a++ac b:=by simp [ac]
theorem bW (l:List FileD) (i:Nat):(ac l).take i=ac (l.take i):=by simp [ac]
theorem bT (l:List FileD) (i:Nat):(ac l).drop i=ac (l.drop i):=by simp [ac]
theorem bV (l:List FileD) (i:Nat) (p:Str) (t:List Str):(ac l).set i [.str p,.sl 9 1 (aa t)]=ac (l.set i ⟨p,t⟩):=by simp [ac,List.map_set,an]
theorem bU (n:Nat):List.replicate n [D.str [],.sl 9 1 []]=ac (List.replicate n ⟨[],[]⟩):=by simp [ac,an]
@[simp] theorem FileD.eta (f:FileD):(⟨f.path,f.text⟩:FileD)=f:=rfl
@[simp] theorem asStr_str (s:Str):D.asStr (.str s)=s:=rfl
@[simp] theorem asRows_sl (e k:Nat) (r:List (List D)):D.asRows (.sl e k r)=r:=rfl
@[simp] theorem asInt_int (k:IntKind) (n:Int):D.asInt (.int k n)=n:=rfl
@[simp] theorem asBool_bool (b:Bool):D.asBool (.bool b)=b:=rfl
theorem bP (a b:Nat):((a:Int)=(b:Int)+1)=(a=b+1):=by apply propext; omega
theorem bn (a b:Nat):((a:Int)=(b:Int))=(a=b):=by apply propext; omega
theorem bQ (a:Nat):((a:Int)=0)=(a=0):=by apply propext; omega
theorem bM {α:Type} {l:List α} {i:Nat} (h:i < l.length):l.take (i+1)=l.take i++[l[i]]:=List.take_succ_eq_append_getElem h
@[simp] theorem getD_nat (l:Str) (i:Nat) (h:i < l.length):l.getD i 0=l[i]:=by simp [List.getD_eq_getElem?_getD,h]
theorem cm {α:Type} {l:List α} {p:α -> Bool} {i:Nat} (h:i < l.length):(l.take (i+1)).all p=((l.take i).all p && p l[i]):=by rw [bM h,List.all_append]; simp
theorem lZ {α:Type} {l r:List α} {i:Nat} (h1:i < l.length) (h2:i < r.length) (h:l.take i=r.take i) (he:l[i]=r[i]):l.take (i+1)=r.take (i+1):=by rw [bM h1,bM h2,h,he]
theorem lY {α:Type} {l r:List α} {i:Nat} (h0:l.length=r.length) (h1:l.length<=i) (h:l.take i=r.take i):l=r:=by
 rw [List.take_of_length_le h1,List.take_of_length_le (by omega)] at h
 exact h
theorem FileD.eq_iff (a b:FileD):(a=b)=(a.path=b.path/\a.text=b.text):=by cases a; cases b; simp
@[simp] theorem FileD.ex1 (p:Str) (x:List Str) (Q:FileD->Prop):(∃ a:FileD,a.path=p/\a.text=x/\Q a)=Q ⟨p,x⟩:=by
 apply propext;constructor
 ·rintro ⟨⟨a,b⟩,rfl,rfl,h⟩; exact h
 ·intro h; exact ⟨⟨p,x⟩,rfl,rfl,h⟩
@[simp] theorem FileD.ex2 (p:Str) (x:List Str) (Q:FileD->Prop):(∃ a:FileD,(a.path=p/\a.text=x)/\Q a)=Q ⟨p,x⟩:=by
 apply propext;constructor
 ·rintro ⟨⟨a,b⟩,⟨rfl,rfl⟩,h⟩; exact h
 ·intro h; exact ⟨⟨p,x⟩,⟨rfl,rfl⟩,h⟩
theorem Cv (a:Nat):((a:Int)=1)=(a=1):=by apply propext; omega
/- What unfolds a walk. -/
attribute [simp] LL c5 LK LD LC LE LJ LH LI LF Fd Fe E9 ES ET ER E3 E4 E2 EY E6 LA Lz E8 xT Fv Ly Lw E7 Fs Ft Fq Fo Fp EZ E1 fhB flB ei dE ce AV.sgl ldB fE ge xS Fn E5 AW AU AQ f4 A0 Km Kl Fm Fl AV.isSub AR EQ Fk ke mP fk lw AV.stolen A4 A2 A1 A3 Fj Fg Fh Fi Fx Fw Fy li EW EV Ff zAV EU EX L3 L9 L7 L6 L4 L5 L8 aK cy cG calm fq fZ mX jl oY j8 mz kZ df kL j9 dI m4 eE iO fY fy f9 jo jq mw mvL AV.mv AV.base AV.moved tq nj wrK stK AV.selfOk AV.src TI.flat jI ld St.val St.cond St.fn St.next St.set St.trim LX LQ LR lf ae gg Lt jB bc rm fM Oper.hnd Sc.st mj nW j3 aY gw ldL ld1 jY jZ kb jS gL fK jX Out.of kz jH AV.rows AV.one AV.cells AV.deepOk AV.toD fV fP e8 gX TK.zeroAV TK.zeroD byteOf inR Op.operands Call.operands ew jm gG iE d6 gF jk jj gY eZ uw jd gW iz rho over jJ iu gJ dX e9 d9 fD fC m2 AV.wipe AV.wipeV AV.wipe1 Blk.wipe AV.hs AV.hs.hsL fw Con.start2 Con.pk nk nY pg hJ er Sc.from mJ lk mL mM iJ mI lj mK yP iU oP ue hMk s7 vL setRow nZ fL aw JZ J0 Fu ie AV.viewed AV.viewed1
end Vx
end Go.Proofs.YthgfdbfmnbgkaaaGreatDoor
namespace Go.Proofs.YthgfdbfmnbgkaaaGreatDoor
open Go.ChangeShapes Go.WideShapes Go.ChangeAt Go.RowKit
namespace Vx
theorem y9:ownKnob Tryz.prog.godebug=none:=by kernel_rfl
theorem laidOut:laidOutB Tryz.prog=true:=by kernel_rfl
theorem KH:pz ag=true:=by decide
section
variable {H:Type} {enc:TypeId × Value->H} {W:World} {sp:Nat->Bool} {held:Bool} {r:Reach} {base:Nat}
end
end Vx
end Go.Proofs.YthgfdbfmnbgkaaaGreatDoor
namespace Go.Proofs.YthgfdbfmnbgkaaaGreatDoor
namespace Vx
def aq (n:Int):List D:=[.int .i64 n]
@[simp] theorem eInt_inj (a b:Int):(aq a=aq b)=(a=b):=by simp [aq]
def aj (l:List Int):List (List D):=l.map aq
@[simp] theorem eInts_length (l:List Int):(aj l).length=l.length:=by simp [aj]
@[simp] theorem eInts_nil:aj []=[]:=rfl
@[simp] theorem eInts_get (l:List Int) (i:Nat):(aj l)[i]? = l[i]?.map aq:=by simp [aj]
@[simp] theorem eInts_getElem (l:List Int) (i:Nat) (h:i < (aj l).length):(aj l)[i]=aq (l[i]'(by simpa using h)):=by simp [aj]
@[simp] theorem eInts_inj (a b:List Int):(aj a=aj b)=(a=b):=by
 apply propext;constructor
 ·intro h;exact List.map_inj_right (fun x y h=>by simpa using h) |>.1 h
 ·rintro rfl; rfl
@[simp] theorem eInts_eq_nil (a:List Int):(aj a=[])=(a=[]):=by simp [aj]
@[simp] theorem nil_eq_eInts (a:List Int):([]=aj a)=(a=[]):=by simp [aj,eq_comm]
theorem w3 (a:List Int) (n:Int):aj a++[[.int .i64 n]]=aj (a++[n]):=by simp [aj,aq]
@[simp] theorem eInts_flat (l:List Int):(∀ x ∈ aj l,∀ d ∈ x,fL d)=True:=by
 simp only [eq_iff_iff,iff_true];intro x hx d hd;simp only [aj,List.mem_map] at hx;obtain ⟨s,_,rfl⟩:=hx;simp only [aq,List.mem_singleton] at hd;subst hd;trivial
structure HeadD where
 name:Str
 at_:Int
 deriving DecidableEq,Inhabited
def aW (a:HeadD):List D:=[.str a.name,.int .i64 a.at_]
@[simp] theorem eHead_inj (a b:HeadD):(aW a=aW b)=(a=b):=by cases a; cases b; simp [aW]
@[simp] theorem HeadD.eta (a:HeadD):(⟨a.name,a.at_⟩:HeadD)=a:=rfl
theorem HeadD.eq_iff (a b:HeadD):(a=b)=(a.name=b.name/\a.at_=b.at_):=by cases a; cases b; simp
@[simp] theorem HeadD.ex1 (x_name:Str) (x_at_:Int) (Q:HeadD->Prop):(∃ a:HeadD,a.name=x_name/\a.at_=x_at_/\Q a)=Q ⟨x_name,x_at_⟩:=by
 apply propext;constructor
 ·rintro ⟨⟨_,_⟩,rfl,rfl,h⟩; exact h
 ·intro h; exact ⟨⟨x_name,x_at_⟩,rfl,rfl,h⟩
@[simp] theorem HeadD.ex2 (x_name:Str) (x_at_:Int) (Q:HeadD->Prop):(∃ a:HeadD,(a.name=x_name/\a.at_=x_at_)/\Q a)=Q ⟨x_name,x_at_⟩:=by
 apply propext;constructor
 ·rintro ⟨⟨_,_⟩,⟨rfl,rfl⟩,h⟩; exact h
 ·intro h; exact ⟨⟨x_name,x_at_⟩,⟨rfl,rfl⟩,h⟩
@[simp] theorem HeadD.ex0 (x_name:Str) (x_at_:Int):(∃ a:HeadD,a.name=x_name/\a.at_=x_at_)=True:=by
 simp only [eq_iff_iff,iff_true];exact ⟨⟨x_name,x_at_⟩,rfl,rfl⟩
def ai (l:List HeadD):List (List D):=l.map aW
@[simp] theorem eHeads_length (l:List HeadD):(ai l).length=l.length:=by simp [ai]
@[simp] theorem eHeads_nil:ai []=[]:=rfl
@[simp] theorem eHeads_get (l:List HeadD) (i:Nat):(ai l)[i]? = l[i]?.map aW:=by simp [ai]
@[simp] theorem eHeads_getElem (l:List HeadD) (i:Nat) (h:i < (ai l).length):(ai l)[i]=aW (l[i]'(by simpa using h)):=by simp [ai]
@[simp] theorem eHeads_inj (a b:List HeadD):(ai a=ai b)=(a=b):=by
 apply propext;constructor
 ·intro h;exact List.map_inj_right (fun x y h=>by simpa using h) |>.1 h
 ·rintro rfl; rfl
@[simp] theorem eHeads_eq_nil (a:List HeadD):(ai a=[])=(a=[]):=by simp [ai]
@[simp] theorem nil_eq_eHeads (a:List HeadD):([]=ai a)=(a=[]):=by simp [ai,eq_comm]
theorem wY (a:List HeadD) (s:Str) (n:Int):ai a++[[.str s,.int .i64 n]]=ai (a++[⟨s,n⟩]):=by simp [ai,aW]
theorem wX (l:List HeadD) (i:Nat) (s:Str) (n:Int):(ai l).set i [.str s,.int .i64 n]=ai (l.set i ⟨s,n⟩):=by simp [ai,List.map_set,aW]
@[simp] theorem eHeads_flat (l:List HeadD):(∀ x ∈ ai l,∀ d ∈ x,fL d)=True:=by
 simp only [eq_iff_iff,iff_true];intro x hx d hd;simp only [ai,List.mem_map] at hx;obtain ⟨s,_,rfl⟩:=hx;simp only [aW,List.mem_cons,List.not_mem_nil,or_false] at hd;rcases hd with rfl | rfl <;> trivial
structure CommitD where
 parents:List Int
 who:Str
 tree:List FileD
 deriving DecidableEq,Inhabited
def ba (a:CommitD):List D:=[.sl 3 1 (aj a.parents),.str a.who,.sl 119 2 (ac a.tree)]
@[simp] theorem eCommit_inj (a b:CommitD):(ba a=ba b)=(a=b):=by cases a; cases b; simp [ba]
@[simp] theorem CommitD.eta (a:CommitD):(⟨a.parents,a.who,a.tree⟩:CommitD)=a:=rfl
theorem CommitD.eq_iff (a b:CommitD):(a=b)=(a.parents=b.parents/\a.who=b.who/\a.tree=b.tree):=by cases a; cases b; simp
@[simp] theorem CommitD.ex1 (x_parents:List Int) (x_who:Str) (x_tree:List FileD) (Q:CommitD->Prop):(∃ a:CommitD,a.parents=x_parents/\a.who=x_who/\a.tree=x_tree/\Q a)=Q ⟨x_parents,x_who,x_tree⟩:=by
 apply propext;constructor
 ·rintro ⟨⟨_,_,_⟩,rfl,rfl,rfl,h⟩; exact h
 ·intro h; exact ⟨⟨x_parents,x_who,x_tree⟩,rfl,rfl,rfl,h⟩
@[simp] theorem CommitD.ex2 (x_parents:List Int) (x_who:Str) (x_tree:List FileD) (Q:CommitD->Prop):(∃ a:CommitD,(a.parents=x_parents/\a.who=x_who/\a.tree=x_tree)/\Q a)=Q ⟨x_parents,x_who,x_tree⟩:=by
 apply propext;constructor
 ·rintro ⟨⟨_,_,_⟩,⟨rfl,rfl,rfl⟩,h⟩; exact h
 ·intro h; exact ⟨⟨x_parents,x_who,x_tree⟩,⟨rfl,rfl,rfl⟩,h⟩
@[simp] theorem CommitD.ex0 (x_parents:List Int) (x_who:Str) (x_tree:List FileD):(∃ a:CommitD,a.parents=x_parents/\a.who=x_who/\a.tree=x_tree)=True:=by
 simp only [eq_iff_iff,iff_true];exact ⟨⟨x_parents,x_who,x_tree⟩,rfl,rfl,rfl⟩
def az (l:List CommitD):List (List D):=l.map ba
@[simp] theorem eCommits_length (l:List CommitD):(az l).length=l.length:=by simp [az]
@[simp] theorem eCommits_nil:az []=[]:=rfl
@[simp] theorem eCommits_get (l:List CommitD) (i:Nat):(az l)[i]? = l[i]?.map ba:=by simp [az]
@[simp] theorem eCommits_getElem (l:List CommitD) (i:Nat) (h:i < (az l).length):(az l)[i]=ba (l[i]'(by simpa using h)):=by simp [az]
@[simp] theorem eCommits_inj (a b:List CommitD):(az a=az b)=(a=b):=by
 apply propext;constructor
 ·intro h;exact List.map_inj_right (fun x y h=>by simpa using h) |>.1 h
 ·rintro rfl; rfl
@[simp] theorem eCommits_eq_nil (a:List CommitD):(az a=[])=(a=[]):=by simp [az]
@[simp] theorem nil_eq_eCommits (a:List CommitD):([]=az a)=(a=[]):=by simp [az,eq_comm]
theorem lW (a:List CommitD) (p:List Int) (w:Str) (t:List FileD):az a++[[.sl 3 1 (aj p),.str w,.sl 119 2 (ac t)]]=az (a++[⟨p,w,t⟩]):=by simp [az,ba]
structure RepoD where
 commits:List CommitD
 heads:List HeadD
 deriving DecidableEq,Inhabited
def sM (a:RepoD):List D:=[.sl 94 3 (az a.commits),.sl 96 2 (ai a.heads)]
@[simp] theorem eRepo_inj (a b:RepoD):(sM a=sM b)=(a=b):=by cases a; cases b; simp [sM]
@[simp] theorem RepoD.eta (a:RepoD):(⟨a.commits,a.heads⟩:RepoD)=a:=rfl
theorem RepoD.eq_iff (a b:RepoD):(a=b)=(a.commits=b.commits/\a.heads=b.heads):=by cases a; cases b; simp
@[simp] theorem RepoD.ex1 (x_commits:List CommitD) (x_heads:List HeadD) (Q:RepoD->Prop):(∃ a:RepoD,a.commits=x_commits/\a.heads=x_heads/\Q a)=Q ⟨x_commits,x_heads⟩:=by
 apply propext;constructor
 ·rintro ⟨⟨_,_⟩,rfl,rfl,h⟩; exact h
 ·intro h; exact ⟨⟨x_commits,x_heads⟩,rfl,rfl,h⟩
@[simp] theorem RepoD.ex2 (x_commits:List CommitD) (x_heads:List HeadD) (Q:RepoD->Prop):(∃ a:RepoD,(a.commits=x_commits/\a.heads=x_heads)/\Q a)=Q ⟨x_commits,x_heads⟩:=by
 apply propext;constructor
 ·rintro ⟨⟨_,_⟩,⟨rfl,rfl⟩,h⟩; exact h
 ·intro h; exact ⟨⟨x_commits,x_heads⟩,⟨rfl,rfl⟩,h⟩
@[simp] theorem RepoD.ex0 (x_commits:List CommitD) (x_heads:List HeadD):(∃ a:RepoD,a.commits=x_commits/\a.heads=x_heads)=True:=by
 simp only [eq_iff_iff,iff_true];exact ⟨⟨x_commits,x_heads⟩,rfl,rfl⟩
abbrev bh (r:RepoD):AV:=.agg [.sl true 3 (az r.commits),.sl true 2 (ai r.heads)]
abbrev j7 (h:Nat) (a:List Int):List (Nat × Blk):=[(h,.own 3 1 true (aj a))]
abbrev gD (h:Nat) (a:List HeadD):List (Nat × Blk):=[(h,.own 96 2 true (ai a))]
abbrev iD (h:Nat) (a:List CommitD):List (Nat × Blk):=[(h,.own 94 3 true (az a))]
end Vx
end Go.Proofs.YthgfdbfmnbgkaaaGreatDoor
namespace Go.Proofs.YthgfdbfmnbgkaaaGreatDoor
set_option maxHeartbeats 4000000
namespace Vx
open Go.RowKit
set_option maxRecDepth 8000
def de (b:UInt8):List D:=[.int .u8 b.toNat]
def bR (s:Str):List (List D):=s.map de
@[simp] theorem eBytes_length (l:Str):(bR l).length=l.length:=by simp -implicitDefEqProofs [bR]
@[simp] theorem eBytes_get (l:Str) (i:Nat):(bR l)[i]? = l[i]?.map de:=by simp -implicitDefEqProofs [bR]
theorem Dq (l:Str) (i:Nat):(bR l).take i=bR (l.take i):=by simp -implicitDefEqProofs [bR]
@[simp] theorem eByte_inj (a b:UInt8):(de a=de b)=(a=b):=by
 simp only [de,List.cons.injEq,D.int.injEq,true_and,and_true,eq_iff_iff];constructor
 ·intro h; exact UInt8.toNat_inj.1 (by omega)
 ·rintro rfl; rfl
@[simp] theorem eBytes_inj (a b:Str):(bR a=bR b)=(a=b):=by
 apply propext;constructor
 ·intro h;exact List.map_inj_right (fun x y h=>by simpa using h) |>.1 h
 ·rintro rfl; rfl
@[simp] theorem eBytes_all (l:Str) (f:List D->Bool):(bR l).all f=l.all fun b=>f (de b):=by simp -implicitDefEqProofs [bR,Function.comp_def]
theorem f5 (l:Str):(l.all fun _=>true)=true:=by simp
abbrev dD (s:Str) (p:Int):Blk:=.box 111 [.sl true 1 (bR s),.int .i64 p]
def qU:Con:=.fn 11 Str (fun s=>[.sl true 1 (bR s)]) (fun _=>True) (fun _=>.ptr 8 0) (fun s=>[(8,dD (s.take 2000) 0)])
theorem FX:Has Tryz.prog 31 qU:=by
 refine ah mixed ap HasL.nil [0,2] ((fun a n (_:Nat)=>(fun _=>aw) a n)) [] Tryz.func31 (by unfold Tryz.f31; rfl) (fun _=>⟨(),trivial⟩) ?_
 intro (s:Str) _;simp -implicitDefEqProofs [qU,Con.fn,ag,Dq];exact fun _=>⟨fun h=>by omega,fun h=>List.take_of_length_le (by omega)⟩
theorem Mt {a b:Int} (h1:0<=a) (h2:a < 4611686018427387904) (h3:0<=b) (h4:b < 4611686018427387904):0<=gK .xor .i64 a b:=by
 unfold gK;simp only [];rw [BitVec.toNat_xor,BitVec.toNat_ofInt,BitVec.toNat_ofInt];have e1:(a % ((2 ^ (IntKind.i64).bits:Nat):Int)).toNat < 2 ^ 62:=by
  have:a % ((2 ^ (IntKind.i64).bits:Nat):Int)=a:=Int.emod_eq_of_lt h1 (by show a < (((2:Nat) ^ 64:Nat):Int); omega)
  rw [this]; omega
 have e2:(b % ((2 ^ (IntKind.i64).bits:Nat):Int)).toNat < 2 ^ 62:=by
  have:b % ((2 ^ (IntKind.i64).bits:Nat):Int)=b:=Int.emod_eq_of_lt h3 (by show b < (((2:Nat) ^ 64:Nat):Int); omega)
  rw [this]; omega
 have e3:=Nat.xor_lt_two_pow e1 e2;rw [ki (by simp only [inR]; omega)]
 omega
def ix:Con:={ A:=(Str × Int) × Int,X:=Int,n:=99,args:=fun a=>[.ptr 0 0,.int .i64 a.2],boxes:=fun a=>[(0,111,[.sl true 1 (bR a.1.1),.int .i64 a.1.2])],pre:=fun a=>a.1.1.length<=2000/\0<=a.1.2/\a.1.2<=1073741824/\a.2<=1073741824,post:=fun a x=>(a.2 < 1->x=0)/\(1<=a.2->0<=x/\x < a.2),res:=fun _ x=>.int .i64 x,fin:=fun a _=>[(0,dD a.1.1 (a.1.2+1))],nob:=false }
theorem pick_has:Has Tryz.prog 32 ix:=by
 refine ah mixed ap HasL.nil [0,1,4,5,6] ((fun a n (_:Nat)=>(fun _=>aw) a n)) [] Tryz.func32 (by unfold Tryz.f32; rfl) (fun a=>⟨(0:Int),fun _=>rfl,fun h=>⟨Int.le_refl 0,by omega⟩⟩) ?_
 intro a ha;obtain ⟨⟨s,p⟩,n⟩:=a;obtain ⟨h1,h2,h3,h4⟩:s.length<=2000/\0<=p/\p<=1073741824/\n<=1073741824:=ha;simp -implicitDefEqProofs [ix,ag];have e:∀ q:Int,0<=q->q < s.length -> ∃ b:Nat,b < 256/\Option.map de s[q.toNat]? = some [.int .u8 b]:=fun q a b=>by
  have hq:q.toNat < s.length:=by omega
  exact ⟨s[q.toNat].toNat,s[q.toNat].toNat_lt,by simp -implicitDefEqProofs [List.getElem?_eq_getElem hq,de]⟩
 refine ⟨by omega,fun _ _=>⟨fun a b=>by omega,fun hn _=>⟨fun _ _=>by omega,fun hs=>⟨by omega,fun _ _ _=>⟨fun hp=>?_,fun hp=>?_⟩⟩⟩⟩⟩
 ·obtain ⟨b,hb,eb⟩:=e p h2 hp;have t1:=Int.tmod_nonneg n (a:=(b:Int)) (by omega)
  have t2:=Int.tmod_lt_of_pos (b:Int) (b:=n) (by omega)
  simp -implicitDefEqProofs [eb];omega
 ·have hl:0 < s.length:=List.length_pos_iff.2 hs;have hL:(0:Int) < (s.length:Int):=by omega
  have t1:=Int.tmod_nonneg (s.length:Int) (a:=p) h2;have t2:=Int.tmod_lt_of_pos p hL;have t3:=Int.tmod_nonneg (s.length:Int) (a:=p * 7+3) (by omega)
  have t4:=Int.tmod_lt_of_pos (p * 7+3) hL;have t5:=Int.tdiv_nonneg h2 (Int.le_of_lt hL);have t6:p.tdiv (s.length:Int)<=p:=by
   have:=Int.natAbs_tdiv_le_natAbs p (s.length:Int);omega
  obtain ⟨b1,hb1,eb1⟩:=e _ t1 t2;obtain ⟨b2,hb2,eb2⟩:=e _ t3 t4;simp -implicitDefEqProofs [eb1,eb2];generalize p.tdiv (s.length:Int)=d at t5 t6 ⊢;generalize p.tmod (s.length:Int)=m1 at t1 t2 ⊢;generalize (p * 7+3).tmod (s.length:Int)=m2 at t3 t4 ⊢;have t7:=Int.tdiv_nonneg (a:=(b1 * 131+b2 * 1117+p * 29+d * 53:Int)) (b:=64) (by omega) (by omega)
  have t8:(b1 * 131+b2 * 1117+p * 29+d * 53:Int).tdiv 64<=b1 * 131+b2 * 1117+p * 29+d * 53:=by
   have:=Int.natAbs_tdiv_le_natAbs (b1 * 131+b2 * 1117+p * 29+d * 53:Int) 64;omega
  have t9:=Mt (a:=(b1 * 131+b2 * 1117+p * 29+d * 53:Int)) (b:=(b1 * 131+b2 * 1117+p * 29+d * 53:Int).tdiv 64) (by omega) (by omega) (by omega) (by omega)
  generalize (b1 * 131+b2 * 1117+p * 29+d * 53:Int).tdiv 64=y at t7 t8 t9 ⊢;generalize gK .xor .i64 (b1 * 131+b2 * 1117+p * 29+d * 53:Int) y=z at t9 ⊢;have t10:=Int.tmod_nonneg n t9;have t11:=Int.tmod_lt_of_pos z (b:=n) (by omega)
  clear e eb1 eb2
  repeat' (first | intro _ | apply And.intro)
  all_goals first | omega | assumption | contradiction
theorem xy {α:Type} {d:α} {l:List α} (h:l ≠ []):l.headD d ∈ l:=by
 cases l with
 | nil=>exact absurd rfl h
 | cons x r=>simp
def cOf:Con:={ A:=(Str × Int) × List Str,X:=Str,n:=12,args:=fun a=>[.ptr 0 0,.sl true 1 (aa a.2)],boxes:=fun a=>[(0,111,[.sl true 1 (bR a.1.1),.int .i64 a.1.2])],pre:=fun a=>a.1.1.length<=2000/\0<=a.1.2/\a.1.2<=1073741824/\a.2 ≠ []/\a.2.length<=1073741824,post:=fun a x=>a.2 ≠ []->x ∈ a.2,res:=fun _ x=>.str x,fin:=fun a _=>[(0,dD a.1.1 (a.1.2+1))],nob:=false,kindly:=true }
theorem of_has:Has Tryz.prog 35 cOf:=by
 refine ah mixed ap (HasL.cons pick_has HasL.nil) [0,1,4] ((fun a n (_:Nat)=>(fun _=>aw) a n)) [] Tryz.func35 (by unfold Tryz.f35; rfl) (fun a=>⟨a.2.headD [],fun h=>xy h⟩) ?_
 intro a ha;obtain ⟨⟨s,p⟩,l⟩:=a;obtain ⟨h1,h2,h3,h4,h5⟩:s.length<=2000/\0<=p/\p<=1073741824/\l ≠ []/\l.length<=1073741824:=ha;have hl:0 < l.length:=List.length_pos_iff.2 h4;simp -implicitDefEqProofs [cOf,ix,ag];refine fun _=>⟨s,p,⟨rfl,rfl⟩,⟨h1,h2,h3,by omega⟩,fun y _ hy2=>?_⟩
 obtain ⟨k1,k2⟩:=hy2 (by omega)
 have hk:y.toNat < l.length:=by omega
 have e:Option.map ak l[y.toNat]? = some (ak l[y.toNat]):=by simp -implicitDefEqProofs [List.getElem?_eq_getElem hk]
 simp -implicitDefEqProofs [e,ak,k1,k2]
def nK:Con:={ A:=(Str × Int) × List Int,X:=Int,n:=12,args:=fun a=>[.ptr 0 0,.sl true 1 (aj a.2)],boxes:=fun a=>[(0,111,[.sl true 1 (bR a.1.1),.int .i64 a.1.2])],pre:=fun a=>a.1.1.length<=2000/\0<=a.1.2/\a.1.2<=1073741824/\a.2 ≠ []/\a.2.length<=1073741824,post:=fun a x=>a.2 ≠ []->x ∈ a.2,res:=fun _ x=>.int .i64 x,fin:=fun a _=>[(0,dD a.1.1 (a.1.2+1))],nob:=false,kindly:=true }
theorem one_has:Has Tryz.prog 162 nK:=by
 refine ah mixed ap (HasL.cons pick_has HasL.nil) [0,1,4] ((fun a n (_:Nat)=>(fun _=>aw) a n)) [] Tryz.func162 (by unfold Tryz.f162; rfl) (fun a=>⟨a.2.headD 0,fun h=>xy h⟩) ?_
 intro a ha;obtain ⟨⟨s,p⟩,l⟩:=a;obtain ⟨h1,h2,h3,h4,h5⟩:s.length<=2000/\0<=p/\p<=1073741824/\l ≠ []/\l.length<=1073741824:=ha;have hl:0 < l.length:=List.length_pos_iff.2 h4;simp -implicitDefEqProofs [nK,ix,ag];refine fun _=>⟨s,p,⟨rfl,rfl⟩,⟨h1,h2,h3,by omega⟩,fun y _ hy2=>?_⟩
 obtain ⟨k1,k2⟩:=hy2 (by omega)
 have hk:y.toNat < l.length:=by omega
 have e:Option.map aq l[y.toNat]? = some (aq l[y.toNat]):=by simp -implicitDefEqProofs [List.getElem?_eq_getElem hk]
 simp -implicitDefEqProofs [e,aq,k1,k2]
end Vx
end Go.Proofs.YthgfdbfmnbgkaaaGreatDoor
namespace Go.Proofs.YthgfdbfmnbgkaaaGreatDoor
open Go.ChangeShapes Go.WideShapes Go.ChangeAt Go.RowKit
namespace Vx
theorem JY {T:Nat->Option TI} (hs:∀ te,T 5=some te->te.cells=[.int .u8]) {ds:List D} (h:Shp T [.sl 5 1] ds):∃ l,ds=[.sl 5 1 (bR l)]:=by
 cases h with
 | @sl e k te rows ks ds h1 h2 h3 =>
  cases h3;rw [hs _ h1] at h2;obtain ⟨l,rfl,_⟩:=JG (f:=de) (p:=fun _=>True) (rows:=rows) (fun r hr=>by
   have:=h2 r hr;cases this with
   | @int k n _ _ q1 q2 =>
    cases q2;have q3:IntKind.u8.min<=n/\n<=IntKind.u8.max:=by simpa only [Lit.wf,Bool.and_eq_true,decide_eq_true_eq] using q1
    have q4:IntKind.u8.min=0:=rfl;have q5:IntKind.u8.max=255:=rfl;rw [q4,q5] at q3;refine ⟨UInt8.ofNat n.toNat,?_,trivial⟩;have:(UInt8.ofNat n.toNat).toNat=n.toNat:=by rw [UInt8.toNat_ofNat']; omega
    simp only [de,this]
    congr 2
    omega)
  exact ⟨l,rfl⟩
section
variable {H:Type} {enc:TypeId × Value->H} {W:World} {sp:Nat->Bool} {held:Bool} {r:Reach} {base:Nat}
set_option maxRecDepth 100000 in
theorem yS {v:Value} {d:DataW H} {p:List MemPlace} (hu:Tryz.prog.underlying 28=some (.slice 5)) (hv:Value.okWide Tryz.prog W r base 28 v)
  (h:DataW.Trod enc Tryz.prog W 0 sp held 28 v d p):∃ l f,RdL false W [.sl 5 1 (bR l)] [v] f:=by
 obtain ⟨a,n,c,rfl⟩:=okWide_slice hu hv;obtain ⟨fuel,hf⟩:=h;obtain ⟨ds,f,h1,h2⟩:=I4 ap KH fuel (t:=28) rfl hf;obtain ⟨l,rfl⟩:=JY (fun te ht=>by cases ht; rfl) h2
 exact ⟨l,f,h1⟩
end
end Vx
end Go.Proofs.YthgfdbfmnbgkaaaGreatDoor
namespace Go.Proofs.YthgfdbfmnbgkaaaGreatDoor
namespace Vx
open Go.ChangeShapes Go.WideShapes Go.ChangeAt Go.RowKit
theorem xl:laidOutB Tryz.pinned.checked.prog=true:=by kernel_rfl
theorem xp:mapsRowed Tryz.pinned.checked.prog=true:=by kernel_rfl
theorem xq:Tryz.pinned.checked.prog.stopsHeard=true:=by kernel_rfl
theorem xk:Tryz.pinned.checked.prog.mayEnter=true:=by kernel_rfl
theorem xm:Tryz.pinned.checked.prog.liftsFinal=false:=by kernel_rfl
theorem xo:Tryz.pinned.checked.prog.mainIs=some (Rows.fnExactSessionCard.stood.harness.1,Rows.fnExactSessionCard.stood.harness.2.toList):=by kernel_rfl
theorem xn:Rows.fnExactSessionCard.stood.looks=Tryz.pinned.checked.prog.looks []:=by kernel_rfl
end Vx
end Go.Proofs.YthgfdbfmnbgkaaaGreatDoor
namespace Go.Proofs.YthgfdbfmnbgkaaaGreatDoor
namespace Vx
structure OwnerD where
 path:Str
 who:Str
 deriving DecidableEq,Inhabited
def cf (a:OwnerD):List D:=[.str a.path,.str a.who]
@[simp] theorem eOwner_inj (a b:OwnerD):(cf a=cf b)=(a=b):=by cases a; cases b; simp [cf]
@[simp] theorem OwnerD.eta (a:OwnerD):(⟨a.path,a.who⟩:OwnerD)=a:=rfl
theorem OwnerD.eq_iff (a b:OwnerD):(a=b)=(a.path=b.path/\a.who=b.who):=by cases a; cases b; simp
@[simp] theorem OwnerD.ex1 (x_path:Str) (x_who:Str) (Q:OwnerD->Prop):(∃ a:OwnerD,a.path=x_path/\a.who=x_who/\Q a)=Q ⟨x_path,x_who⟩:=by
 apply propext;constructor
 ·rintro ⟨⟨_,_⟩,rfl,rfl,h⟩; exact h
 ·intro h; exact ⟨⟨x_path,x_who⟩,rfl,rfl,h⟩
@[simp] theorem OwnerD.ex2 (x_path:Str) (x_who:Str) (Q:OwnerD->Prop):(∃ a:OwnerD,(a.path=x_path/\a.who=x_who)/\Q a)=Q ⟨x_path,x_who⟩:=by
 apply propext;constructor
 ·rintro ⟨⟨_,_⟩,⟨rfl,rfl⟩,h⟩; exact h
 ·intro h; exact ⟨⟨x_path,x_who⟩,⟨rfl,rfl⟩,h⟩
@[simp] theorem OwnerD.ex0 (x_path:Str) (x_who:Str):(∃ a:OwnerD,a.path=x_path/\a.who=x_who)=True:=by
 simp only [eq_iff_iff,iff_true];exact ⟨⟨x_path,x_who⟩,rfl,rfl⟩
def aT (l:List OwnerD):List (List D):=l.map cf
@[simp] theorem eOwners_length (l:List OwnerD):(aT l).length=l.length:=by simp [aT]
@[simp] theorem eOwners_nil:aT []=[]:=rfl
@[simp] theorem eOwners_get (l:List OwnerD) (i:Nat):(aT l)[i]? = l[i]?.map cf:=by simp [aT]
@[simp] theorem eOwners_getElem (l:List OwnerD) (i:Nat) (h:i < (aT l).length):(aT l)[i]=cf (l[i]'(by simpa using h)):=by simp [aT]
@[simp] theorem eOwners_inj (a b:List OwnerD):(aT a=aT b)=(a=b):=by
 apply propext;constructor
 ·intro h;exact List.map_inj_right (fun x y h=>by simpa using h) |>.1 h
 ·rintro rfl; rfl
@[simp] theorem eOwners_eq_nil (a:List OwnerD):(aT a=[])=(a=[]):=by simp [aT]
@[simp] theorem nil_eq_eOwners (a:List OwnerD):([]=aT a)=(a=[]):=by simp [aT,eq_comm]
theorem w6 (a:List OwnerD) (p w:Str):aT a++[[.str p,.str w]]=aT (a++[⟨p,w⟩]):=by simp [aT,cf]
theorem w5 (l:List OwnerD) (i:Nat) (p w:Str):(aT l).set i [.str p,.str w]=aT (l.set i ⟨p,w⟩):=by simp [aT,List.map_set,cf]
structure ReviewD where
 branch:Str
 into:Str
 by_:Str
 yes:List Str
 deriving DecidableEq,Inhabited
def sN (a:ReviewD):List D:=[.str a.branch,.str a.into,.str a.by_,.sl 9 1 (aa a.yes)]
@[simp] theorem eReview_inj (a b:ReviewD):(sN a=sN b)=(a=b):=by cases a; cases b; simp [sN]
@[simp] theorem ReviewD.eta (a:ReviewD):(⟨a.branch,a.into,a.by_,a.yes⟩:ReviewD)=a:=rfl
theorem ReviewD.eq_iff (a b:ReviewD):(a=b)=(a.branch=b.branch/\a.into=b.into/\a.by_=b.by_/\a.yes=b.yes):=by cases a; cases b; simp
@[simp] theorem ReviewD.ex1 (x_branch:Str) (x_into:Str) (x_by_:Str) (x_yes:List Str) (Q:ReviewD->Prop):(∃ a:ReviewD,a.branch=x_branch/\a.into=x_into/\a.by_=x_by_/\a.yes=x_yes/\Q a)=Q ⟨x_branch,x_into,x_by_,x_yes⟩:=by
 apply propext;constructor
 ·rintro ⟨⟨_,_,_,_⟩,rfl,rfl,rfl,rfl,h⟩; exact h
 ·intro h; exact ⟨⟨x_branch,x_into,x_by_,x_yes⟩,rfl,rfl,rfl,rfl,h⟩
@[simp] theorem ReviewD.ex2 (x_branch:Str) (x_into:Str) (x_by_:Str) (x_yes:List Str) (Q:ReviewD->Prop):(∃ a:ReviewD,(a.branch=x_branch/\a.into=x_into/\a.by_=x_by_/\a.yes=x_yes)/\Q a)=Q ⟨x_branch,x_into,x_by_,x_yes⟩:=by
 apply propext;constructor
 ·rintro ⟨⟨_,_,_,_⟩,⟨rfl,rfl,rfl,rfl⟩,h⟩; exact h
 ·intro h; exact ⟨⟨x_branch,x_into,x_by_,x_yes⟩,⟨rfl,rfl,rfl,rfl⟩,h⟩
@[simp] theorem ReviewD.ex0 (x_branch:Str) (x_into:Str) (x_by_:Str) (x_yes:List Str):(∃ a:ReviewD,a.branch=x_branch/\a.into=x_into/\a.by_=x_by_/\a.yes=x_yes)=True:=by
 simp only [eq_iff_iff,iff_true];exact ⟨⟨x_branch,x_into,x_by_,x_yes⟩,rfl,rfl,rfl,rfl⟩
structure HunkD where
 at_:Int
 less:List Str
 more:List Str
 deriving DecidableEq,Inhabited
def fI (a:HunkD):List D:=[.int .i64 a.at_,.sl 9 1 (aa a.less),.sl 9 1 (aa a.more)]
@[simp] theorem eHunk_inj (a b:HunkD):(fI a=fI b)=(a=b):=by cases a; cases b; simp [fI]
@[simp] theorem HunkD.eta (a:HunkD):(⟨a.at_,a.less,a.more⟩:HunkD)=a:=rfl
theorem HunkD.eq_iff (a b:HunkD):(a=b)=(a.at_=b.at_/\a.less=b.less/\a.more=b.more):=by cases a; cases b; simp
@[simp] theorem HunkD.ex1 (x_at_:Int) (x_less:List Str) (x_more:List Str) (Q:HunkD->Prop):(∃ a:HunkD,a.at_=x_at_/\a.less=x_less/\a.more=x_more/\Q a)=Q ⟨x_at_,x_less,x_more⟩:=by
 apply propext;constructor
 ·rintro ⟨⟨_,_,_⟩,rfl,rfl,rfl,h⟩; exact h
 ·intro h; exact ⟨⟨x_at_,x_less,x_more⟩,rfl,rfl,rfl,h⟩
@[simp] theorem HunkD.ex2 (x_at_:Int) (x_less:List Str) (x_more:List Str) (Q:HunkD->Prop):(∃ a:HunkD,(a.at_=x_at_/\a.less=x_less/\a.more=x_more)/\Q a)=Q ⟨x_at_,x_less,x_more⟩:=by
 apply propext;constructor
 ·rintro ⟨⟨_,_,_⟩,⟨rfl,rfl,rfl⟩,h⟩; exact h
 ·intro h; exact ⟨⟨x_at_,x_less,x_more⟩,⟨rfl,rfl,rfl⟩,h⟩
@[simp] theorem HunkD.ex0 (x_at_:Int) (x_less:List Str) (x_more:List Str):(∃ a:HunkD,a.at_=x_at_/\a.less=x_less/\a.more=x_more)=True:=by
 simp only [eq_iff_iff,iff_true];exact ⟨⟨x_at_,x_less,x_more⟩,rfl,rfl,rfl⟩
def co (l:List HunkD):List (List D):=l.map fI
@[simp] theorem eHunks_length (l:List HunkD):(co l).length=l.length:=by simp [co]
@[simp] theorem eHunks_nil:co []=[]:=rfl
@[simp] theorem eHunks_get (l:List HunkD) (i:Nat):(co l)[i]? = l[i]?.map fI:=by simp [co]
@[simp] theorem eHunks_getElem (l:List HunkD) (i:Nat) (h:i < (co l).length):(co l)[i]=fI (l[i]'(by simpa using h)):=by simp [co]
@[simp] theorem eHunks_inj (a b:List HunkD):(co a=co b)=(a=b):=by
 apply propext;constructor
 ·intro h;exact List.map_inj_right (fun x y h=>by simpa using h) |>.1 h
 ·rintro rfl; rfl
@[simp] theorem eHunks_eq_nil (a:List HunkD):(co a=[])=(a=[]):=by simp [co]
@[simp] theorem nil_eq_eHunks (a:List HunkD):([]=co a)=(a=[]):=by simp [co,eq_comm]
theorem wZ (a:List HunkD) (n:Int) (x y:List Str):co a++[[.int .i64 n,.sl 9 1 (aa x),.sl 9 1 (aa y)]]=co (a++[⟨n,x,y⟩]):=by simp [co,fI]
structure ChangeD where
 kind:Int
 path:Str
 to_:Str
 text:List Str
 patch:List HunkD
 deriving DecidableEq,Inhabited
def cL (a:ChangeD):List D:=[.int .i64 a.kind,.str a.path,.str a.to_,.sl 9 1 (aa a.text),.sl 176 3 (co a.patch)]
@[simp] theorem eChange_inj (a b:ChangeD):(cL a=cL b)=(a=b):=by cases a; cases b; simp [cL]
@[simp] theorem ChangeD.eta (a:ChangeD):(⟨a.kind,a.path,a.to_,a.text,a.patch⟩:ChangeD)=a:=rfl
theorem ChangeD.eq_iff (a b:ChangeD):(a=b)=(a.kind=b.kind/\a.path=b.path/\a.to_=b.to_/\a.text=b.text/\a.patch=b.patch):=by cases a; cases b; simp
@[simp] theorem ChangeD.ex1 (x_kind:Int) (x_path:Str) (x_to_:Str) (x_text:List Str) (x_patch:List HunkD) (Q:ChangeD->Prop):(∃ a:ChangeD,a.kind=x_kind/\a.path=x_path/\a.to_=x_to_/\a.text=x_text/\a.patch=x_patch/\Q a)=Q ⟨x_kind,x_path,x_to_,x_text,x_patch⟩:=by
 apply propext;constructor
 ·rintro ⟨⟨_,_,_,_,_⟩,rfl,rfl,rfl,rfl,rfl,h⟩; exact h
 ·intro h; exact ⟨⟨x_kind,x_path,x_to_,x_text,x_patch⟩,rfl,rfl,rfl,rfl,rfl,h⟩
@[simp] theorem ChangeD.ex2 (x_kind:Int) (x_path:Str) (x_to_:Str) (x_text:List Str) (x_patch:List HunkD) (Q:ChangeD->Prop):(∃ a:ChangeD,(a.kind=x_kind/\a.path=x_path/\a.to_=x_to_/\a.text=x_text/\a.patch=x_patch)/\Q a)=Q ⟨x_kind,x_path,x_to_,x_text,x_patch⟩:=by
 apply propext;constructor
 ·rintro ⟨⟨_,_,_,_,_⟩,⟨rfl,rfl,rfl,rfl,rfl⟩,h⟩; exact h
 ·intro h; exact ⟨⟨x_kind,x_path,x_to_,x_text,x_patch⟩,⟨rfl,rfl,rfl,rfl,rfl⟩,h⟩
@[simp] theorem ChangeD.ex0 (x_kind:Int) (x_path:Str) (x_to_:Str) (x_text:List Str) (x_patch:List HunkD):(∃ a:ChangeD,a.kind=x_kind/\a.path=x_path/\a.to_=x_to_/\a.text=x_text/\a.patch=x_patch)=True:=by
 simp only [eq_iff_iff,iff_true];exact ⟨⟨x_kind,x_path,x_to_,x_text,x_patch⟩,rfl,rfl,rfl,rfl,rfl⟩
def aR (l:List ChangeD):List (List D):=l.map cL
@[simp] theorem eChanges_length (l:List ChangeD):(aR l).length=l.length:=by simp [aR]
@[simp] theorem eChanges_nil:aR []=[]:=rfl
@[simp] theorem eChanges_get (l:List ChangeD) (i:Nat):(aR l)[i]? = l[i]?.map cL:=by simp [aR]
@[simp] theorem eChanges_getElem (l:List ChangeD) (i:Nat) (h:i < (aR l).length):(aR l)[i]=cL (l[i]'(by simpa using h)):=by simp [aR]
@[simp] theorem eChanges_inj (a b:List ChangeD):(aR a=aR b)=(a=b):=by
 apply propext;constructor
 ·intro h;exact List.map_inj_right (fun x y h=>by simpa using h) |>.1 h
 ·rintro rfl; rfl
@[simp] theorem eChanges_eq_nil (a:List ChangeD):(aR a=[])=(a=[]):=by simp [aR]
@[simp] theorem nil_eq_eChanges (a:List ChangeD):([]=aR a)=(a=[]):=by simp [aR,eq_comm]
theorem Dr (l:List ChangeD) (i:Nat):(aR l).take i=aR (l.take i):=by simp [aR]
theorem iX (a:List ChangeD) (n:Int) (p q:Str) (x:List Str) (h:List HunkD):aR a++[[.int .i64 n,.str p,.str q,.sl 9 1 (aa x),.sl 176 3 (co h)]]=aR (a++[⟨n,p,q,x,h⟩]):=by simp [aR,cL]
abbrev iQ (v:ReviewD):AV:=.agg [.str v.branch,.str v.into,.str v.by_,.sl true 1 (aa v.yes)]
abbrev Lu (c:ChangeD):AV:=.agg [.int .i64 c.kind,.str c.path,.str c.to_,.sl true 1 (aa c.text),.sl true 3 (co c.patch)]
abbrev y8 (h:Nat) (a:List HunkD):List (Nat × Blk):=[(h,.own 176 3 true (co a))]
abbrev y7 (h:Nat) (a:List ChangeD):List (Nat × Blk):=[(h,.own 116 5 true (aR a))]
def aV:List (Nat × TI) :=
(44,⟨true,[.str,.str],32,[(9,0),(9,1)],0⟩) ::
(36,⟨false,[.sl 44 2],24,[],44⟩) ::
(38,⟨true,[.str,.str,.str,.sl 9 1],72,[(9,0),(9,1),(9,2),(22,3)],0⟩) ::
(176,⟨true,[.int .i64,.sl 9 1,.sl 9 1],56,[(3,0),(22,1),(22,2)],0⟩) ::
(114,⟨false,[.sl 176 3],24,[],176⟩) ::
(116,⟨true,[.int .i64,.str,.str,.sl 9 1,.sl 176 3],88,[(3,0),(9,1),(9,2),(22,3),(114,4)],0⟩) ::
(80,⟨false,[.sl 116 5],24,[],116⟩) ::
 ag
theorem bK:∀ t ti,ae aV t=some ti->TOk Tryz.prog t ti:=px (by kernel_rfl)
end Vx
end Go.Proofs.YthgfdbfmnbgkaaaGreatDoor
namespace Go.Proofs.YthgfdbfmnbgkaaaGreatDoor
set_option maxHeartbeats 4000000
namespace Vx
open Go.RowKit
def lT:Con:=.fn 15 (Int × Int × Int) (fun a=>[.int .i64 a.1,.int .i64 a.2.1,.int .i64 a.2.2]) (fun _=>True) (fun a=>.bool (decide (a.2.1<=a.1) && decide (a.1<=a.2.2))) (fun _=>[])
theorem vC:Has Tryz.prog 63 lT:=by
 refine ah mixed ap HasL.nil [0,1,2,6] ((fun a n (_:Nat)=>(fun _=>aw) a n)) [] Tryz.func63 (by unfold Tryz.f63; rfl) (fun _=>⟨(),trivial⟩) ?_
 intro a _;obtain ⟨n,lo,hi⟩:=a;simp -implicitDefEqProofs [lT,Con.fn,ag];omega
def gM:Con:=.fn 15 (Int × Int × Int) (fun a=>[.int .i64 a.1,.int .i64 a.2.1,.int .i64 a.2.2]) (fun _=>True) (fun a=>.bool (decide (a.2.1<=a.1) && decide (a.1<=a.2.2))) (fun _=>[])
theorem i7:Has Tryz.prog 95 gM:=by
 refine ah mixed ap HasL.nil [0,1,2,6] ((fun a n (_:Nat)=>(fun _=>aw) a n)) [] Tryz.func95 (by unfold Tryz.f95; rfl) (fun _=>⟨(),trivial⟩) ?_
 intro a _;obtain ⟨n,lo,hi⟩:=a;simp -implicitDefEqProofs [gM,Con.fn,ag];omega
def kh (n:Int):Bool:=(decide (97<=n) && decide (n<=122)) || (decide (48<=n) && decide (n<=57))
def ss:Con:=.fn 17 Int (fun a=>[.int .u8 a]) (fun _=>True) (fun a=>.bool (kh a)) (fun _=>[])
theorem Mr:Has Tryz.prog 118 ss:=by
 refine ah mixed ap HasL.nil [0,2] ((fun a n (_:Nat)=>(fun _=>aw) a n)) [] Tryz.func118 (by unfold Tryz.f118; rfl) (fun _=>⟨(),trivial⟩) ?_
 intro a _;simp -implicitDefEqProofs [ss,Con.fn,ag,kh]
 repeat' (first | intro _ | apply And.intro)
 all_goals first | omega | grind
def aM (s:Str):Bool:=decide (1<=s.length) && decide (s.length<=6) && s.all fun b=>kh b.toNat
def iw:Con:=.fn 19 Str (fun s=>[.str s]) (fun _=>True) (fun s=>.bool (aM s)) (fun _=>[])
theorem j4:Has Tryz.prog 61 iw:=by
 refine ah mixed ap (HasL.cons vC (HasL.cons Mr HasL.nil)) [0,2,3] ((fun a n (_:Nat)=>(fun s _=>⟨Nat,fun i=>⟨[(0,true,.str s),(2,true,.bool false),(3,true,.int .i64 i)],[]⟩,fun i=>i<=s.length/\1<=s.length/\s.length<=6/\(s.take i).all (fun b=>kh b.toNat)=true,fun i=>s.length - i⟩) a n)) [] Tryz.func61 (by unfold Tryz.f61; rfl) (fun _=>⟨(),trivial⟩) ?_
 intro (s:Str) _;simp -implicitDefEqProofs [iw,Con.fn,ag,lT,ss]
 try dsimp only
 try simp +contextual [ak,an,bP,bn,bQ,List.getElem?_eq_getElem,bX,bV,bN,bU,<- bw,<- bS,bj,bp,bW,bT,aU,bH,and_assoc]
 repeat' (first | intro _ | apply And.intro)
 all_goals first | omega | grind [cm,aM,List.take_succ_eq_append_getElem]
def gN:Con:=.fn 35 Str (fun s=>[.str s]) (fun _=>True) (fun s=>.bool (aM s)) (fun _=>[])
theorem i9:Has Tryz.prog 96 gN:=by
 refine ah mixed ap (HasL.cons i7 HasL.nil) [0,2,3] ((fun a n (_:Nat)=>(fun s _=>⟨Nat,fun i=>⟨[(0,true,.str s),(2,true,.bool false),(3,true,.int .i64 i)],[]⟩,fun i=>i<=s.length/\(s.take i).all (fun b=>kh b.toNat)=true,fun i=>s.length - i⟩) a n)) [] Tryz.func96 (by unfold Tryz.f96; rfl) (fun _=>⟨(),trivial⟩) ?_
 intro (s:Str) _;simp -implicitDefEqProofs [gN,Con.fn,ag,gM]
 try dsimp only
 try simp +contextual [ak,an,bP,bn,bQ,List.getElem?_eq_getElem,bX,bV,bN,bU,<- bw,<- bS,bj,bp,bW,bT,aU,bH,and_assoc]
 repeat' (first | intro _ | apply And.intro)
 all_goals first | omega | grind [cm,aM,kh,List.take_succ_eq_append_getElem]
def ja (s:Str):Bool:=decide (s.length<=12) && s.all fun b=>decide (32<=b.toNat) && decide (b.toNat<=126)
def rt:Con:=.fn 23 Str (fun s=>[.str s]) (fun _=>True) (fun s=>.bool (ja s)) (fun _=>[])
theorem GL:Has Tryz.prog 180 rt:=by
 refine ah mixed ap HasL.nil [0,2,3] ((fun a n (_:Nat)=>(fun s _=>⟨Nat,fun i=>⟨[(0,true,.str s),(2,true,.bool false),(3,true,.int .i64 i)],[]⟩,fun i=>i<=s.length/\s.length<=12/\(s.take i).all (fun b=>decide (32<=b.toNat) && decide (b.toNat<=126))=true,fun i=>s.length - i⟩) a n)) [] Tryz.func180 (by unfold Tryz.f180; rfl) (fun _=>⟨(),trivial⟩) ?_
 intro (s:Str) _;simp -implicitDefEqProofs [rt,Con.fn,ag]
 try dsimp only
 try simp +contextual [ak,an,bP,bn,bQ,List.getElem?_eq_getElem,bX,bV,bN,bU,<- bw,<- bS,bj,bp,bW,bT,aU,bH,and_assoc]
 repeat' (first | intro _ | apply And.intro)
 all_goals first | omega | grind [cm,ja,List.take_succ_eq_append_getElem]
def qQ:Con:=.fn 23 Str (fun s=>[.str s]) (fun _=>True) (fun s=>.bool (ja s)) (fun _=>[])
theorem FP:Has Tryz.prog 220 qQ:=by
 refine ah mixed ap HasL.nil [0,2,3] ((fun a n (_:Nat)=>(fun s _=>⟨Nat,fun i=>⟨[(0,true,.str s),(2,true,.bool false),(3,true,.int .i64 i)],[]⟩,fun i=>i<=s.length/\(s.take i).all (fun b=>decide (32<=b.toNat) && decide (b.toNat<=126))=true,fun i=>s.length - i⟩) a n)) [] Tryz.func220 (by unfold Tryz.f220; rfl) (fun _=>⟨(),trivial⟩) ?_
 intro (s:Str) _;simp -implicitDefEqProofs [qQ,Con.fn,ag]
 try dsimp only
 try simp +contextual [ak,an,bP,bn,bQ,List.getElem?_eq_getElem,bX,bV,bN,bU,<- bw,<- bS,bj,bp,bW,bT,aU,bH,and_assoc]
 repeat' (first | intro _ | apply And.intro)
 all_goals first | omega | grind [cm,ja,List.take_succ_eq_append_getElem]
def aD (t:List Str):Bool:=decide (t.length<=10) && t.all ja
def lR:Con:=.fn 18 (List Str) (fun t=>[.sl true 1 (aa t)]) (fun _=>True) (fun t=>.bool (aD t)) (fun _=>[])
theorem vf:Has Tryz.prog 119 lR:=by
 refine ah mixed ap (HasL.cons GL HasL.nil) [0,2,4,8,9,10] ((fun a n (_:Nat)=>(fun t _=>⟨Nat,fun i=>⟨[(2,true,.bool false),(8,true,.sl true 1 (aa t)),(9,true,.int .i64 t.length),(10,true,.int .i64 i)],[]⟩,fun i=>i<=t.length/\t.length<=10/\(t.take i).all ja=true,fun i=>t.length - i⟩) a n)) [] Tryz.func119 (by unfold Tryz.f119; rfl) (fun _=>⟨(),trivial⟩) ?_
 intro (t:List Str) _;simp -implicitDefEqProofs [lR,Con.fn,ag,rt]
 try dsimp only
 try simp +contextual [ak,an,bP,bn,bQ,List.getElem?_eq_getElem,bX,bV,bN,bU,<- bw,<- bS,bj,bp,bW,bT,aU,bH,and_assoc]
 repeat' (first | intro _ | apply And.intro)
 all_goals first | omega | grind [cm,aD,List.take_succ_eq_append_getElem]
def jM:Con:=.fn 19 (List Str) (fun t=>[.sl true 1 (aa t)]) (fun _=>True) (fun t=>.bool (aD t)) (fun _=>[])
theorem mc:Has Tryz.prog 171 jM:=by
 refine ah mixed ap (HasL.cons FP HasL.nil) [0,2,3] ((fun a n (_:Nat)=>(fun t _=>⟨Nat,fun i=>⟨[(0,true,.sl true 1 (aa t)),(2,true,.bool false),(3,true,.int .i64 i)],[]⟩,fun i=>i<=t.length/\(t.take i).all ja=true,fun i=>t.length - i⟩) a n)) [] Tryz.func171 (by unfold Tryz.f171; rfl) (fun _=>⟨(),trivial⟩) ?_
 intro (t:List Str) _;simp -implicitDefEqProofs [jM,Con.fn,ag,qQ]
 try dsimp only
 try simp +contextual [ak,an,bP,bn,bQ,List.getElem?_eq_getElem,bX,bV,bN,bU,<- bw,<- bS,bj,bp,bW,bT,aU,bH,and_assoc]
 repeat' (first | intro _ | apply And.intro)
 all_goals first | omega | grind [cm,aD,List.take_succ_eq_append_getElem]
abbrev dw (h:Nat) (a:List Str):List (Nat × Blk):=[(h,.own 9 1 true (aa a))]
abbrev jh (h:Nat) (a:List FileD):List (Nat × Blk):=[(h,.own 119 2 true (ac a))]


def iF (p s:Str):Bool:=decide (p.length<=s.length) && decide (s.take p.length=p)
def rX:Con:=.fn 18 (Str × Str) (fun a=>[.str a.1,.str a.2]) (fun _=>True) (fun a=>.bool (iF a.2 a.1)) (fun _=>[])
theorem J1:Has Tryz.prog 219 rX:=by
 refine ah mixed ap HasL.nil [0,1,4] ((fun a n (_:Nat)=>(fun _=>aw) a n)) [] Tryz.func219 (by unfold Tryz.f219; rfl) (fun _=>⟨(),trivial⟩) ?_
 intro a _;obtain ⟨s,p⟩:=a;simp -implicitDefEqProofs [rX,Con.fn,ag,iF]
 try dsimp only
 try simp +contextual [ak,an,bP,bn,bQ,List.getElem?_eq_getElem,bX,bV,bN,bU,<- bw,<- bS,bj,bp,bW,bT,aU,bH,and_assoc]
 repeat' (first | intro _ | apply And.intro)
 all_goals first | omega | grind [cm]
def qx:Con:=.fn 8 (Str × Str) (fun a=>[.str a.1,.str a.2]) (fun _=>True) (fun a=>.bool (iF a.2 a.1)) (fun _=>[])
theorem D5:Has Tryz.prog 170 qx:=by
 refine ah mixed ap (HasL.cons J1 HasL.nil) [0,1,4] ((fun a n (_:Nat)=>(fun _=>aw) a n)) [] Tryz.func170 (by unfold Tryz.f170; rfl) (fun _=>⟨(),trivial⟩) ?_
 intro a _;obtain ⟨s,p⟩:=a;simp -implicitDefEqProofs [qx,Con.fn,ag,rX]
 try dsimp only
 try simp +contextual [ak,an,bP,bn,bQ,List.getElem?_eq_getElem,bX,bV,bN,bU,<- bw,<- bS,bj,bp,bW,bT,aU,bH,and_assoc]
 repeat' (first | intro _ | apply And.intro)
 all_goals first | omega | grind [cm]
def inB (d p:Str):Bool:=decide (d.length < p.length) && decide (p.take d.length=d) && decide (p.getD d.length 0=47)
theorem vu (a:UInt8):((a.toNat:Int)=47)=(a=47):=by
 apply propext;constructor
 ·intro h;have:a.toNat=47:=by omega
  exact UInt8.toNat_inj.1 (by simpa using this)
 ·rintro rfl; rfl
def kE:Con:=.fn 25 (Str × Str) (fun a=>[.str a.1,.str a.2]) (fun _=>True) (fun a=>.bool (inB a.1 a.2)) (fun _=>[])
theorem oJ:Has Tryz.prog 172 kE:=by
 refine ah mixed ap HasL.nil [0,1,4] ((fun a n (_:Nat)=>(fun _=>aw) a n)) [] Tryz.func172 (by unfold Tryz.f172; rfl) (fun _=>⟨(),trivial⟩) ?_
 intro a _;obtain ⟨d,p⟩:=a;simp -implicitDefEqProofs [kE,Con.fn,ag,inB,vu]
 try dsimp only
 try simp +contextual [ak,an,bP,bn,bQ,List.getElem?_eq_getElem,bX,bV,bN,bU,<- bw,<- bS,bj,bp,bW,bT,aU,bH,and_assoc,vu]
 repeat' (first | intro _ | apply And.intro)
 all_goals first | omega | grind [cm,vu]
def dq (b:Int) (most:Nat):Str->Str->Nat->List Str
 | [],c,_=>[c]
 | x :: r,c,n=>if n < most then (if (x.toNat:Int)=b then c :: dq b most r [] (n+1) else dq b most r (c++[x]) n) else [c++x :: r]
theorem C3 {b:Int} {most:Nat} {r c:Str} {n:Nat} (h:most<=n):dq b most r c n=[c++r]:=by
 cases r with
 | nil=>simp [dq]
 | cons x r=>simp [dq,Nat.not_lt.2 h]
def dl (s:Str) (fr i:Nat):Str:=(s.drop fr).take (i - fr)
theorem IA {s:Str} {fr i:Nat} (h:fr<=i):dl s fr i++s.drop i=s.drop fr:=by
 unfold dl;have:s.drop i=(s.drop fr).drop (i - fr):=by rw [List.drop_drop]; congr 1; omega
 rw [this,List.take_append_drop]
theorem ID {s:Str} {fr i:Nat} (h:s.length<=i) (hf:fr<=i):dl s fr i=s.drop fr:=by
 unfold dl;exact List.take_of_length_le (by rw [List.length_drop]; omega)
theorem IF {s:Str} {fr:Nat}:dl s fr fr=[]:=by simp [dl]
theorem IE {s:Str} {fr i:Nat} (h:i < s.length) (hf:fr<=i):dl s fr (i+1)=dl s fr i++[s[i]]:=by
 unfold dl;rw [show i+1 - fr=(i - fr)+1 by omega,List.take_succ_eq_append_getElem (by rw [List.length_drop]; omega)]
 congr 2
 rw [List.getElem_drop]
 congr 1
 omega
theorem C8 {b:Int} {most:Nat} {s:Str} {fr i n:Nat} (h:i < s.length) (hf:fr<=i) (hn:n < most) :
  dq b most (s.drop i) (dl s fr i) n=if (s[i].toNat:Int)=b then dl s fr i :: dq b most (s.drop (i+1)) (dl s (i+1) (i+1)) (n+1) else dq b most (s.drop (i+1)) (dl s fr (i+1)) n:=by
 rw [List.drop_eq_getElem_cons h,IF,IE h hf];simp [dq,hn]
theorem C4 {b:Int} {most:Nat} {s:Str} {fr i n:Nat} (h:s.length<=i) (hf:fr<=i):dq b most (s.drop i) (dl s fr i) n=[s.drop fr]:=by rw [List.drop_eq_nil_of_le h,<- ID h hf]; rfl
theorem C6 {b:Int} {most:Nat} {s:Str} {fr i n:Nat} (h:most<=n) (hf:fr<=i):dq b most (s.drop i) (dl s fr i) n=[s.drop fr]:=by rw [C3 h,IA hf]
def eO (s:Str) (b:Int) (most:Nat):List Str:=dq b most s [] 0
theorem IB (s:Str) (fr i:Nat):(s.drop fr).take (i - fr)=dl s fr i:=rfl
theorem IC (s:Str) (fr:Nat):dl s fr s.length=s.drop fr:=by
 unfold dl;exact List.take_of_length_le (by rw [List.length_drop]; omega)
def qP:Con:=.fn 43 (Str × Int × Nat) (fun a=>[.str a.1,.int .u8 a.2.1,.int .i64 a.2.2]) (fun a=>a.2.2<=1000000) (fun a=>.own 8 1 (aa (eO a.1 a.2.1 a.2.2))) (fun a=>dw 8 (eO a.1 a.2.1 a.2.2))
theorem FO:Has Tryz.prog 68 qP:=by
 refine ah mixed ap HasL.nil [0,1,2,6,7,8,9] ((fun a n (_:Nat)=>(fun a _=>⟨List Str × Nat × Nat,fun t=>⟨[(0,true,.str a.1),(1,true,.int .u8 a.2.1),(2,true,.int .i64 a.2.2),(6,true,.nil),(7,true,.own 9 1 (aa t.1)),(8,true,.int .i64 t.2.1),(9,true,.int .i64 t.2.2)],dw 9 t.1⟩,fun t=>t.2.1<=t.2.2/\t.2.2<=a.1.length/\t.1.length<=a.2.2/\t.1++dq a.2.1 a.2.2 (a.1.drop t.2.2) (dl a.1 t.2.1 t.2.2) t.1.length=eO a.1 a.2.1 a.2.2,fun t=>a.1.length - t.2.2⟩) a n)) [] Tryz.func68 (by unfold Tryz.f68; rfl) (fun _=>⟨(),trivial⟩) ?_
 intro a ha;obtain ⟨s,b,most⟩:=a;replace ha:most<=1000000:=ha;have hs:dq b most s (dl s 0 0) 0=eO s b most:=rfl;simp -implicitDefEqProofs [qP,Con.fn,ag]
 try dsimp only
 try simp +contextual [ak,an,bP,bn,bQ,List.getElem?_eq_getElem,bX,bV,bN,bU,<- bw,<- bS,bj,bp,bW,bT,aU,bH,and_assoc,IB,IC]
 repeat' (first | intro _ | apply And.intro)
 all_goals first | omega | grind [cm,C8,C4,C6]
theorem Cw (a:Nat):((a:Int)=3)=(a=3):=by apply propext; omega
def bI (s:Str):Bool:=(eO s 47 3).all aM && decide ((eO s 47 3).length<=3)
def jO:Con:=.fn 22 Str (fun s=>[.str s]) (fun _=>True) (fun s=>.bool (bI s)) (fun _=>[])
theorem me:Has Tryz.prog 98 jO:=by
 refine ah mixed ap (HasL.cons FO (HasL.cons i9 HasL.nil)) [0,2,3,4] ((fun a n (_:Nat)=>(fun s _=>⟨Nat,fun i=>⟨[(2,true,.bool false),(3,true,.own 9 1 (aa (eO s 47 3))),(4,true,.int .i64 i)],dw 9 (eO s 47 3)⟩,fun i=>i<=(eO s 47 3).length/\((eO s 47 3).take i).all aM=true,fun i=>(eO s 47 3).length - i⟩) a n)) [] Tryz.func98 (by unfold Tryz.f98; rfl) (fun _=>⟨(),trivial⟩) ?_
 intro (s:Str) _;simp -implicitDefEqProofs [jO,Con.fn,ag,qP,gN]
 try dsimp only
 try simp +contextual [ak,an,bP,bn,bQ,List.getElem?_eq_getElem,bX,bV,bN,bU,<- bw,<- bS,bj,bp,bW,bT,aU,bH,and_assoc,Cw]
 repeat' (first | intro _ | apply And.intro)
 all_goals first | omega | grind [cm,bI,List.take_succ_eq_append_getElem]
def kW (a b:Str):Bool:=Go.Op.bytesLess a b || decide (a=b)
def eS (t:List FileD) (i:Nat):Bool:=bI (t.getD i default).path && aD (t.getD i default).text && (decide (i=0) || !kW (t.getD i default).path (t.getD (i - 1) default).path)
def gA (t:List FileD) (i:Nat):Bool:=t.all fun g=>!inB (t.getD i default).path g.path
def aH (t:List FileD):Bool:=(List.range t.length).all (fun i=>eS t i && gA t i) && decide (t.length<=8)
def jN:Con:=.fn 65 (List FileD) (fun t=>[.sl true 2 (ac t)]) (fun _=>True) (fun t=>.bool (aH t)) (fun _=>[])
def tQ (t:List FileD):Inv:=⟨Nat,fun i=>⟨[(0,true,.sl true 2 (ac t)),(2,true,.bool false),(3,true,.int .i64 i)],[]⟩,fun i=>i<=t.length /\ ∀ j,j < i->eS t j=true/\gA t j=true,fun i=>t.length - i⟩
def tN (t:List FileD) (g:Nat):Inv:=⟨Nat,fun k=>⟨[(0,true,.sl true 2 (ac t)),(2,true,.bool false),(3,true,.int .i64 g),(4,true,.int .i64 k)],[]⟩,fun x=>g < t.length/\x<=t.length/\(∀ j,j < g->eS t j=true/\gA t j=true)/\eS t g=true /\ ∀ k,k < x->inB (t.getD g default).path (t.getD k default).path=false,fun x=>t.length - x⟩
def tP (t:List FileD) (n g:Nat):Inv:=if n=2 then tQ t else tN t g
theorem F5 (t:List FileD) (g:Nat):tP t 2 g=tQ t:=rfl
theorem F6 (t:List FileD) (g:Nat):tP t 7 g=tN t g:=rfl
set_option maxRecDepth 8000
theorem md:Has Tryz.prog 97 jN:=by
 refine ah mixed ap (HasL.cons me (HasL.cons mc (HasL.cons oJ (HasL.cons i7 HasL.nil)))) [0,2,3,4] (fun t=>tP t) [] Tryz.func97 (by unfold Tryz.f97; rfl) (fun _=>⟨(),trivial⟩) ?_
 intro (t:List FileD) _;have hs:∀ i,t.length<=i -> ¬ i < t.length:=by omega
 have hE:aH t=true ↔ (∀ i,i < t.length->eS t i=true/\gA t i=true)/\t.length<=8:=by simp [aH]
 have hF:∀ i,i < t.length->(eS t i && gA t i)=false->aH t=false:=by
  intro i hi h;rcases hb:aH t with _ | _
  ·rfl
  ·exact absurd ((hE.1 hb).1 i hi) (by simpa using h)
 have hH:∀ i,i < t.length->eS t i=false->aH t=false:=fun i hi h=>hF i hi (by simp [h])
 have hN:∀ i k,i < t.length->k < t.length->inB (t.getD i default).path (t.getD k default).path=true->aH t=false:=by
  intro i k hi hk h;refine hF i hi ?_;have:gA t i=false:=by
   simp only [gA,List.all_eq_false];exact ⟨t[k],List.getElem_mem hk,by simp [List.getD_eq_getElem?_getD,hk] at h ⊢; simpa [hk] using h⟩
  simp [this]
 have hI:∀ i,(∀ k,k < t.length->inB (t.getD i default).path (t.getD k default).path=false)->gA t i=true:=by
  intro i h;simp only [gA,List.all_eq_true];intro g hg;obtain ⟨k,hk,rfl⟩:=List.getElem_of_mem hg;have:=h k hk
  simpa [List.getD_eq_getElem?_getD,hk] using this
 simp -implicitDefEqProofs [jN,Con.fn,ag,jO,jM,kE,gM,F5,F6,tQ,tN]
 try dsimp only
 intro i hi hj hl;have e1:∀ k (h:k < t.length),Option.map an t[k]? = some (an t[k]):=by
  intro k h;simp [List.getElem?_eq_getElem h]
 have e2:i < t.length->i - 1 < t.length:=by omega
 constructor
 ·intro hlt;have e3:=e1 i hlt;have e4:=e1 (i - 1) (e2 hlt);simp [hlt,e2 hlt,e3,e4,an,ak,D.asStr,D.asRows]
  try simp +contextual [ak,an,bP,bn,bQ,List.getElem?_eq_getElem,bX,bV,bN,bU,<- bw,<- bS,bj,bp,bW,bT,aU,bH,and_assoc]
  repeat' (first | intro _ | apply And.intro)
  all_goals first | omega | grind [cm,eS,kW]
 ·have hX:t.length<=i->aH t=decide (t.length<=8):=by
   intro h;have:aH t=true ↔ t.length<=8:=by
    rw [hE];exact ⟨fun h=>h.2,fun h8=>⟨fun j hj'=>hj j (by omega),h8⟩⟩
   cases h':aH t <;> simp_all
  try simp +contextual [ak,an,bP,bn,bQ,List.getElem?_eq_getElem,bX,bV,bN,bU,<- bw,<- bS,bj,bp,bW,bT,aU,bH,and_assoc]
  repeat' (first | intro _ | apply And.intro)
  all_goals first | omega | grind [cm,eS,kW]
theorem ly (t:List FileD) (h:aH t=true):t.length<=8 /\ ∀ f ∈ t,f.text.length<=64:=by
 simp only [aH,Bool.and_eq_true,decide_eq_true_eq,List.all_eq_true,List.mem_range,eS] at h;refine ⟨h.2,fun f hf=>?_⟩;obtain ⟨i,hi,rfl⟩:=List.getElem_of_mem hf;have:=(h.1 i hi).1.1.2;simp [List.getD_eq_getElem?_getD,hi,aD] at this;omega
def fS:AV->Option Value
 | .int k n=>some (.int k n)
 | .bool b=>some (.bool b)
 | .str s=>some (.string ⟨s.toArray⟩)
 | _=>none
theorem JN {w m β c v x u} (h:RelL w m β c [v] [u]) (hs:fS v=some x):u=x:=by
 cases v <;> simp only [fS,Option.some.injEq,reduceCtorEq] at hs
 all_goals cases h; exact hs
theorem JO {w m β c}:∀ {vs:List AV} {us xs:List Value},RelL w m β c vs us->vs.mapM fS=some xs->us=xs:=by
 intro vs
 induction vs with
 | nil=>intro us xs h hm; cases h; simp at hm; exact hm.symm
 | cons v vs ih =>
  intro us xs h hm;obtain ⟨u,us',rfl,h1,h2⟩:=h.uncons;rw [List.mapM_cons] at hm;cases hv:fS v with
  | none=>rw [hv] at hm; simp at hm
  | some x =>
   rw [hv] at hm;cases hvs:vs.mapM fS with
   | none=>rw [hvs] at hm; simp at hm
   | some ys =>
    rw [hvs] at hm;simp at hm;subst hm;rw [JN h1 hv,ih h2 hvs]
theorem I6 {w m β c v x} (hs:fS v=some x) (hok:∀ s,v = .str s->s.length<=maxLen):RelL w m β c [v] [x]:=by
 cases v <;> simp only [fS,Option.some.injEq,reduceCtorEq] at hs
 all_goals subst hs
 ·exact .int .lnil
 ·exact .bool .lnil
 ·exact .str (hok _ rfl) .lnil
theorem pr {c:Cx} {k:Con} {x:k.A} {vs:List Value} {w β fp} (hl:vs.length=(k.args x).length) (S:SatI c (k.start2 x) ⟨vs.toArray++Array.replicate (k.n - vs.length) undef,[]⟩ w β fp) :
  RelL w (k.start2 x).m β c (k.args x) vs:=by
 have key:∀ (i:Nat) (v:AV) (u:Value),(k.args x)[i]? = some v->vs[i]? = some u->RelL w (k.start2 x).m β c [v] [u]:=by
  intro i v u hv hu;have:=(S.env i true v (by simp [Con.start2,hv])).2.1 rfl
  have hi:i < vs.length:=(List.getElem?_eq_some_iff.1 hu).1;have e:(vs.toArray++Array.replicate (k.n - vs.length) undef).getD i undef=u:=by
   rw [Array.getD_eq_getD_getElem?,Array.getElem?_append_left (by simpa using hi)]
   simp [hu]
  rw [e] at this;exact this
 clear S;generalize k.args x=xs at hl key
 induction xs generalizing vs with
 | nil=>cases vs with | nil=>exact .lnil | cons=>simp at hl
 | cons v xs ih =>
  cases vs with
  | nil=>simp at hl
  | cons u vs =>
   exact (key 0 v u rfl rfl).append (ih (by simpa using hl) fun i v' u' h1 h2=>key (i+1) v' u' h1 h2)
theorem xx {P:Program} {f:Nat} {n:Nat} {A:Type} {args:A->List AV} {pre:A->Prop} {res:A->AV} {rv:A->Value}
  (henter:∀ args w,(callFunc f args).run P w = .ok (.enter f args) w) (hres:∀ a,fS (res a)=some (rv a)) (hstr:∀ a s,pre a->res a = .str s->s.length<=maxLen)
  (h:∀ a vs w,pre a->(args a).mapM fS=some vs->Calls P f vs.toArray w fun e w'=>e = .returned (rv a)/\w'=w) (hsc:∀ a,∃ vs,(args a).mapM fS=some vs) :
  Has P f (.fn n A args pre res (fun _=>[])):=by
 refine ⟨henter,fun _=>⟨(),trivial⟩,fun _ _=>rfl,?_,trivial,.inl rfl⟩;intro a hp c _ vs β fp hcn hpins hl1 hl2 S;obtain ⟨us,hus⟩:=hsc a;have hvs:vs=us:=JO (pr hl1 S) hus;subst hvs;refine (h a vs c.w0 hp hus).mono ?_;rintro e w' ⟨rfl,rfl⟩;refine ⟨(),trivial,rv a,rfl,β,fp,⟨Array.replicate c.n undef,[]⟩,⟨?_,?_,?_,?_,?_,S.fg,S.old,S.os,S.tape,S.output,S.size,rfl,by simp,?_⟩,?_⟩
 ·intro t g av ht; cases ht
 ·intro h blk hm; cases hm
 ·intro h blk hm; cases hm
 ·intro h h' blk blk' hm; cases hm
 ·intro h blk hm; cases hm
 ·rw [hpins]; intro p hp; simp [Con.pins2] at hp
 ·exact I6 (hres a) (fun s hs=>hstr a s hp hs)
set_option maxHeartbeats 1000000 in
set_option maxRecDepth 100000 in
theorem Eu (s:ByteArray) (c:Int) (w:World) :
  Calls Tryz.prog 274 #[.string s,.int .u8 c] w fun e w'=>e = .returned (.int .i64 (Lib.indexByte s.data.toList c.toNat.toUInt8))/\w'=w:=by
 go_enter Tryz.func274,Tryz.ntmps274
 go_wp2
 rw [run_callFunc_extern Tryz.func295 (by kernel_rfl) (by kernel_rfl) (by kernel_rfl) (e:=Extern.BytealgIndexByte.indexByte) (by kernel_rfl),Lib.run_indexByteString]
 simp only [Result.andThen];rw [Oper.upon_value]
 go_wp2
 go_ret
 exact ⟨rfl,rfl⟩
set_option maxHeartbeats 2000000 in
set_option maxRecDepth 100000 in
theorem Ev (s:ByteArray) (c:UInt8) (w:World) :
  Calls Tryz.prog 244 #[.string s,.string ⟨#[c]⟩] w fun e w'=>e = .returned (.int .i64 (Lib.indexByte s.data.toList c))/\w'=w:=by
 go_enter Tryz.func244,Tryz.ntmps244
 go_wp2_with (go_at_call 274; refine (Eu _ _ _).mono ?_; rintro e w' ⟨rfl,rfl⟩)
 ·have h:([c] == s.toList)=true:=by assumption
  go_ret
  refine ⟨?_,rfl⟩;have e:s.data.toList=[c]:=by rw [<- Lib.toList_data]; exact (beq_iff_eq.1 h).symm
  rw [e];simp [Lib.indexByte]
 ·go_ret
  exact ⟨rfl,rfl⟩
set_option maxHeartbeats 2000000 in
set_option maxRecDepth 100000 in
theorem Kx (s:ByteArray) (c:UInt8) (w:World) :
  Calls Tryz.prog 200 #[.string s,.string ⟨#[c]⟩] w fun e w'=>e = .returned (.int .i64 (Lib.indexByte s.data.toList c))/\w'=w:=by
 go_enter Tryz.func200,Tryz.ntmps200
 go_wp2_with (go_at_call 244; refine (Ev _ _ _).mono ?_; rintro e w' ⟨rfl,rfl⟩)
 go_ret
 exact ⟨rfl,rfl⟩
set_option maxHeartbeats 1000000 in
set_option maxRecDepth 100000 in
theorem C0 (s:ByteArray) (c:UInt8) (w:World) :
  Calls Tryz.prog 199 #[.string s,.string ⟨#[c]⟩] w fun e w'=>e = .returned (.int .i64 (Lib.countByte s.data.toList c))/\w'=w:=by
 go_enter Tryz.func199,Tryz.ntmps199
 go_wp2
 rw [run_callFunc_extern Tryz.func243 (by kernel_rfl) (by kernel_rfl) (by kernel_rfl) (e:=Extern.BytealgCount.count) (by kernel_rfl),Lib.run_countString]
 simp only [Result.andThen];rw [Oper.upon_value]
 go_wp2
 go_ret
 exact ⟨rfl,rfl⟩
def bl:Str->UInt8->Int
 | [],_=>-1
 | b :: l,c=>if b=c then 0 else if bl l c < 0 then -1 else bl l c+1
theorem Ek (s:Str) (c:UInt8):Lib.indexByte s c=bl s c:=by
 induction s with
 | nil=>rfl
 | cons b l ih =>
  have hge:=Lib.indexByte_ge l c;simp only [Lib.indexByte,bl,ih] at hge ⊢;by_cases hb:b=c
  ·simp [hb]
  ·simp only [beq_iff_eq,hb,if_false];by_cases h:bl l c < 0
   ·rw [if_pos h,if_pos (by omega)]
   ·rw [if_neg h,if_neg (by omega)]
def wF:Con:=.fn 8 (Str × UInt8) (fun a=>[.str a.1,.str [a.2]]) (fun _=>True) (fun a=>.int .i64 (bl a.1 a.2)) (fun _=>[])
theorem Ky:Has Tryz.prog 200 wF :=
 xx (rv:=fun a=>.int .i64 (bl a.1 a.2)) (fun args w=>Go.MuLone.run_callFunc_enter Tryz.func200 (by kernel_rfl) rfl args w) (fun _=>rfl) (fun a s _ h=>by cases h)
  (fun a vs w _ hv=>by
   obtain ⟨s,c⟩:=a;simp [fS] at hv;subst hv;have:=Kx ⟨s.toArray⟩ c w
   simpa [Ek] using this) (fun a=>⟨_,rfl⟩)
def wE:Con:=.fn 34 (Str × UInt8) (fun a=>[.str a.1,.str [a.2]]) (fun _=>True) (fun a=>.int .i64 (a.1.count a.2)) (fun _=>[])
theorem Kw:Has Tryz.prog 199 wE :=
 xx (rv:=fun a=>.int .i64 (a.1.count a.2)) (fun args w=>Go.MuLone.run_callFunc_enter Tryz.func199 (by kernel_rfl) rfl args w) (fun _=>rfl) (fun a s _ h=>by cases h)
  (fun a vs w _ hv=>by
   obtain ⟨s,c⟩:=a;simp [fS] at hv;subst hv;have:=C0 ⟨s.toArray⟩ c w
   simpa [Lib.countByte] using this) (fun a=>⟨_,rfl⟩)
def spl (c:UInt8):Str->Str->List Str
 | [],p=>[p]
 | x :: r,p=>if x=c then p :: spl c r [] else spl c r (p++[x])
theorem El (s:Str) (c:UInt8):bl s c < s.length:=by
 induction s with
 | nil=>simp [bl]
 | cons b l ih =>
  simp only [bl,List.length_cons];split
  ·omega
  ·split <;> omega
theorem Kh {c:UInt8}:∀ {s p:Str},bl s c < 0->spl c s p=[p++s]/\s.count c=0:=by
 intro s
 induction s with
 | nil=>intro p _; simp [spl]
 | cons b l ih =>
  intro p h;simp only [bl] at h;split at h
  ·omega
  ·rename_i hb;split at h
   ·rename_i hl;have:=ih (p:=p++[b]) hl;simp only [spl,if_neg hb];refine ⟨by rw [this.1]; simp,?_⟩
    rw [List.count_cons,this.2];simp [hb]
   ·omega
theorem z7 {c:UInt8}:∀ {s p:Str},0<=bl s c->spl c s p=(p++s.take (bl s c).toNat) :: spl c (s.drop ((bl s c).toNat+1)) []/\s.count c=(s.drop ((bl s c).toNat+1)).count c+1:=by
 intro s
 induction s with
 | nil=>intro p h; simp [bl] at h
 | cons b l ih =>
  intro p h;by_cases hb:b=c
  ·subst hb;simp [bl,spl]
  ·simp only [bl,if_neg hb] at h ⊢;split at h
   ·omega
   ·rename_i hl;rw [if_neg hl];obtain ⟨h1,h2⟩:=ih (p:=p++[b]) (by omega)
    have e:(bl l c+1).toNat=(bl l c).toNat+1:=by omega
    rw [e];simp only [spl,if_neg hb,List.take_succ_cons,List.drop_succ_cons];refine ⟨by rw [h1]; simp,?_⟩
    rw [List.count_cons,h2];simp [hb]
theorem Kf (c:UInt8):∀ (s p:Str),(spl c s p).length=s.count c+1:=by
 intro s
 induction s with
 | nil=>intro p; simp [spl]
 | cons b l ih =>
  intro p;simp only [spl];split
  ·rename_i h;subst h;simp [ih]
  ·rename_i h;rw [ih,List.count_cons];simp [h]
theorem JV {α:Type} (d:List α) (k:Nat) (z x:α) (h:0 < k):(d++List.replicate k z).set d.length x=(d++[x])++List.replicate (k - 1) z:=by
 obtain ⟨k,rfl⟩:∃ j,k=j+1:=⟨k - 1,by omega⟩
 rw [List.set_append_right _ _ (Nat.le_refl _)];simp [List.replicate_succ]
def qv:Con:=.fn 66 (Str × UInt8) (fun a=>[.str a.1,.str [a.2],.int .i64 0,.int .i64 (-1)]) (fun a=>a.1.length<=1073741824) (fun a=>.sl false 1 (aa (spl a.2 a.1 []))) (fun _=>[])
def dN (N:Nat) (d:List Str):List Str:=d++List.replicate (N - d.length) []
theorem DZ (N:Nat) (d:List Str) (h:d.length<=N):(dN N d).length=N:=by simp [dN]; omega
theorem s6 (N:Nat) (d:List Str) (x:Str) (h:d.length < N):(dN N d).set d.length x=dN N (d++[x]):=by
 unfold dN;rw [JV _ _ _ _ (by omega)]
 simp only [List.length_append,List.length_cons,List.length_nil]
 congr 2
theorem xt (N:Nat):dN N []=List.replicate N []:=by simp [dN]
set_option maxRecDepth 8000
theorem DT:Has Tryz.prog 149 qv:=by
 refine ah mixed ap (HasL.cons Kw (HasL.cons Ky HasL.nil)) [0,1,2,3,8,9,10,11] ((fun a n (_:Nat)=>(fun a _=>⟨List Str × Str,fun t=>⟨[(0,true,.str t.2),(1,true,.str [a.2]),(2,true,.int .i64 0),(3,true,.int .i64 (a.1.count a.2)),(8,true,.nil),(9,true,.own 9 1 (aa (dN (a.1.count a.2+1) t.1))),(10,true,.int .i64 t.1.length)],dw 9 (dN (a.1.count a.2+1) t.1)⟩,fun t=>t.1.length+t.2.count a.2=a.1.count a.2/\t.2.length<=a.1.length/\t.1++spl a.2 t.2 []=spl a.2 a.1 [],fun t=>a.1.count a.2 - t.1.length⟩) a n)) [] Tryz.func149 (by unfold Tryz.f149; rfl) (fun _=>⟨(),trivial⟩) ?_
 intro a ha;obtain ⟨s,c⟩:=a;replace ha:s.length<=1073741824:=ha;have hc:s.count c<=s.length:=List.count_le_length;simp -implicitDefEqProofs [qv,wE,wF,Con.fn,ag]
 try dsimp only
 have hif:¬ s.length < s.count c:=by omega
 have hr:(List.replicate ((s.count c:Int)+1).toNat [D.str []])=aa (dN (s.count c+1) []):=by rw [show ((s.count c:Int)+1).toNat=s.count c+1 by omega,xt,bN]
 have K1:∀ (a:List Str) (b:Str),a.length+b.count c=s.count c->a.length < (dN (s.count c+1) a).length:=fun a b h=>by rw [DZ _ _ (by omega)]; omega
 have K2:∀ (a:List Str) (b:Str),a.length+b.count c=s.count c->a++spl c b []=spl c s []->(bl b c < 0 \/ s.count c<=a.length)->spl c s []=((dN (s.count c+1) a).set a.length b).take (a.length+1):=by
  intro a b h1 h2 h3;have h4:bl b c < 0:=by
   rcases h3 with h | h
   ·exact h
   ·refine Classical.byContradiction fun hn=>?_;have:=(z7 (p:=[]) (Int.not_lt.1 hn)).2;omega
  have h5:=Kh (p:=[]) h4;rw [<- h2,h5.1,s6 _ _ _ (by omega)]
  unfold dN;rw [List.take_left' (by simp)]
  rfl
 have K3:∀ (b:Str),bl b c < b.length:=fun b=>El b c;have K4:∀ (a:List Str) (b:Str),a.length+b.count c=s.count c->b.length<=s.length->a++spl c b []=spl c s []->0<=bl b c ->
   ∃ x,dN (s.count c+1) x=(dN (s.count c+1) a).set a.length (b.take (bl b c).toNat)/\x.length=a.length+1/\(dN (s.count c+1) a).set a.length (b.take (bl b c).toNat)=dN (s.count c+1) x /\
    x.length+((b.drop (bl b c+1).toNat).take (b.length - (bl b c+1).toNat)).count c=s.count c/\b.length<=s.length+(bl b c+1).toNat /\
    x++spl c ((b.drop (bl b c+1).toNat).take (b.length - (bl b c+1).toNat)) []=spl c s []/\s.count c - x.length < s.count c - a.length:=by
  intro a b h1 h2 h3 h4;obtain ⟨h5,h6⟩:=z7 (p:=[]) h4;have e1:(bl b c+1).toNat=(bl b c).toNat+1:=by omega
  have e2:(b.drop (bl b c+1).toNat).take (b.length - (bl b c+1).toNat)=b.drop ((bl b c).toNat+1):=by rw [e1]; exact List.take_of_length_le (by simp)
  rw [e2];refine ⟨a++[b.take (bl b c).toNat],(s6 _ _ _ (by omega)).symm,by simp,s6 _ _ _ (by omega),by simp; omega,by omega,?_,by simp; omega⟩
  rw [<- h3,h5];simp
 simp +contextual [ak,an,bP,bn,bQ,List.getElem?_eq_getElem,bX,bV,bN,bU,<- bw,<- bS,bj,bp,bW,bT,aU,bH,and_assoc,hif,hr]
 repeat' (first | intro _ | apply And.intro)
 all_goals first | omega | grind [xt] | exact K4 _ _ (by omega) (by omega) (by assumption) (by omega)
def se:Con:=.fn 8 (Str × UInt8) (fun a=>[.str a.1,.str [a.2]]) (fun a=>a.1.length<=1073741824) (fun a=>.sl false 1 (aa (spl a.2 a.1 []))) (fun _=>[])
theorem Kk:Has Tryz.prog 75 se:=by
 refine ah mixed ap (HasL.cons DT HasL.nil) [0,1,4] ((fun a n (_:Nat)=>(fun _=>aw) a n)) [] Tryz.func75 (by unfold Tryz.f75; rfl) (fun _=>⟨(),trivial⟩) ?_
 intro a ha;obtain ⟨s,c⟩:=a;replace ha:s.length<=1073741824:=ha;simp -implicitDefEqProofs [se,Con.fn,ag,qv]
 try dsimp only
 try simp +contextual [ak,an,bP,bn,bQ,List.getElem?_eq_getElem,bX,bV,bN,bU,<- bw,<- bS,bj,bp,bW,bT,aU,bH,and_assoc]
 repeat' (first | intro _ | apply And.intro)
 all_goals first | omega | grind [cm]
def gH (s:Str):Bool:=decide ((spl 47 s []).length<=3) && (spl 47 s []).all aM
def kF:Con:=.fn 21 Str (fun s=>[.str s]) (fun s=>s.length<=1073741824) (fun s=>.bool (gH s)) (fun _=>[])
theorem o0:Has Tryz.prog 84 kF:=by
 refine ah mixed ap (HasL.cons Kk (HasL.cons j4 HasL.nil)) [0,2,3,5,11,12,13] ((fun a n (_:Nat)=>(fun s _=>⟨Nat,fun i=>⟨[(2,true,.bool false),(11,true,.sl false 1 (aa (spl 47 s []))),(12,true,.int .i64 (spl 47 s []).length),(13,true,.int .i64 i)],[]⟩,fun i=>i<=(spl 47 s []).length/\(spl 47 s []).length<=3/\((spl 47 s []).take i).all aM=true,fun i=>(spl 47 s []).length - i⟩) a n)) [] Tryz.func84 (by unfold Tryz.f84; rfl) (fun _=>⟨(),trivial⟩) ?_
 intro (s:Str) hs;replace hs:s.length<=1073741824:=hs;simp -implicitDefEqProofs [kF,Con.fn,ag,se,iw]
 try dsimp only
 try simp +contextual [ak,an,bP,bn,bQ,List.getElem?_eq_getElem,bX,bV,bN,bU,<- bw,<- bS,bj,bp,bW,bT,aU,bH,and_assoc]
 repeat' (first | intro _ | apply And.intro)
 all_goals first | omega | grind [cm,gH,List.take_succ_eq_append_getElem]
set_option maxRecDepth 8000
def gZ (d p:Str):Bool:=gH d && gH p && iF (d++[47]) p
def nM:Con:=.fn 17 (Str × Str) (fun a=>[.str a.1,.str a.2]) (fun a=>a.1.length<=536870912/\a.2.length<=536870912) (fun a=>.bool (gZ a.1 a.2)) (fun _=>[])
theorem zt:Has Tryz.prog 92 nM:=by
 refine ah mixed ap (HasL.cons o0 (HasL.cons D5 HasL.nil)) [0,1,4] ((fun a n (_:Nat)=>(fun _=>aw) a n)) [] Tryz.func92 (by unfold Tryz.f92; rfl) (fun _=>⟨(),trivial⟩) ?_
 intro a ha;obtain ⟨d,p⟩:=a;obtain ⟨h1,h2⟩:d.length<=536870912/\p.length<=536870912:=ha;simp -implicitDefEqProofs [nM,Con.fn,ag,kF,qx]
 try dsimp only
 try simp +contextual [ak,an,bP,bn,bQ,List.getElem?_eq_getElem,bX,bV,bN,bU,<- bw,<- bS,bj,bp,bW,bT,aU,bH,and_assoc]
 repeat' (first | intro _ | apply And.intro)
 all_goals first | omega | grind [cm,gZ,maxLen]
def dB (t:List FileD) (i:Nat):Bool:=aD (t.getD i default).text && gH (t.getD i default).path && (decide (i=0) || Go.Op.bytesLess (t.getD (i - 1) default).path (t.getD i default).path)
def gB (t:List FileD) (i:Nat):Bool:=(List.range i).all fun k=>!gZ (t.getD k default).path (t.getD i default).path
def aC (t:List FileD):Bool:=decide (t.length<=8) && (List.range t.length).all fun i=>dB t i && gB t i
def kG:Con:=.fn 57 (List FileD) (fun t=>[.sl true 2 (ac t)]) (fun t=>∀ f ∈ t,f.path.length<=536870912) (fun t=>.bool (aC t)) (fun _=>[])
def tiO (t:List FileD):Inv:=⟨Nat,fun i=>⟨[(0,true,.sl true 2 (ac t)),(2,true,.bool false),(10,true,.sl true 2 (ac t)),(11,true,.int .i64 t.length),(12,true,.int .i64 i)],[]⟩,fun i=>i<=t.length/\t.length<=8 /\ ∀ j,j < i->dB t j=true/\gB t j=true,fun i=>t.length - i⟩
def tiI (t:List FileD) (g:Nat):Inv:=⟨Nat,fun k=>⟨[(0,true,.sl true 2 (ac t)),(2,true,.bool false),(3,true,.int .i64 g),(4,true,.ptr 10 0),(10,true,.sl true 2 (ac t)),(11,true,.int .i64 t.length),(12,true,.int .i64 g),(44,true,.sl true 2 (ac (t.take g))),(45,true,.int .i64 g),(46,true,.int .i64 k)],
  [(10,.box 119 [.str (t.getD g default).path,.sl true 1 (aa (t.getD g default).text)])]⟩,fun x=>g < t.length/\x<=g/\t.length<=8/\(∀ j,j < g->dB t j=true/\gB t j=true)/\dB t g=true /\ ∀ k,k < x->gZ (t.getD k default).path (t.getD g default).path=false,fun x=>g - x⟩
def vj (t:List FileD) (n g:Nat):Inv:=if n=4 then tiO t else tiI t g
theorem KV (t:List FileD) (g:Nat):vj t 4 g=tiO t:=rfl
theorem KW (t:List FileD) (g:Nat):vj t 9 g=tiI t g:=rfl
theorem pG:Has Tryz.prog 62 kG:=by
 refine ah mixed ap (HasL.cons vf (HasL.cons o0 (HasL.cons zt HasL.nil))) [0,2,3,4,6,10,11,12,44,45,46] (fun t=>vj t) [] Tryz.func62 (by unfold Tryz.f62; rfl) (fun _=>⟨(),trivial⟩) ?_
 intro (t:List FileD) ht;replace ht:∀ f ∈ t,f.path.length<=536870912:=ht;have hp:∀ i (h:i < t.length),(t[i]).path.length<=536870912:=fun i h=>ht _ (List.getElem_mem h);simp -implicitDefEqProofs [kG,Con.fn,ag,lR,kF,nM,KV,KW,tiO,tiI]
 try dsimp only
 have hE:aC t=true ↔ t.length<=8 /\ ∀ i,i < t.length->dB t i=true/\gB t i=true:=by simp [aC]
 have hF:∀ i,i < t.length->(dB t i && gB t i)=false->aC t=false:=by
  intro i hi h;rcases hb:aC t with _ | _
  ·rfl
  ·exact absurd ((hE.1 hb).2 i hi) (by simpa using h)
 have hH:∀ i,i < t.length->dB t i=false->aC t=false:=fun i hi h=>hF i hi (by simp [h])
 have hN:∀ i k,i < t.length->k < i->gZ (t.getD k default).path (t.getD i default).path=true->aC t=false:=by
  intro i k hi hk h;refine hF i hi ?_;have:gB t i=false:=by
   simp only [gB,List.all_eq_false];exact ⟨k,List.mem_range.2 hk,by simpa using h⟩
  simp [this]
 have hI:∀ i,(∀ k,k < i->gZ (t.getD k default).path (t.getD i default).path=false)->gB t i=true:=by
  intro i h;simp only [gB,List.all_eq_true,List.mem_range];intro k hk;simp only [h k hk,Bool.not_false]
 have hB:8 < t.length->aC t=false:=by
  intro h;rcases hb:aC t with _ | _
  ·rfl
  ·exact absurd (hE.1 hb).1 (by omega)
 have e1:∀ k (h:k < t.length),Option.map an t[k]? = some (an t[k]):=fun k h=>by simp [List.getElem?_eq_getElem h]
 have e2:∀ i,i < t.length->i - 1 < t.length:=fun i h=>by omega
 have e4:∀ i k (h:k < i) (h2:i < t.length),Option.map an (List.take i t)[k]? = some (an t[k]):=fun i k h h2=>by rw [List.getElem?_take,if_pos h]; exact e1 k (by omega)
 have hg:∀ i (h:i < t.length),t.getD i default=t[i]:=fun i h=>by simp [List.getD_eq_getElem?_getD,h]
 intro _;refine ⟨fun h=>hB (by omega),fun h8 _=>⟨by omega,fun i hi h8' hprev=>⟨fun hlt=>?_,fun hge=>?_⟩⟩⟩
 ·have e3:=e1 i hlt;have e3':=e1 (i - 1) (e2 i hlt);have hpi:=hp i hlt;have hgi:=hg i hlt;have hgi':=hg (i - 1) (e2 i hlt);have hh:dB t i=(aD t[i].text && gH t[i].path && (decide (i=0) || Go.Op.bytesLess t[i - 1].path t[i].path)):=by simp only [dB,hgi,hgi']
  have hm:min i t.length=i:=by omega
  have hgg:t[i]?.getD default=t[i]:=by simpa [List.getD_eq_getElem?_getD] using hgi
  simp [hlt,e2 i hlt,e3,e3',an,ak,D.asStr,D.asRows,hm,bn,and_assoc,hgg]
  try simp +contextual [ak,an,bP,bn,bQ,List.getElem?_eq_getElem,bX,bV,bN,bU,<- bw,<- bS,bj,bp,bW,bT,aU,bH,and_assoc,e4,hgg,hm,hlt,D.asStr,D.asRows,Cv]
  repeat' (first | intro _ | apply And.intro)
  all_goals first | omega | grind
 ·have hT:aC t=true:=hE.2 ⟨h8',fun j hj=>hprev j (by omega)⟩
  simp [hT]
  repeat' (first | intro _ | apply And.intro)
  all_goals first | omega | grind
theorem vo (t:List FileD) (h:aC t=true):t.length<=8 /\ ∀ f ∈ t,f.text.length<=64:=by
 simp only [aC,Bool.and_eq_true,decide_eq_true_eq,List.all_eq_true,List.mem_range,dB] at h;refine ⟨h.1,fun f hf=>?_⟩;obtain ⟨i,hi,rfl⟩:=List.getElem_of_mem hf;have:=(h.2 i hi).1.1.1;simp [List.getD_eq_getElem?_getD,hi,aD] at this;omega
theorem gv:∀ (x y:Str),Go.Op.bytesLess x y=decide (x < y)
 | [],[]=>by simp [Go.Op.bytesLess]
 | _ :: _,[]=>by simp [Go.Op.bytesLess]
 | [],_ :: _=>by simp [Go.Op.bytesLess]
 | a :: x,b :: y=>by
  rw [Go.Op.bytesLess,gv x y];simp only [List.cons_lt_cons_iff];by_cases h1:a < b <;> by_cases h2:a=b <;> by_cases h3:x < y <;> simp [h1,h2,h3]
theorem kf (a:Str):¬ a < a:=List.lt_irrefl a
theorem vd {a b c:Str} (h:a < b) (h':b < c):a < c:=List.lt_trans h h'
theorem pw (a b:Str) (h:¬ a < b) (hne:a ≠ b):b < a:=by
 have h1:b<=a:=List.not_lt.1 h;exact Classical.byContradiction fun h2=>hne (List.le_antisymm (List.not_lt.1 h2) h1)
theorem pt {a b:Str} (h:a < b):¬ b < a:=fun h'=>kf a (vd h h')
theorem yi (a b:Str):kW a b = !decide (b < a):=by
 unfold kW;rw [gv];by_cases h:a < b
 ·simp [h,pt h]
 ·by_cases e:a=b
  ·subst e; simp [kf]
  ·simp [h,e,pw a b h e]
theorem C7 {b:UInt8} {most:Nat}:∀ {r c:Str} {n:Nat},n+r.count b<=most->dq (b.toNat:Int) most r c n=spl b r c:=by
 intro r
 induction r with
 | nil=>intro c n _; rfl
 | cons x r ih =>
  intro c n h;have hx:((x.toNat:Int)=(b.toNat:Int))=(x=b):=by
   apply propext;constructor
   ·intro h; exact UInt8.toNat_inj.1 (by omega)
   ·rintro rfl; rfl
  by_cases hb:x=b
  ·subst hb;rw [List.count_cons_self] at h;simp only [dq,spl,if_true,show n < most by omega]
   rw [ih (by omega)]
  ·rw [List.count_cons_of_ne hb] at h;simp only [dq,spl,hx,hb,if_false];split
   ·exact ih h
   ·have h0:r.count b=0:=by omega
    have:∀ (q p:Str),q.count b=0->spl b q p=[p++q]:=by
     intro q
     induction q with
     | nil=>intro p _; simp [spl]
     | cons y q ih2 =>
      intro p hq;have hy:y ≠ b:=by rintro rfl; simp at hq
      rw [List.count_cons_of_ne hy] at hq;simp only [spl,hy,if_false];rw [ih2 _ hq]; simp
    rw [this r _ h0]; simp
theorem C5 {b:UInt8} {most:Nat}:∀ {r c:Str} {n:Nat},n<=most->most < n+r.count b->(dq (b.toNat:Int) most r c n).length=most - n+1:=by
 intro r
 induction r with
 | nil=>intro c n h1 h2; simp at h2; omega
 | cons x r ih =>
  intro c n h1 h2;have hx:((x.toNat:Int)=(b.toNat:Int))=(x=b):=by
   apply propext;constructor
   ·intro h; exact UInt8.toNat_inj.1 (by omega)
   ·rintro rfl; rfl
  simp only [dq,hx];split
  ·split
   ·rename_i hb;subst hb;rw [List.count_cons_self] at h2;rw [List.length_cons,ih (by omega) (by omega)]
    omega
   ·rename_i hb;rw [List.count_cons_of_ne hb] at h2;rw [ih h1 h2]
  ·simp; omega
theorem mA (s:Str):gH s=bI s:=by
 unfold gH bI;by_cases h:s.count 47<=3
 ·have:eO s 47 3=spl 47 s []:=C7 (b:=47) (most:=3) (by omega)
  rw [this,Bool.and_comm]
 ·have h1:(eO s 47 3).length=4:=C5 (b:=47) (most:=3) (r:=s) (c:=[]) (n:=0) (by omega) (by omega)
  have h2:=Kf 47 s [];simp [h1,h2,h];omega
theorem tg (d p:Str):inB d p=iF (d++[47]) p:=by
 unfold inB iF;by_cases h:d.length < p.length
 ·have e:p.take (d.length+1)=p.take d.length++[p[d.length]]:=List.take_succ_eq_append_getElem h;simp only [List.length_append,List.length_cons,List.length_nil,Nat.zero_add,e,h,show d.length+1<=p.length by omega,decide_true,Bool.true_and]
  have hg:p.getD d.length 0=p[d.length]:=getD_nat _ _ h;rw [hg,Bool.eq_iff_iff];simp only [Bool.and_eq_true,decide_eq_true_eq];constructor
  ·rintro ⟨h1,h2⟩; rw [h1,h2]
  ·intro h1;have:=List.append_inj h1 (by simp; omega)
   exact ⟨this.1,by simpa using this.2⟩
 ·simp [h];omega
theorem IM {d p:Str} (h:iF (d++[47]) p=true):d < p:=by
 unfold iF at h;simp only [Bool.and_eq_true,decide_eq_true_eq,List.length_append,List.length_cons,List.length_nil,Nat.zero_add] at h;have e:p=d++(47 :: p.drop (d.length+1)):=by
  have:=List.take_append_drop (d.length+1) p;rw [h.2] at this
  simpa using this.symm
 rw [e];generalize p.drop (d.length+1)=q;clear h e
 induction d with
 | nil=>exact List.nil_lt_cons _ _
 | cons x d ih=>exact List.cons_lt_cons_iff.2 (.inr ⟨rfl,ih⟩)
theorem fW (t:List FileD):aC t=aH t:=by
 have hasc:(∀ i,i < t.length->dB t i=true) -> ∀ i k,i < k->k < t.length->(t.getD i default).path < (t.getD k default).path:=by
  intro h i k hik hk
  induction k with
  | zero=>omega
  | succ k ih =>
   have h1:=h (k+1) hk;simp only [dB,Bool.and_eq_true,Bool.or_eq_true,decide_eq_true_eq,gv,Nat.add_sub_cancel] at h1;have h2:(t.getD k default).path < (t.getD (k+1) default).path:=by
    rcases h1.2 with h2 | h2
    ·omega
    ·exact h2
   rcases Nat.lt_or_ge i k with h3 | h3
   ·exact vd (ih h3 (by omega)) h2
   ·have:i=k:=by omega
    subst this; exact h2
 have hhead:∀ i,eS t i=dB t i:=by
  intro i;simp only [eS,dB,mA,yi,gv,Bool.not_not];rw [Bool.and_comm (bI _)]
 rw [Bool.eq_iff_iff];simp only [aC,aH,Bool.and_eq_true,decide_eq_true_eq,List.all_eq_true,List.mem_range,hhead];constructor
 ·rintro ⟨h8,h⟩;refine ⟨fun i hi=>⟨(h i hi).1,?_⟩,h8⟩;simp only [gA,List.all_eq_true,Bool.not_eq_true'];intro g hg;obtain ⟨k,hk,rfl⟩:=List.getElem_of_mem hg;rw [show t[k]=t.getD k default by simp [List.getD_eq_getElem?_getD,hk],tg]
  cases hp:iF ((t.getD i default).path++[47]) (t.getD k default).path with
  | false=>rfl
  | true =>
   exfalso;have hlt:=IM hp;have hik:i < k:=by
    rcases Nat.lt_trichotomy i k with h1 | h1 | h1
    ·exact h1
    ·subst h1; exact absurd hlt (kf _)
    ·exact absurd hlt (pt (hasc (fun i hi=>(h i hi).1) k i h1 hi))
   have h2:=(h k hk).2;simp only [gB,List.all_eq_true,List.mem_range,Bool.not_eq_true'] at h2;have h3:=h2 i hik;have p1:=(h i hi).1;have p2:=(h k hk).1;simp only [dB,Bool.and_eq_true] at p1 p2;simp only [gZ,p1.1.2,p2.1.2,hp,Bool.and_self,reduceCtorEq] at h3
 ·rintro ⟨h,h8⟩;refine ⟨h8,fun i hi=>⟨(h i hi).1,?_⟩⟩;simp only [gB,List.all_eq_true,List.mem_range,Bool.not_eq_true'];intro k hk;have h2:=(h k (by omega)).2
  simp only [gA,List.all_eq_true,Bool.not_eq_true'] at h2;have h3:=h2 _ (List.getElem_mem hi);rw [show t[i]=t.getD i default by simp [List.getD_eq_getElem?_getD,hi],tg] at h3
  simp only [gZ,h3,Bool.and_false]
def iZ {α:Type} (p:α -> Bool) (l:List α):Int:=match l.findIdx? p with | some i=>(i:Int) | none=>-1
theorem En {α:Type} {p:α -> Bool} {l:List α} {i:Nat} (h:i < l.length) (hp:p l[i]=true) (hb:∀ x,x ∈ l.take i->p x=false):iZ p l=(i:Int):=by
 unfold iZ;have:l.findIdx? p=some i:=by
  rw [List.findIdx?_eq_some_iff_getElem];refine ⟨h,hp,fun j hj=>?_⟩;have:=hb l[j] (List.mem_take_iff_getElem.2 ⟨j,by omega,rfl⟩)
  simp [this]
 rw [this]
theorem Eo {α:Type} {p:α -> Bool} {l:List α} {i:Nat} (h:l.length<=i) (hb:∀ x,x ∈ l.take i->p x=false):iZ p l = -1:=by
 unfold iZ;rw [List.take_of_length_le h] at hb;rw [List.findIdx?_eq_none_iff.2 (by simpa using hb)]
theorem Em {α:Type} (p:α -> Bool) (l:List α):(0<=iZ p l)=(l.any p=true):=by
 apply propext;unfold iZ;cases h:l.findIdx? p with
 | some i =>
  obtain ⟨h1,h2,_⟩:=List.findIdx?_eq_some_iff_getElem.1 h;simp only [Int.natCast_nonneg,true_iff,List.any_eq_true];exact ⟨_,List.getElem_mem h1,h2⟩
 | none =>
  have:=List.findIdx?_eq_none_iff.1 h;simp only [List.any_eq_true];constructor
  ·intro h; omega
  ·rintro ⟨x,hx,hp⟩; rw [this x hx] at hp; cases hp
theorem Ad {α:Type} {l:List α} {i:Nat} {q:α -> Prop} (h:i < l.length) (hb:∀ x,x ∈ l.take i->q x) (hi:q l[i]):∀ x,x ∈ l.take (i+1)->q x:=by
 intro x hx;rw [List.take_succ_eq_append_getElem h,List.mem_append] at hx;rcases hx with hx | hx
 ·exact hb x hx
 ·simp only [List.mem_singleton] at hx;subst hx; exact hi







theorem sO {l:List Str} {x:List D} {d:D} (h:x ∈ aa l) (h':d ∈ x):∃ s,d=D.str s:=by
 simp only [aa,List.mem_map] at h;obtain ⟨s,_,rfl⟩:=h;simp only [ak,List.mem_singleton] at h';exact ⟨s,h'⟩
def jL:Con:=.fn 6 (List Str) (fun a=>[.sl true 1 (aa a)]) (fun a=>a.length<=1048576) (fun a=>.own 8 1 (aa a)) (fun a=>dw 8 a)
theorem lV:Has Tryz.prog 90 jL:=by
 refine ah mixed ap HasL.nil [0,2] ((fun a n (_:Nat)=>(fun _=>aw) a n)) [] Tryz.func90 (by unfold Tryz.f90; rfl) (fun _=>⟨(),trivial⟩) ?_
 intro (a:List Str) ha;replace ha:a.length<=1048576:=ha;simp -implicitDefEqProofs [jL,Con.fn,ag]
 try dsimp only
 try simp +contextual [ak,an,bP,bn,bQ,List.getElem?_eq_getElem,bX,bV,bN,bU,<- bw,<- bS,bj,bp,bW,bT,aU,bH,and_assoc]
 repeat' (first | intro _ | apply And.intro)
 all_goals first | omega | grind [cm,sO]
def lI:Con:=.fn 23 (List FileD) (fun a=>[.sl true 2 (ac a)]) (fun a=>a.length<=1048576 /\ ∀ f ∈ a,f.text.length<=1048576) (fun a=>.own 8 2 (ac a)) (fun a=>jh 8 a)
theorem sI:Has Tryz.prog 102 lI:=by
 refine ah mixed ap (HasL.cons lV HasL.nil) [0,2,3,5,6,7,8] ((fun a n (_:Nat)=>(fun a _=>⟨Nat,fun i=>⟨[(2,true,.nil),(3,true,.own 9 2 (ac (a.take i))),(6,true,.sl true 2 (ac a)),(7,true,.int .i64 a.length),(8,true,.int .i64 i)],jh 9 (a.take i)⟩,fun i=>i<=a.length,fun i=>a.length - i⟩) a n)) [19] Tryz.func102 (by unfold Tryz.f102; rfl) (fun _=>⟨(),trivial⟩) ?_
 intro (a:List FileD) ha;obtain ⟨h1,h2⟩:a.length<=1048576 /\ ∀ f ∈ a,f.text.length<=1048576:=ha;have h3:∀ i (h:i < a.length),a[i].text.length<=1048576:=fun i h=>h2 _ (List.getElem_mem h);simp -implicitDefEqProofs [lI,Con.fn,ag,jL]
 try dsimp only
 try simp +contextual [ak,an,bP,bn,bQ,List.getElem?_eq_getElem,bX,bV,bN,bU,<- bw,<- bS,bj,bp,bW,bT,aU,bH,and_assoc,<- FileD.eq_iff]
 repeat' (first | intro _ | apply And.intro)
 all_goals first | omega | grind [cm,List.take_of_length_le,List.take_succ_eq_append_getElem]
def iS:Con:=.fn 29 (List FileD) (fun a=>[.sl true 2 (ac a)]) (fun a=>a.length<=1048576 /\ ∀ f ∈ a,f.text.length<=1048576) (fun a=>.own 8 2 (ac a)) (fun a=>jh 8 a)
theorem kU:Has Tryz.prog 178 iS:=by
 refine ah mixed ap HasL.nil [0,2,3,4] ((fun a n (_:Nat)=>(fun a _=>⟨Nat,fun i=>⟨[(0,true,.sl true 2 (ac a)),(2,true,.nil),(3,true,.own 9 2 (ac (a.take i))),(4,true,.int .i64 i)],jh 9 (a.take i)⟩,fun i=>i<=a.length,fun i=>a.length - i⟩) a n)) [26] Tryz.func178 (by unfold Tryz.f178; rfl) (fun _=>⟨(),trivial⟩) ?_
 intro (a:List FileD) ha;obtain ⟨h1,h2⟩:a.length<=1048576 /\ ∀ f ∈ a,f.text.length<=1048576:=ha;have h3:∀ i (h:i < a.length),a[i].text.length<=1048576:=fun i h=>h2 _ (List.getElem_mem h);simp -implicitDefEqProofs [iS,Con.fn,ag]
 try dsimp only
 try simp +contextual [ak,an,bP,bn,bQ,List.getElem?_eq_getElem,bX,bV,bN,bU,<- bw,<- bS,bj,bp,bW,bT,aU,bH,and_assoc,<- FileD.eq_iff]
 repeat' (first | intro _ | apply And.intro)
 all_goals first | omega | grind [cm,sO,List.take_of_length_le,List.take_succ_eq_append_getElem]
def bD (p:FileD->Bool) (t:List FileD):List FileD:=t.filter p
theorem DB {p:FileD->Bool} {t:List FileD} {i:Nat} (h:i < t.length) (hp:p t[i]=true):bD p (t.take (i+1))=bD p (t.take i)++[t[i]]:=by
 unfold bD;rw [bM h,List.filter_append];simp [List.filter_cons,hp]
theorem DC {p:FileD->Bool} {t:List FileD} {i:Nat} (h:i < t.length) (hp:p t[i]=false):bD p (t.take (i+1))=bD p (t.take i):=by
 unfold bD;rw [bM h,List.filter_append];simp [List.filter_cons,hp]
def eD (f:FileD) (acc:List FileD × Bool) (g:FileD):List FileD × Bool :=
 if acc.2=false/\Go.Op.bytesLess g.path f.path=false then (if g.path=f.path then (acc.1++[f],true) else (acc.1++[f]++[g],true))
 else (if g.path=f.path then acc else (acc.1++[g],acc.2))
def bm (f:FileD) (l:List FileD):List FileD × Bool:=l.foldl (eD f) ([],false)
def ic (t:List FileD) (f:FileD):List FileD:=if (bm f t).2 then (bm f t).1 else (bm f t).1++[f]
theorem lv {f:FileD} {t:List FileD} {i:Nat} (h:i < t.length):bm f (t.take (i+1))=eD f (bm f (t.take i)) t[i]:=by
 unfold bm;rw [bM h,List.foldl_append]; rfl
theorem JS (f:FileD) (acc:List FileD × Bool) (g:FileD):(eD f acc g).1.length+acc.2.toNat<=acc.1.length+(eD f acc g).2.toNat+1:=by
 unfold eD;split
 ·rename_i h;rw [h.1];split <;> simp <;> omega
 ·split <;> simp <;> omega
theorem zV (f:FileD) (t:List FileD):(bm f t).1.length<=t.length+(bm f t).2.toNat:=by
 have:∀ (t:List FileD) (acc:List FileD × Bool),(t.foldl (eD f) acc).1.length+acc.2.toNat<=acc.1.length+t.length+(t.foldl (eD f) acc).2.toNat:=by
  intro t
  induction t with
  | nil=>intro acc; simp
  | cons g r ih =>
   intro acc;have h1:=ih (eD f acc g);have h2:=JS f acc g;simp only [List.foldl_cons,List.length_cons];omega
 have:=this t ([],false)
 simpa [bm] using this
theorem JR (t:List FileD) (f:FileD):(ic t f).length<=t.length+1:=by
 have:=zV f t;unfold ic;split
 ·rename_i h; rw [h] at this; simpa using this
 ·rename_i h;have h:(bm f t).2=false:=by simpa using h
  rw [h] at this; simp at this ⊢; omega
def nE:Con:=.fn 65 (List FileD × FileD) (fun a=>[.sl true 2 (ac a.1),.agg [.str a.2.path,.sl true 1 (aa a.2.text)]]) (fun a=>a.1.length<=1048576/\a.2.text.length<=1048576) (fun a=>.sl false 2 (ac (ic a.1 a.2))) (fun _=>[])
theorem x4:Has Tryz.prog 181 nE:=by
 refine ah mixed ap HasL.nil [0,1,3,4,5,6,7] ((fun a n (_:Nat)=>(fun a _=>⟨Nat,fun i=>⟨[(0,true,.sl true 2 (ac a.1)),(3,true,.ptr 10 0),(4,true,.nil),(5,true,.own 9 2 (ac (bm a.2 (a.1.take i)).1)),(6,true,.bool (bm a.2 (a.1.take i)).2),(7,true,.int .i64 i)],[(10,.box 119 [.str a.2.path,.sl true 1 (aa a.2.text)]),(9,.own 119 2 false (ac (bm a.2 (a.1.take i)).1))]⟩,fun i=>i<=a.1.length,fun i=>a.1.length - i⟩) a n)) [35,62] Tryz.func181 (by unfold Tryz.f181; rfl) (fun _=>⟨(),trivial⟩) ?_
 intro a ha;obtain ⟨t,f⟩:=a;obtain ⟨q1,q2⟩:t.length<=1048576/\f.text.length<=1048576:=ha;have a0:bm f []=([],false):=rfl;have a1:∀ i (h:i < t.length),(bm f (t.take i)).2=true -> ¬ t[i].path=f.path->bm f (t.take (i+1))=((bm f (t.take i)).1++[t[i]],true):=fun i h h1 h2=>by rw [lv h]; simp [eD,h1,h2]
 have a2:∀ i (h:i < t.length),(bm f (t.take i)).2=true->t[i].path=f.path->bm f (t.take (i+1))=((bm f (t.take i)).1,true):=fun i h h1 h2=>by rw [lv h]; unfold eD; rw [if_neg (by simp [h1]),if_pos h2]; exact Prod.ext rfl h1
 have a3:∀ i (h:i < t.length),(bm f (t.take i)).2=false->Go.Op.bytesLess t[i].path f.path=false -> ¬ t[i].path=f.path->bm f (t.take (i+1))=((bm f (t.take i)).1++[f]++[t[i]],true):=fun i h h1 h3 h2=>by rw [lv h]; simp [eD,h1,h2,h3]
 have a4:∀ i (h:i < t.length),(bm f (t.take i)).2=false->Go.Op.bytesLess t[i].path f.path=false->t[i].path=f.path->bm f (t.take (i+1))=((bm f (t.take i)).1++[f],true):=fun i h h1 h3 h2=>by rw [lv h]; rw [h2] at h3; simp [eD,h1,h2,h3]
 have a5:∀ i (h:i < t.length),(bm f (t.take i)).2=false->Go.Op.bytesLess t[i].path f.path=true -> ¬ t[i].path=f.path->bm f (t.take (i+1))=((bm f (t.take i)).1++[t[i]],false):=fun i h h1 h3 h2=>by rw [lv h]; simp [eD,h1,h2,h3]
 have a6:∀ i (h:i < t.length),(bm f (t.take i)).2=false->Go.Op.bytesLess t[i].path f.path=true->t[i].path=f.path->bm f (t.take (i+1))=((bm f (t.take i)).1,false):=fun i h h1 h3 h2=>by rw [lv h]; unfold eD; rw [if_neg (by simp [h3]),if_pos h2]; exact Prod.ext rfl h1
 have a7:∀ i,(bm f (t.take i)).1.length<=1048577:=fun i=>by
  have h1:=zV f (t.take i);have h2:=Bool.toNat_le (bm f (t.take i)).2;have h3:(t.take i).length<=t.length:=by simp; omega
  omega
 have a8:(bm f t).2=true->ic t f=(bm f t).1:=fun h=>by simp [ic,h]
 have a9:(bm f t).2=false->ic t f=(bm f t).1++[f]:=fun h=>by simp [ic,h]
 simp -implicitDefEqProofs [nE,Con.fn,ag]
 try dsimp only
 have b1:∀ (X:List FileD) (g:FileD),ac X++[[D.str f.path,D.sl 9 1 (aa f.text)],[D.str g.path,D.sl 9 1 (aa g.text)]]=ac (X++[f]++[g]):=fun X g=>by simp [ac,an]
 refine ⟨⟨0,by simp [a0]⟩,?_⟩
 try simp +contextual [ak,an,bP,bn,bQ,List.getElem?_eq_getElem,bX,bV,bN,bU,<- bw,<- bS,bj,bp,bW,bT,aU,bH,and_assoc,b1,<- FileD.eq_iff]
 repeat' (first | intro _ | apply And.intro)
 all_goals first | omega | grind [cm,sO,List.take_of_length_le]
theorem gR (b:List Str) (x:Str) (R:List (List D)):(aa b=[D.str x] :: R) = ∃ t,b=x :: t/\aa t=R:=by
 apply propext;constructor
 ·intro h;cases b with
  | nil=>cases h
  | cons y t =>
   simp only [aa,List.map_cons,List.cons.injEq,ak,D.str.injEq,and_true] at h;exact ⟨t,by rw [h.1],h.2⟩
 ·rintro ⟨t,rfl,rfl⟩; rfl
theorem Du (b:List Int) (x:Int) (R:List (List D)):(aj b=[D.int .i64 x] :: R) = ∃ t,b=x :: t/\aj t=R:=by
 apply propext;constructor
 ·intro h;cases b with
  | nil=>cases h
  | cons y t =>
   simp only [aj,List.map_cons,List.cons.injEq,aq,D.int.injEq,true_and,and_true] at h;exact ⟨t,by rw [h.1],h.2⟩
 ·rintro ⟨t,rfl,rfl⟩; rfl
def rq:Con:={ A:=Str × Int,X:=Str,n:=6,args:=fun _=>[.ptr 0 0],boxes:=fun a=>[(0,111,[.sl true 1 (bR a.1),.int .i64 a.2])],pre:=fun a=>a.1.length<=2000/\0<=a.2/\a.2<=1073741824,post:=fun _ x=>x.length<=7,res:=fun _ x=>.str x,fin:=fun a _=>[(0,dD a.1 (a.2+1))],nob:=false }
theorem GM:Has Tryz.prog 163 rq:=by
 refine ah mixed ap (HasL.cons of_has HasL.nil) [0,2] ((fun a n (_:Nat)=>(fun _=>aw) a n)) [] Tryz.func163 (by unfold Tryz.f163; rfl) (fun _=>⟨([]:Str),Nat.zero_le 7⟩) ?_
 intro a ha;obtain ⟨s,p⟩:=a;obtain ⟨h1,h2,h3⟩:s.length<=2000/\0<=p/\p<=1073741824:=ha;simp -implicitDefEqProofs [rq,cOf,ag,gR,clash,kd,de,f5];refine ⟨s,p,⟨rfl,rfl⟩,⟨h1,h2,h3⟩,?_⟩;simp
def rK:Con:={ A:=Str × Int,X:=Str,n:=6,args:=fun _=>[.ptr 0 0],boxes:=fun a=>[(0,111,[.sl true 1 (bR a.1),.int .i64 a.2])],pre:=fun a=>a.1.length<=2000/\0<=a.2/\a.2<=1073741824,post:=fun _ x=>x.length<=5,res:=fun _ x=>.str x,fin:=fun a _=>[(0,dD a.1 (a.2+1))],nob:=false }
theorem Im:Has Tryz.prog 37 rK:=by
 refine ah mixed ap (HasL.cons of_has HasL.nil) [0,2] ((fun a n (_:Nat)=>(fun _=>aw) a n)) [] Tryz.func37 (by unfold Tryz.f37; rfl) (fun _=>⟨([]:Str),Nat.zero_le 5⟩) ?_
 intro a ha;obtain ⟨s,p⟩:=a;obtain ⟨h1,h2,h3⟩:s.length<=2000/\0<=p/\p<=1073741824:=ha;simp -implicitDefEqProofs [rK,cOf,ag,gR,clash,kd,de,f5];refine ⟨s,p,⟨rfl,rfl⟩,⟨h1,h2,h3⟩,?_⟩;simp
def sf:Con:={ A:=Str × Int,X:=List Str × Int,n:=19,args:=fun _=>[.ptr 0 0],boxes:=fun a=>[(0,111,[.sl true 1 (bR a.1),.int .i64 a.2])],pre:=fun a=>a.1.length<=2000/\0<=a.2/\a.2<=1073741800,post:=fun a x=>x.1.length<=8/\(∀ s ∈ x.1,s.length<=7)/\a.2<=x.2/\x.2<=a.2+9,res:=fun _ x=>.own 8 1 (aa x.1),fin:=fun a x=>[(0,dD a.1 x.2),(8,.own 9 1 true (aa x.1))],nob:=false }
theorem KQ:Has Tryz.prog 82 sf:=by
 refine ah mixed ap (HasL.cons one_has (HasL.cons GM HasL.nil)) [0,2,3,4] ((fun a n (_:Nat)=>(fun a _=>⟨List Str × Int × Nat,fun t=>⟨[(0,true,.ptr 0 0),(2,true,.nil),(3,true,.own 9 1 (aa t.1)),(4,true,.int .i64 t.2.2)],[(0,dD a.1 t.2.1),(9,.own 9 1 true (aa t.1))]⟩,fun t=>t.1.length+t.2.2<=8/\(∀ s ∈ t.1,s.length<=7)/\a.2<=t.2.1/\t.2.1<=a.2+1+t.1.length,fun t=>t.2.2⟩) a n)) [] Tryz.func82 (by unfold Tryz.f82; rfl) (fun a=>⟨(([]:List Str),a.2),Nat.zero_le 8,(by simp),Int.le_refl _,by omega⟩) ?_
 intro a ha;obtain ⟨s,p⟩:=a;obtain ⟨h1,h2,h3⟩:s.length<=2000/\0<=p/\p<=1073741800:=ha;simp -implicitDefEqProofs [sf,nK,rq,ag,Du,clash,kd,de,f5];refine ⟨s,p,⟨rfl,rfl⟩,⟨h1,by omega,by omega⟩,?_⟩
 refine ⟨⟨⟨[],p+1,0,by simp; omega⟩,?_⟩,⟨⟨[],p+1,1,by simp; omega⟩,?_⟩,⟨⟨[],p+1,3,by simp; omega⟩,?_⟩,⟨⟨[],p+1,5,by simp; omega⟩,?_⟩,⟨[],p+1,8,by simp; omega⟩,?_⟩
 all_goals
  intro a q n g1 g2 g3 g4;refine ⟨fun hn=>⟨s,q,⟨rfl,rfl⟩,⟨h1,by omega,by omega⟩,fun y hy=>⟨by omega,by omega,fun _ _=>⟨a++[y],q+1,n - 1,⟨⟨(aU a y).symm,by omega⟩,⟨rfl,rfl⟩,aU a y⟩,⟨by simp; omega,fun x hx=>?_,by omega,by simp; omega⟩,by omega⟩⟩⟩,fun hn=>⟨a,q,⟨by omega,g2,by omega,by omega⟩,rfl,rfl,rfl⟩⟩
  rcases List.mem_append.1 hx with hx | hx
  ·exact g2 x hx
  ·simp at hx; subst hx; exact hy
def jz (t:List FileD) (f:FileD):List FileD × Bool:=if aH t then (if aH (ic t f) then (ic t f,true) else (t,false)) else ([],false)
def sj:Con:=.fn 20 (List FileD × FileD) (fun a=>[.sl true 2 (ac a.1),.agg [.str a.2.path,.sl true 1 (aa a.2.text)]]) (fun a=>(a.1.length<=1048575 /\ ∀ f ∈ a.1,f.text.length<=1048576)/\a.2.text.length<=1048576) (fun a=>.tup [.sl false 2 (ac (jz a.1 a.2).1),.bool (jz a.1 a.2).2]) (fun _=>[])
theorem K7:Has Tryz.prog 122 sj:=by
 refine ah mixed ap (HasL.cons md (HasL.cons kU (HasL.cons x4 HasL.nil))) [0,1,3,4,5,6] ((fun a n (_:Nat)=>(fun _=>aw) a n)) [] Tryz.func122 (by unfold Tryz.f122; rfl) (fun _=>⟨(),trivial⟩) ?_
 intro a ha;obtain ⟨t,f⟩:=a;obtain ⟨⟨q1,q2⟩,q3⟩:(t.length<=1048575 /\ ∀ f ∈ t,f.text.length<=1048576)/\f.text.length<=1048576:=ha;simp -implicitDefEqProofs [sj,Con.fn,ag,jN,iS,nE,jz]
 try dsimp only
 try simp +contextual -implicitDefEqProofs [ak,an,bP,bn,bQ,List.getElem?_eq_getElem,bX,bV,bN,bU,<- bw,<- bS,bj,bp,bW,bT,aU,bH,and_assoc]
 repeat' (first | intro _ | apply And.intro)
 all_goals first | omega | grind [cm,jz]

def nu:Con:=.fn 11 (RepoD × Int) (fun a=>[bh a.1,.int .i64 a.2]) (fun a=>a.1.commits.length<=1073741824) (fun a=>.bool (decide (0<=a.2) && decide (a.2<=(a.1.commits.length:Int) - 1))) (fun _=>[])
theorem xa:Has Tryz.prog 103 nu:=by
 refine ah mixed ap (HasL.cons vC HasL.nil) [0,1,2,4] ((fun a n (_:Nat)=>(fun _=>aw) a n)) [] Tryz.func103 (by unfold Tryz.f103; rfl) (fun _=>⟨(),trivial⟩) ?_
 intro a ha;obtain ⟨r,n⟩:=a;replace ha:r.commits.length<=1073741824:=ha;simp -implicitDefEqProofs [nu,Con.fn,ag,lT]
 try dsimp only
 try simp +contextual -implicitDefEqProofs [ak,an,bP,bn,bQ,List.getElem?_eq_getElem,bX,bV,bN,bU,<- bw,<- bS,bj,bp,bW,bT,aU,bH,and_assoc]
 repeat' (first | intro _ | apply And.intro)
 all_goals first | omega | grind [cm]
def inN (n:Nat) (a:Int):Bool:=decide (0<=a) && decide (a<=(n:Int) - 1)
def dQ (n:Nat) (h:List HeadD) (i:Nat):Bool:=aM (h.getD i default).name && inN n (h.getD i default).at_ && (decide (i=0) || Go.Op.bytesLess (h.getD (i - 1) default).name (h.getD i default).name)
def dg (n:Nat) (h:List HeadD):Bool:=decide (h.length<=5) && (List.range h.length).all (dQ n h)
theorem gq (n:Nat) (h:List HeadD):dg n h=true ↔ h.length<=5 /\ ∀ i,i < h.length->dQ n h i=true:=by simp -implicitDefEqProofs [dg]
theorem xz {n:Nat} {h:List HeadD} {i:Nat} (hi:i < h.length) (hb:dQ n h i=false):dg n h=false:=by
 cases hq:dg n h with
 | false=>rfl
 | true=>have:=((gq n h).1 hq).2 i hi; simp -implicitDefEqProofs [hb] at this
def qz:Con:=.fn 44 (RepoD × List HeadD) (fun a=>[bh a.1,.sl true 2 (ai a.2)]) (fun a=>a.1.commits.length<=1073741824) (fun a=>.bool (dg a.1.commits.length a.2)) (fun _=>[])
theorem Ee:Has Tryz.prog 64 qz:=by
 refine ah mixed ap (HasL.cons j4 (HasL.cons xa HasL.nil)) [0,1,2,4,5,6,10,11,12] ((fun a n (_:Nat)=>(fun a _=>⟨Nat,fun i=>⟨[(1,true,.sl true 2 (ai a.2)),(2,true,.ptr 10 0),(4,true,.bool false),(10,true,.sl true 2 (ai a.2)),(11,true,.int .i64 a.2.length),(12,true,.int .i64 i)],[(10,.box 35 [.sl true 3 (az a.1.commits),.sl true 2 (ai a.1.heads)])]⟩,fun i=>i<=a.2.length/\a.2.length<=5 /\ ∀ j,j < i->dQ a.1.commits.length a.2 j=true,fun i=>a.2.length - i⟩) a n)) [] Tryz.func64 (by unfold Tryz.f64; rfl) (fun _=>⟨(),trivial⟩) ?_
 intro a ha;obtain ⟨r,t⟩:=a;replace ha:r.commits.length<=1073741824:=ha;have hB:5 < t.length->dg r.commits.length t=false:=fun h=>by
  cases hq:dg r.commits.length t with
  | false=>rfl
  | true=>have:=((gq _ _).1 hq).1; omega
 have hN:=fun i=>@xz r.commits.length t i;have hE:=(gq r.commits.length t).2;have hg:∀ i (h:i < t.length),t.getD i default=t[i]:=fun i h=>by simp -implicitDefEqProofs [List.getD_eq_getElem?_getD,h]
 have hgg:∀ i (h:i < t.length),t[i]?.getD default=t[i]:=fun i h=>by simp -implicitDefEqProofs [h]
 have e1:∀ k (h:k < t.length),Option.map aW t[k]? = some (aW t[k]):=fun k h=>by simp -implicitDefEqProofs [List.getElem?_eq_getElem h]
 simp -implicitDefEqProofs [qz,Con.fn,ag,iw,nu]
 try dsimp only
 refine fun _=>⟨fun h=>hB (by omega),fun h5 _=>⟨by omega,fun i hi _ hprev=>⟨fun hlt=>?_,fun hge=>hE ⟨by omega,fun j hj=>hprev j (by omega)⟩⟩⟩⟩
 have e3:=e1 i hlt;have e4:=e1 (i - 1) (by omega)
 have hh:dQ r.commits.length t i=(aM t[i].name && inN r.commits.length t[i].at_ && (decide (i=0) || Go.Op.bytesLess (t[i - 1]'(by omega)).name t[i].name)):=by
  unfold dQ;rw [hg i hlt,hg (i - 1) (by omega)]
 have hn:=hN i hlt;rw [hh] at hn;unfold inN at hn hh;simp -implicitDefEqProofs [hlt,e3,e4,aW,D.asStr,D.asInt,bn,and_assoc]
 try simp +contextual -implicitDefEqProofs [ak,an,bP,bn,bQ,List.getElem?_eq_getElem,bX,bV,bN,bU,<- bw,<- bS,bj,bp,bW,bT,aU,bH,and_assoc,hlt]
 clear e1 hg hgg hN hE hB
 repeat' (first | intro _ | apply And.intro)
 all_goals first | omega | grind -ring
def eU (cs:List CommitD) (i:Nat):Bool :=
 decide ((cs.getD i default).parents.length<=2) && !(decide ((cs.getD i default).parents.length=2) && decide ((cs.getD i default).parents.getD 0 0=(cs.getD i default).parents.getD 1 0)) && aM (cs.getD i default).who && aC (cs.getD i default).tree
def ej (cs:List CommitD) (i:Nat):Bool:=eU cs i && (List.range (cs.getD i default).parents.length).all fun k=>inN i ((cs.getD i default).parents.getD k 0)
def aQ (r:RepoD):Bool:=decide (r.commits.length<=16) && (List.range r.commits.length).all (ej r.commits) && dg r.commits.length r.heads
def fj (r:RepoD):Prop:=r.commits.length<=1073741824 /\ ∀ c ∈ r.commits,∀ f ∈ c.tree,f.path.length<=536870912
def cP (r:RepoD):Blk:=.box 35 [.sl true 3 (az r.commits),.sl true 2 (ai r.heads)]
theorem bu (r:RepoD):cP r = .box 35 [.sl true 3 (az r.commits),.sl true 2 (ai r.heads)]:=rfl
def riO (r:RepoD):Inv:=⟨Nat,fun i=>⟨[(1,true,.ptr 10 0),(2,true,.bool false),(12,true,.sl true 3 (az r.commits)),(13,true,.int .i64 r.commits.length),(14,true,.int .i64 i)],[(10,cP r)]⟩,fun i=>i<=r.commits.length/\r.commits.length<=16 /\ ∀ j,j < i->ej r.commits j=true,fun i=>r.commits.length - i⟩
def riI (r:RepoD) (g:Nat):Inv:=⟨Nat,fun k=>⟨[(1,true,.ptr 10 0),(2,true,.bool false),(3,true,.int .i64 g),(12,true,.sl true 3 (az r.commits)),(13,true,.int .i64 r.commits.length),(14,true,.int .i64 g),(53,true,.sl true 1 (aj (r.commits.getD g default).parents)),(54,true,.int .i64 (r.commits.getD g default).parents.length),(55,true,.int .i64 k)],[(10,cP r)]⟩,
 fun k=>g < r.commits.length/\k<=(r.commits.getD g default).parents.length/\r.commits.length<=16/\(∀ j,j < g->ej r.commits j=true)/\eU r.commits g=true /\ ∀ j,j < k->inN g ((r.commits.getD g default).parents.getD j 0)=true,fun k=>(r.commits.getD g default).parents.length - k⟩
def uR (r:RepoD) (n g:Nat):Inv:=if n=4 then riO r else riI r g
theorem Jy (r:RepoD) (g:Nat):uR r 4 g=riO r:=rfl
theorem Jz (r:RepoD) (g:Nat):uR r 9 g=riI r g:=rfl
theorem lq (r:RepoD):aQ r=true ↔ r.commits.length<=16/\(∀ i,i < r.commits.length->ej r.commits i=true)/\dg r.commits.length r.heads=true:=by simp -implicitDefEqProofs [aQ,and_assoc]
theorem Jj {r:RepoD} {i:Nat} (hi:i < r.commits.length) (hb:ej r.commits i=false):aQ r=false:=by
 cases hq:aQ r with
 | false=>rfl
 | true=>have:=((lq r).1 hq).2.1 i hi; simp -implicitDefEqProofs [hb] at this
theorem Ji {r:RepoD} (h:16 < r.commits.length):aQ r=false:=by
 cases hq:aQ r with
 | false=>rfl
 | true=>have:=((lq r).1 hq).1; omega
theorem Hs {cs:List CommitD} {i:Nat} (h:eU cs i=false):ej cs i=false:=by unfold ej; rw [h]; rfl
theorem Ht {cs:List CommitD} {i k:Nat} (hk:k < (cs.getD i default).parents.length) (h:inN i ((cs.getD i default).parents.getD k 0)=false):ej cs i=false:=by
 unfold ej;have:(List.range (cs.getD i default).parents.length).all (fun k=>inN i ((cs.getD i default).parents.getD k 0))=false:=by
  rw [List.all_eq_false];exact ⟨k,List.mem_range.2 hk,by simpa using h⟩
 rw [this,Bool.and_false]
theorem Hu {cs:List CommitD} {i:Nat} (h:eU cs i=true) (h2:∀ k,k < (cs.getD i default).parents.length->inN i ((cs.getD i default).parents.getD k 0)=true):ej cs i=true:=by
 unfold ej;rw [h,Bool.true_and,List.all_eq_true];intro k hk;exact h2 k (by simpa using hk)
def iT:Con:=.fn 70 RepoD (fun r=>[bh r]) fj (fun r=>.bool (aQ r)) (fun _=>[])
theorem lr:Has Tryz.prog 24 iT:=by
 refine ah mixed ap (HasL.cons j4 (HasL.cons pG (HasL.cons vC (HasL.cons Ee HasL.nil)))) [0,1,2,3,4,6,12,13,14,53,54,55] (fun r=>uR r) [] Tryz.func24 (by unfold Tryz.f24; rfl) (fun _=>⟨(),trivial⟩) ?_
 intro (r:RepoD) hr;obtain ⟨hr1,hr2⟩:r.commits.length<=1073741824 /\ ∀ c ∈ r.commits,∀ f ∈ c.tree,f.path.length<=536870912:=hr;have hp:∀ i (h:i < r.commits.length),∀ f ∈ r.commits[i].tree,f.path.length<=536870912:=fun i h=>hr2 _ (List.getElem_mem h);have hB:=@Ji r;have hN:=fun i=>@Jj r i;have hN1:=fun i=>@Hs r.commits i;have hN2:=fun i k=>@Ht r.commits i k;have hY:=fun i=>@Hu r.commits i;simp -implicitDefEqProofs [iT,Con.fn,ag,iw,kG,lT,qz,Jy,Jz,riO,riI,bu]
 try dsimp only
 refine fun _=>⟨fun h=>hB (by omega),fun h16 _=>⟨by omega,fun i hi _ hprev=>⟨fun hlt=>?_,fun hge=>?_⟩⟩⟩
 ·have e3:Option.map ba r.commits[i]? = some (ba r.commits[i]):=by simp -implicitDefEqProofs [List.getElem?_eq_getElem hlt]
  have hgc:r.commits.getD i default=r.commits[i]:=by simp -implicitDefEqProofs [List.getD_eq_getElem?_getD,hlt]
  have hpc:=hp i hlt;have n0:=hN i hlt;have n1:=hN1 i;have n2:=hN2 i;have n3:=hY i;have o1:eU r.commits i=(decide (r.commits[i].parents.length<=2) && !(decide (r.commits[i].parents.length=2) && decide (r.commits[i].parents.getD 0 0=r.commits[i].parents.getD 1 0)) && aM r.commits[i].who && aC r.commits[i].tree):=by unfold eU; rw [hgc]
  rw [hgc] at n2 n3;simp -implicitDefEqProofs [hlt,e3,ba,D.asStr,D.asRows,bn,and_assoc]
  try simp only [show r.commits[i]?.getD default=r.commits[i] by simp -implicitDefEqProofs [hlt]]
  generalize r.commits[i]=c at hpc n2 n3 o1 ⊢;have hq:∀ k (h:k < c.parents.length),inN i (c.parents[k]?.getD 0)=(decide (0<=c.parents[k]) && decide (c.parents[k]<=(i:Int) - 1)):=fun k h=>by simp -implicitDefEqProofs [inN,h]
  have n4:∀ k (h:k < c.parents.length),(decide (0<=c.parents[k]) && decide (c.parents[k]<=(i:Int) - 1))=false->aQ r=false:=fun k h hb=>n0 (n2 k h (by rw [List.getD_eq_getElem?_getD,hq k h]; exact hb))
  have n5:eU r.commits i=false->aQ r=false:=fun h=>n0 (n1 h);have n6:eU r.commits i=true->(∀ j,j < c.parents.length->inN i (c.parents[j]?.getD 0)=true) -> ∀ j,j < i+1->ej r.commits j=true:=fun h1 h2 j hj=>by
   rcases Nat.lt_or_ge j i with h3 | h3
   ·exact hprev j h3
   ·have:j=i:=by omega
    subst this;exact n3 h1 (fun k hk=>by rw [List.getD_eq_getElem?_getD]; exact h2 k hk)
  clear n3 n2 n1 n0 hN hN1 hN2 hY hp hr2 hB hgc e3;have o2:∀ (h:c.parents.length=2),eU r.commits i=(!(decide (c.parents[0]=c.parents[1])) && aM c.who && aC c.tree):=fun h=>by rw [o1]; simp -implicitDefEqProofs [h]
  have o3:c.parents.length<=2 -> ¬ c.parents.length=2->eU r.commits i=(aM c.who && aC c.tree):=fun h h'=>by rw [o1]; simp -implicitDefEqProofs [h,h']
  have o4:2 < c.parents.length->eU r.commits i=false:=fun h=>by rw [o1]; simp -implicitDefEqProofs [show ¬ c.parents.length<=2 by omega]
  clear o1;refine ⟨fun h=>n5 (o4 (by omega)),fun hl2=>⟨fun h2=>?_,fun h2=>?_⟩⟩
  ·have q0:Option.map aq c.parents[0]? = some (aq c.parents[0]):=by simp -implicitDefEqProofs [List.getElem?_eq_getElem (show 0 < c.parents.length by omega)]
   have q1:Option.map aq c.parents[1]? = some (aq c.parents[1]):=by simp -implicitDefEqProofs [List.getElem?_eq_getElem (show 1 < c.parents.length by omega)]
   have o5:=o2 (by omega)
   simp -implicitDefEqProofs [q0,q1,aq];refine ⟨by omega,fun _=>⟨by omega,fun _=>⟨fun he=>n5 (by rw [o5]; simp -implicitDefEqProofs [he]),fun he=>⟨fun hn=>n5 (by rw [o5]; simp -implicitDefEqProofs [hn]),fun hn=>⟨hpc,fun ht=>n5 (by rw [o5]; simp -implicitDefEqProofs [ht]),fun ht _=>⟨by omega,hprev,by rw [o5]; simp -implicitDefEqProofs [he,hn,ht],fun t ht1 _ _ hok hinv=>?_⟩⟩⟩⟩⟩⟩
   clear o2 o3 o4 o5 n5;refine ⟨fun hlt2=>?_,fun hge2=>?_⟩
   ·have qt:Option.map aq c.parents[t]? = some (aq c.parents[t]):=by simp -implicitDefEqProofs [List.getElem?_eq_getElem hlt2]
    have n7:=n4 t hlt2;have q7:=hq t hlt2;simp -implicitDefEqProofs [qt,aq,hlt2];have n8:0<=c.parents[t]->c.parents[t]<=(i:Int) - 1 -> ∀ j,j < t+1->inN i (c.parents[j]?.getD 0)=true:=fun g1 g2 j hj=>by
     rcases Nat.lt_or_ge j t with h3 | h3
     ·exact hinv j h3
     ·have:j=t:=by omega
      subst this;rw [q7];simp -implicitDefEqProofs [g1,g2]
    refine ⟨by omega,by omega,fun _ _=>⟨fun h=>n7 (by simp; omega),fun g1 g2=>⟨by omega,by omega,fun _ _=>⟨t+1,rfl,by omega,by omega,hprev,hok,n8 g1 g2,by omega⟩⟩⟩⟩
   ·have n7:=n6 hok (fun j hj=>hinv j (by omega))
    exact ⟨by omega,by omega,fun _ _=>⟨i+1,rfl,by omega,by omega,n7,by omega⟩⟩
  ·have o5:=o3 (by omega) (by omega)
   refine ⟨fun hn=>n5 (by rw [o5]; simp -implicitDefEqProofs [hn]),fun hn=>⟨hpc,fun ht=>n5 (by rw [o5]; simp -implicitDefEqProofs [ht]),fun ht _=>⟨by omega,hprev,by rw [o5]; simp -implicitDefEqProofs [hn,ht],fun t ht1 _ _ hok hinv=>?_⟩⟩⟩
   clear o2 o3 o4 o5 n5;refine ⟨fun hlt2=>?_,fun hge2=>?_⟩
   ·have qt:Option.map aq c.parents[t]? = some (aq c.parents[t]):=by simp -implicitDefEqProofs [List.getElem?_eq_getElem hlt2]
    have n7:=n4 t hlt2;have q7:=hq t hlt2;simp -implicitDefEqProofs [qt,aq,hlt2];have n8:0<=c.parents[t]->c.parents[t]<=(i:Int) - 1 -> ∀ j,j < t+1->inN i (c.parents[j]?.getD 0)=true:=fun g1 g2 j hj=>by
     rcases Nat.lt_or_ge j t with h3 | h3
     ·exact hinv j h3
     ·have:j=t:=by omega
      subst this;rw [q7];simp -implicitDefEqProofs [g1,g2]
    refine ⟨by omega,by omega,fun _ _=>⟨fun h=>n7 (by simp; omega),fun g1 g2=>⟨by omega,by omega,fun _ _=>⟨t+1,rfl,by omega,by omega,hprev,hok,n8 g1 g2,by omega⟩⟩⟩⟩
   ·have n7:=n6 hok (fun j hj=>hinv j (by omega))
    exact ⟨by omega,by omega,fun _ _=>⟨i+1,rfl,by omega,by omega,n7,by omega⟩⟩
 ·refine ⟨r,r.heads,⟨⟨rfl,rfl⟩,rfl⟩,hr1,?_⟩;rw [Bool.eq_iff_iff,lq];exact ⟨fun h=>h.2.2,fun h=>⟨by omega,fun j hj=>hprev j (by omega),h⟩⟩
def gC (i:Nat) (ps:List Int) (k:Nat):Bool:=inN i (ps.getD k 0) && !(decide (0 < k) && decide (ps.getD k 0=ps.getD 0 0))
def eX (c:CommitD):Bool:=decide (c.parents.length<=2) && aM c.who && aH c.tree
def dv (cs:List CommitD) (i:Nat):Bool:=(List.range (cs.getD i default).parents.length).all (gC i (cs.getD i default).parents) && eX (cs.getD i default)
def ar (r:RepoD):Bool:=(List.range r.commits.length).all (dv r.commits) && dg r.commits.length r.heads && decide (r.commits.length<=16)
theorem c6 (r:RepoD):ar r=true ↔ (∀ i,i < r.commits.length->dv r.commits i=true)/\dg r.commits.length r.heads=true/\r.commits.length<=16:=by simp -implicitDefEqProofs [ar,and_assoc]
theorem Jm {r:RepoD} {i:Nat} (hi:i < r.commits.length) (hb:dv r.commits i=false):ar r=false:=by
 cases hq:ar r with
 | false=>rfl
 | true=>have:=((c6 r).1 hq).1 i hi; simp -implicitDefEqProofs [hb] at this
theorem Jn {r:RepoD} (hb:dg r.commits.length r.heads=false):ar r=false:=by unfold ar; rw [hb]; simp
theorem Hv {cs:List CommitD} {i:Nat} (h:eX (cs.getD i default)=false):dv cs i=false:=by unfold dv; rw [h,Bool.and_false]
theorem Hw {cs:List CommitD} {i k:Nat} (hk:k < (cs.getD i default).parents.length) (h:gC i (cs.getD i default).parents k=false):dv cs i=false:=by
 unfold dv;have:(List.range (cs.getD i default).parents.length).all (gC i (cs.getD i default).parents)=false:=by
  rw [List.all_eq_false];exact ⟨k,List.mem_range.2 hk,by simpa using h⟩
 rw [this,Bool.false_and]
theorem Hx {cs:List CommitD} {i:Nat} (h:eX (cs.getD i default)=true) (h2:∀ k,k < (cs.getD i default).parents.length->gC i (cs.getD i default).parents k=true):dv cs i=true:=by
 unfold dv;rw [h,Bool.and_true,List.all_eq_true];intro k hk;exact h2 k (by simpa using hk)
theorem dS (r:RepoD):aQ r=ar r:=by
 have h:∀ i,ej r.commits i=dv r.commits i:=by
  intro i;unfold ej dv eU eX;generalize r.commits.getD i default=c;rw [fW];rw [Bool.eq_iff_iff];simp only [Bool.and_eq_true,List.all_eq_true,List.mem_range,decide_eq_true_eq,gC,Bool.not_eq_true',Bool.and_eq_false_iff,decide_eq_false_iff_not];constructor
  ·rintro ⟨⟨⟨⟨h1,h2⟩,h3⟩,h4⟩,h5⟩;refine ⟨fun k hk=>⟨h5 k hk,?_⟩,⟨h1,h3⟩,h4⟩;by_cases h0:k=0
   ·exact .inl (by omega)
   ·right
    have:k=1:=by omega
    subst this;rcases h2 with h2 | h2
    ·omega
    ·exact fun e=>h2 e.symm
  ·rintro ⟨h1,⟨h2,h3⟩,h4⟩;refine ⟨⟨⟨⟨h2,?_⟩,h3⟩,h4⟩,fun k hk=>(h1 k hk).1⟩;by_cases h0:c.parents.length=2
   ·right
    rcases (h1 1 (by omega)).2 with h5 | h5
    ·omega
    ·exact fun e=>h5 e.symm
   ·exact .inl h0
 rw [Bool.eq_iff_iff,lq,c6];simp only [h];exact ⟨fun ⟨a,b,c⟩=>⟨b,c,a⟩,fun ⟨b,c,a⟩=>⟨a,b,c⟩⟩
def kD:Con:=.fn 26 (List Str × List Str) (fun a=>[.sl true 1 (aa a.1),.sl true 1 (aa a.2)]) (fun _=>True) (fun a=>.bool (decide (a.1=a.2))) (fun _=>[])
theorem oF:Has Tryz.prog 222 kD:=by
 refine ah mixed ap HasL.nil [0,1,4,5] ((fun a n (_:Nat)=>(fun a _=>⟨Nat,fun i=>⟨[(0,true,.sl true 1 (aa a.1)),(1,true,.sl true 1 (aa a.2)),(4,true,.bool false),(5,true,.int .i64 i)],[]⟩,fun i=>i<=a.1.length/\a.1.length=a.2.length/\a.1.take i=a.2.take i,fun i=>a.1.length - i⟩) a n)) [] Tryz.func222 (by unfold Tryz.f222; rfl) (fun _=>⟨(),trivial⟩) ?_
 intro a _;obtain ⟨l,r⟩:=a;simp -implicitDefEqProofs [kD,Con.fn,ag]
 try dsimp only
 try simp +contextual -implicitDefEqProofs [ak,an,bP,bn,bQ,List.getElem?_eq_getElem,bX,bV,bN,bU,<- bw,<- bS,bj,bp,bW,bT,aU,bH,and_assoc]
 repeat' (first | intro _ | apply And.intro)
 all_goals first | omega | grind [cm,lZ,lY]
def am:List FileD->Str->List Str × Bool
 | [],_=>([],false)
 | f :: l,p=>if f.path=p then (f.text,true) else am l p
def lK:Con:=.fn 25 (List FileD × Str) (fun a=>[.sl true 2 (ac a.1),.str a.2]) (fun _=>True) (fun a=>.tup [.sl true 1 (aa (am a.1 a.2).1),.bool (am a.1 a.2).2]) (fun _=>[])
theorem tL:Has Tryz.prog 133 lK:=by
 refine ah mixed ap HasL.nil [0,1,4,5,6] ((fun a n (_:Nat)=>(fun a _=>⟨Nat,fun i=>⟨[(0,true,.sl true 2 (ac a.1)),(1,true,.str a.2),(4,true,.nil),(5,true,.bool false),(6,true,.int .i64 i)],[]⟩,fun i=>i<=a.1.length/\am (a.1.drop i) a.2=am a.1 a.2,fun i=>a.1.length - i⟩) a n)) [] Tryz.func133 (by unfold Tryz.f133; rfl) (fun _=>⟨(),trivial⟩) ?_
 intro a _;obtain ⟨t,p⟩:=a;have e1:∀ i (h:i < t.length),am (t.drop i) p=if t[i].path=p then (t[i].text,true) else am (t.drop (i+1)) p:=fun i h=>by rw [List.drop_eq_getElem_cons h]; rfl
 have e2:∀ i,t.length<=i->am (t.drop i) p=([],false):=fun i h=>by rw [List.drop_eq_nil_of_le h]; rfl
 simp -implicitDefEqProofs [lK,Con.fn,ag]
 try dsimp only
 refine fun i hi hpre _=>⟨fun hlt=>?_,fun hge=>?_⟩
 ·have g:=e1 i hlt;rw [hpre] at g;simp -implicitDefEqProofs [hlt,an,D.asStr,D.asRows,and_assoc];refine ⟨fun h=>?_,fun h=>⟨by omega,by omega,fun _ _=>⟨i+1,by omega,by omega,?_,by omega⟩⟩⟩
  ·rw [g,if_pos h]; exact ⟨rfl,rfl⟩
  ·rw [g,if_neg h]
 ·rw [<- hpre,e2 i hge]; exact ⟨rfl,rfl⟩
def atL:List HeadD->Str->Int
 | [],_=>-1
 | h :: l,n=>if h.name=n then h.at_ else atL l n
def eM:Con:=.fn 27 (RepoD × Str) (fun a=>[bh a.1,.str a.2]) (fun _=>True) (fun a=>.int .i64 (atL a.1.heads a.2)) (fun _=>[])
theorem gr:Has Tryz.prog 54 eM:=by
 refine ah mixed ap HasL.nil [0,1,2,4,5] ((fun a n (_:Nat)=>(fun a _=>⟨Nat,fun i=>⟨[(1,true,.str a.2),(2,true,.ptr 10 0),(4,true,.int .i64 0),(5,true,.int .i64 i)],[(10,cP a.1)]⟩,fun i=>i<=a.1.heads.length/\atL (a.1.heads.drop i) a.2=atL a.1.heads a.2,fun i=>a.1.heads.length - i⟩) a n)) [] Tryz.func54 (by unfold Tryz.f54; rfl) (fun _=>⟨(),trivial⟩) ?_
 intro a _;obtain ⟨r,p⟩:=a;have e1:∀ i (h:i < r.heads.length),atL (r.heads.drop i) p=if r.heads[i].name=p then r.heads[i].at_ else atL (r.heads.drop (i+1)) p:=fun i h=>by rw [List.drop_eq_getElem_cons h]; rfl
 have e2:∀ i,r.heads.length<=i->atL (r.heads.drop i) p = -1:=fun i h=>by rw [List.drop_eq_nil_of_le h]; rfl
 simp -implicitDefEqProofs [eM,Con.fn,ag,bu]
 try dsimp only
 refine fun i hi hpre _=>⟨fun hlt=>?_,fun hge=>by rw [<- hpre,e2 i hge]⟩
 have g:=e1 i hlt;rw [hpre] at g;simp -implicitDefEqProofs [hlt,aW,D.asStr,D.asInt,and_assoc];refine ⟨fun h=>?_,fun h=>⟨by omega,by omega,fun _ _=>⟨i+1,by omega,by omega,?_,by omega⟩⟩⟩
 ·rw [g,if_pos h]
 ·rw [g,if_neg h]
def bv (p:Str) (f:FileD):Bool:=decide (f.path ≠ p) && !inB p f.path
def nD:Con:=.fn 39 (List FileD × Str) (fun a=>[.sl true 2 (ac a.1),.str a.2]) (fun a=>a.1.length<=1048576) (fun a=>.sl false 2 (ac (bD (bv a.2) a.1))) (fun _=>[])
theorem x0:Has Tryz.prog 183 nD:=by
 refine ah mixed ap (HasL.cons oJ HasL.nil) [0,1,4,5,6] ((fun a n (_:Nat)=>(fun a _=>⟨Nat,fun i=>⟨[(0,true,.sl true 2 (ac a.1)),(1,true,.str a.2),(4,true,.nil),(5,true,.own 9 2 (ac (bD (bv a.2) (a.1.take i)))),(6,true,.int .i64 i)],[(9,.own 119 2 false (ac (bD (bv a.2) (a.1.take i))))]⟩,fun i=>i<=a.1.length,fun i=>a.1.length - i⟩) a n)) [36] Tryz.func183 (by unfold Tryz.f183; rfl) (fun _=>⟨(),trivial⟩) ?_
 intro a ha;obtain ⟨t,p⟩:=a;replace ha:t.length<=1048576:=ha;have e1:=fun i h=>@DB (bv p) t i h;have e2:=fun i h=>@DC (bv p) t i h;simp -implicitDefEqProofs [nD,kE,Con.fn,ag]
 try dsimp only
 refine ⟨⟨0,by simp -implicitDefEqProofs [bD]⟩,fun i hi _=>⟨fun hlt=>?_,fun hge=>?_⟩⟩
 ·have g1:=e1 i hlt;have g2:=e2 i hlt;have hl:(bD (bv p) (t.take i)).length<=1048576:=by have:=List.length_filter_le (bv p) (t.take i); unfold bD; simp at this ⊢; omega
  simp -implicitDefEqProofs [hlt,an,D.asStr,D.asRows,and_assoc];refine ⟨fun h=>⟨fun hi2=>⟨by omega,by omega,by omega,by omega,fun _ _=>⟨i+1,?_,by omega,?_,by omega,by omega⟩⟩,fun hi2=>⟨by omega,by omega,fun _ _=>⟨i+1,?_,by omega,?_,by omega,by omega⟩⟩⟩,fun h=>⟨by omega,by omega,fun _ _=>⟨i+1,?_,by omega,?_,by omega,by omega⟩⟩⟩
  ·rw [g1 (by simp -implicitDefEqProofs [bv,h,hi2])]; simp -implicitDefEqProofs [ac,an]
  ·rw [g1 (by simp -implicitDefEqProofs [bv,h,hi2])]; simp -implicitDefEqProofs [ac,an]
  ·rw [g2 (by simp -implicitDefEqProofs [bv,h,hi2])]
  ·rw [g2 (by simp -implicitDefEqProofs [bv,h,hi2])]
  ·rw [g2 (by simp -implicitDefEqProofs [bv,h])]
  ·rw [g2 (by simp -implicitDefEqProofs [bv,h])]
 ·rw [List.take_of_length_le hge]
def lcs:List Str->List Str->Int
 | [],_=>0
 | _ :: _,[]=>0
 | x :: a,y :: b=>if x=y then lcs a b+1 else if lcs (x :: a) b<=lcs a (y :: b) then lcs a (y :: b) else lcs (x :: a) b
termination_by a b=>a.length+b.length
def gQ (r:List Int):List D:=[.sl 3 1 (aj r)]
def aX (t:List (List Int)):List (List D):=t.map gQ
@[simp] theorem eRows_length (l:List (List Int)):(aX l).length=l.length:=by simp -implicitDefEqProofs [aX]
@[simp] theorem eRows_nil:aX []=[]:=rfl
@[simp] theorem eRows_get (l:List (List Int)) (i:Nat):(aX l)[i]? = l[i]?.map gQ:=by simp -implicitDefEqProofs [aX]
def aJ (a b:List Str) (p q:Nat):List (List Int):=(List.range (a.length+1)).map fun r=>(List.range (b.length+1)).map fun c=>if p<=r \/ (r+1=p/\q<=c) then lcs (a.drop r) (b.drop c) else 0
theorem zK (i n:Nat):aX (List.replicate (i+1) (List.replicate (n+1) 0))=aX (List.replicate i (List.replicate (n+1) 0))++[[D.sl 3 1 (List.replicate (n+1) [D.int .i64 0])]]:=by
 rw [List.replicate_succ'];simp -implicitDefEqProofs [aX,gQ,aj,aq]
theorem pC {a b:List Str} {p q:Nat}:(aJ a b p q).length=a.length+1:=by simp -implicitDefEqProofs [aJ]
def cu (a b:List Str) (p q r:Nat):List Int:=(List.range (b.length+1)).map fun c=>if p<=r \/ (r+1=p/\q<=c) then lcs (a.drop r) (b.drop c) else 0
theorem jx {a b:List Str} {p q r:Nat} (h:r<=a.length):(aJ a b p q)[r]? = some (cu a b p q r):=by simp -implicitDefEqProofs [aJ,cu,List.getElem?_map,List.getElem?_range (show r < a.length+1 by omega)]
theorem GC (b:List Str):lcs [] b=0:=by rw [lcs]
theorem GD (a:List Str):lcs a []=0:=by cases a <;> rw [lcs]
theorem pB {a b:List Str} {i:Nat} (h:a.length+1=i):aJ a b a.length (b.length+1)=List.replicate i (List.replicate (b.length+1) 0):=by
 subst h;apply List.ext_getElem
 ·simp -implicitDefEqProofs [aJ]
 ·intro r h1 h2;apply List.ext_getElem
  ·simp -implicitDefEqProofs [aJ]
  ·intro c h3 h4;simp only [aJ,List.getElem_map,List.getElem_range,List.getElem_replicate];split
   ·rename_i h5;have h6:a.drop r=[]:=by
     rcases h5 with h5 | ⟨_,h5⟩
     ·exact List.drop_eq_nil_of_le h5
     ·simp -implicitDefEqProofs [aJ] at h3; omega
    rw [h6,GC]
   ·rfl
theorem pA {a b:List Str} {p:Nat}:aJ a b p b.length=aJ a b p (b.length+1):=by
 unfold aJ;apply List.map_congr_left;intro r _;apply List.map_congr_left;intro c hc;have hc:c < b.length+1:=by simpa using hc
 by_cases h:p<=r
 ·rw [if_pos (.inl h),if_pos (.inl h)]
 ·by_cases h2:r+1=p/\b.length<=c
  ·rw [if_pos (.inr h2),if_neg (by omega),List.drop_eq_nil_of_le h2.2,GD]
  ·rw [if_neg (by omega),if_neg (by omega)]
theorem pD {a b:List Str} {p:Nat} (h:0 < p):aJ a b (p - 1) (b.length+1)=aJ a b p 0:=by
 unfold aJ;apply List.map_congr_left;intro r _;apply List.map_congr_left;intro c hc;have hc:c < b.length+1:=by simpa using hc
 by_cases h2:p<=r+1
 ·rw [if_pos (.inl (by omega)),if_pos (by omega)]
 ·rw [if_neg (by omega),if_neg (by omega)]
theorem Ac {a b:List Str} {q:Nat}:aJ a b 0 q=aJ a b 0 0:=by
 unfold aJ;apply List.map_congr_left;intro r _;apply List.map_congr_left;intro c _;rw [if_pos (.inl (Nat.zero_le _)),if_pos (.inl (Nat.zero_le _))]
theorem jv {a b:List Str} {p q r:Nat}:(cu a b p q r).length=b.length+1:=by simp -implicitDefEqProofs [cu]
theorem ii {a b:List Str} {p q r c:Nat} (h:c<=b.length):(cu a b p q r)[c]? = some (if p<=r \/ (r+1=p/\q<=c) then lcs (a.drop r) (b.drop c) else 0):=by simp -implicitDefEqProofs [cu,List.getElem?_map,List.getElem?_range (show c < b.length+1 by omega)]
theorem kV (a b:List Str):0<=lcs a b/\lcs a b<=a.length:=by
 fun_induction lcs a b
 ·simp
 ·simp; omega
 ·simp_all; omega
 ·simp_all; omega
 ·simp_all
theorem yd {a b:List Str} {p q:Nat} (hp:0 < p) (hp2:p<=a.length) (hq:0 < q) (hq2:q<=b.length):lcs (a.drop (p - 1)) (b.drop (q - 1))=if a[p - 1]=b[q - 1] then lcs (a.drop p) (b.drop q)+1 else if lcs (a.drop (p - 1)) (b.drop q)<=lcs (a.drop p) (b.drop (q - 1)) then lcs (a.drop p) (b.drop (q - 1)) else lcs (a.drop (p - 1)) (b.drop q):=by
 have e1:a.drop (p - 1)=a[p - 1] :: a.drop p:=by rw [List.drop_eq_getElem_cons (show p - 1 < a.length by omega),show p - 1+1=p by omega]
 have e2:b.drop (q - 1)=b[q - 1] :: b.drop q:=by rw [List.drop_eq_getElem_cons (show q - 1 < b.length by omega),show q - 1+1=q by omega]
 rw [e1,e2,lcs]
theorem Ab {a b:List Str} {p q:Nat} (hp:0 < p) (hp2:p<=a.length) (hq:0 < q) (hq2:q<=b.length):∀ v,v=lcs (a.drop (p - 1)) (b.drop (q - 1))->(aX (aJ a b p q)).set (p - 1) [D.sl 3 1 ((aj (cu a b p q (p - 1))).set (q - 1) [D.int .i64 v])]=aX (aJ a b p (q - 1)):=by
 intro v hv;have e:(aJ a b p q).set (p - 1) ((cu a b p q (p - 1)).set (q - 1) v)=aJ a b p (q - 1):=by
  apply List.ext_getElem
  ·simp -implicitDefEqProofs [aJ]
  ·intro r h1 h2;rw [List.getElem_set];split
   ·rename_i hr;subst hr;apply List.ext_getElem
    ·simp -implicitDefEqProofs [aJ,cu]
    ·intro c h3 h4;rw [List.getElem_set];split
     ·rename_i hc;subst hc;simp only [aJ,List.getElem_map,List.getElem_range];rw [if_pos (by omega),hv]
     ·rename_i hc;simp only [aJ,cu,List.getElem_map,List.getElem_range];by_cases h:p<=p - 1 \/ (p - 1+1=p/\q<=c)
      ·rw [if_pos h,if_pos (by omega)]
      ·rw [if_neg h,if_neg (by omega)]
   ·rename_i hr;simp only [aJ,List.getElem_map,List.getElem_range];apply List.map_congr_left;intro c _;by_cases h:p<=r \/ (r+1=p/\q<=c)
    ·rw [if_pos h,if_pos (by omega)]
    ·rw [if_neg h,if_neg (by omega)]
 rw [<- e];simp -implicitDefEqProofs [aX,gQ,aj,List.map_set,aq]
def tI (a b:List Str):Inv:=⟨Nat,fun i=>⟨[(0,true,.sl true 1 (aa a)),(1,true,.sl true 1 (aa b)),(4,true,.nil),(5,true,.own 9 1 (aX (List.replicate i (List.replicate (b.length+1) 0)))),(6,true,.int .i64 i)],[(9,.own 92 1 true (aX (List.replicate i (List.replicate (b.length+1) 0))))]⟩,fun i=>i<=a.length+1,fun i=>a.length+1 - i⟩
def tJ (a b:List Str):Inv:=⟨Nat,fun p=>⟨[(0,true,.sl true 1 (aa a)),(1,true,.sl true 1 (aa b)),(4,true,.nil),(5,true,.own 9 1 (aX (aJ a b p (b.length+1)))),(7,true,.int .i64 ((p:Int) - 1))],[(9,.own 92 1 true (aX (aJ a b p (b.length+1))))]⟩,fun p=>p<=a.length,fun p=>p⟩
def tK (a b:List Str) (g:Nat):Inv:=⟨Nat,fun q=>⟨[(0,true,.sl true 1 (aa a)),(1,true,.sl true 1 (aa b)),(4,true,.nil),(5,true,.own 9 1 (aX (aJ a b g q))),(7,true,.int .i64 ((g:Int) - 1)),(8,true,.int .i64 ((q:Int) - 1))],[(9,.own 92 1 true (aX (aJ a b g q)))]⟩,fun q=>q<=b.length/\0 < g/\g<=a.length,fun q=>q⟩
def oG (a b:List Str) (n g:Nat):Inv:=if n=3 then tI a b else if n=7 then tJ a b else tK a b g
theorem FU (a b g):oG a b 3 g=tI a b:=rfl
theorem FV (a b g):oG a b 7 g=tJ a b:=rfl
theorem FT (a b g):oG a b 10 g=tK a b g:=rfl
def qS:Con:=.fn 110 (List Str × List Str) (fun a=>[.sl true 1 (aa a.1),.sl true 1 (aa a.2)]) (fun a=>a.1.length<=1048576/\a.2.length<=1048576) (fun a=>.own 8 1 (aX (aJ a.1 a.2 0 0))) (fun a=>[(8,.own 92 1 true (aX (aJ a.1 a.2 0 0)))])
theorem FS:Has Tryz.prog 231 qS:=by
 refine ah mixed ap HasL.nil [0,1,4,5,6,7,8] (fun a=>oG a.1 a.2) [] Tryz.func231 (by unfold Tryz.f231; rfl) (fun _=>⟨(),trivial⟩) ?_
 intro a ha;obtain ⟨a,b⟩:=a;obtain ⟨h1,h2⟩:a.length<=1048576/\b.length<=1048576:=ha;simp (maxSteps:=4000000) [qS,Con.fn,ag,FU,FV,FT,tI,tJ,tK]
 try dsimp only
 refine ⟨⟨0,by simp⟩,fun i hi _=>⟨fun hlt _=>⟨by omega,fun _ _=>⟨by omega,fun _ _ _=>⟨by omega,by omega,fun _ _=>⟨i+1,⟨⟨?_,by omega⟩,?_⟩,by omega,by omega⟩⟩⟩⟩,fun hge _=>⟨by omega,fun _ _=>⟨⟨a.length,⟨⟨?_,rfl⟩,?_⟩,Nat.le_refl _⟩,fun p hp=>⟨fun h1p _=>⟨by omega,fun _ _=>⟨p,⟨b.length,⟨⟨?_,rfl,rfl⟩,?_⟩,Nat.le_refl _,by omega,hp⟩,fun q hq hg hga=>⟨fun hq1=>?_,fun hq0=>⟨by omega,fun _ _=>⟨p - 1,⟨⟨?_,by omega⟩,?_⟩,by omega,by omega⟩⟩⟩⟩⟩,fun hp0=>?_⟩⟩⟩⟩⟩
 ·rw [zK]
 ·rw [zK]
 ·rw [pB (show a.length+1=i by omega)]
 ·rw [pB (show a.length+1=i by omega)]
 ·rw [pA]
 ·rw [pA]
 ·obtain ⟨T,hT⟩:∃ T,T=aJ a b p q:=⟨_,rfl⟩;have t1:=@pC a b p q;have t2:=jx (a:=a) (b:=b) (p:=p) (q:=q) (r:=p) (by omega)
  have t3:=jx (a:=a) (b:=b) (p:=p) (q:=q) (r:=p - 1) (by omega)
  have t4:a[p - 1]? = some a[p - 1]:=List.getElem?_eq_getElem (by omega)
  have t5:b[q - 1]? = some b[q - 1]:=List.getElem?_eq_getElem (by omega)
  have u1:=@jv a b p q p;have u2:=@jv a b p q (p - 1);have u3:(cu a b p q p)[q]? = some (lcs (a.drop p) (b.drop q)):=by rw [ii (by omega),if_pos (by omega)]
  have u4:(cu a b p q p)[q - 1]? = some (lcs (a.drop p) (b.drop (q - 1))):=by rw [ii (by omega),if_pos (by omega)]
  have u5:(cu a b p q (p - 1))[q]? = some (lcs (a.drop (p - 1)) (b.drop q)):=by rw [ii (by omega),if_pos (by omega)]
  have v1:=kV (a.drop p) (b.drop q);have v2:=kV (a.drop p) (b.drop (q - 1));have v3:=kV (a.drop (p - 1)) (b.drop q);have v4:(a.drop p).length<=a.length:=by simp
  have v5:(a.drop (p - 1)).length<=a.length:=by simp
  have w1:=Ab (a:=a) (b:=b) (p:=p) (q:=q) hg hga (by omega) hq
  have w2:=yd (a:=a) (b:=b) (p:=p) (q:=q) hg hga (by omega) hq
  rw [<- hT] at t1 t2 t3 w1 ⊢;clear hT;generalize lcs (a.drop p) (b.drop q)=L11 at *;generalize lcs (a.drop p) (b.drop (q - 1))=L10 at *;generalize lcs (a.drop (p - 1)) (b.drop q)=L01 at *;generalize cu a b p q p=rB at *;generalize cu a b p q (p - 1)=rA at *;simp -implicitDefEqProofs [t1,t2,t3,t4,t5,u1,u2,u3,u4,u5,aq,ak,D.asStr,gQ,D.asRows,D.asInt,and_assoc];have fin:∀ v,v=lcs (a.drop (p - 1)) (b.drop (q - 1)) -> ∃ t',aX (aJ a b p t')=(aX T).set (p - 1) [D.sl 3 1 ((aj rA).set (q - 1) [D.int .i64 v])]/\(t':Int)=q - 1/\(aX T).set (p - 1) [D.sl 3 1 ((aj rA).set (q - 1) [D.int .i64 v])]=aX (aJ a b p t')/\t'<=b.length/\0 < p/\p<=a.length/\t' < q :=
   fun v hv=>⟨q - 1,(w1 v hv).symm,by omega,w1 v hv,by omega,hg,hga,by omega⟩
  repeat' (first | intro _ | apply And.intro)
  all_goals first | omega | exact fin _ (by rw [w2,if_pos (by assumption)]) | exact fin _ (by rw [w2,if_neg (by assumption),if_pos (by assumption)]) | exact fin _ (by rw [w2,if_neg (by assumption),if_neg (by omega)])
 ·rw [show q=0 by omega,pD (by omega)]
 ·rw [show q=0 by omega,pD (by omega)]
 ·rw [show p=0 by omega,Ac]; exact ⟨rfl,rfl⟩
def mt:List Str->List Str->Nat->List Int
 | [],_,_=>[]
 | _ :: a,[],k=>-1 :: mt a [] k
 | x :: a,y :: b,k=>if x=y then (k:Int) :: mt a b (k+1) else if lcs (x :: a) b<=lcs a (y :: b) then -1 :: mt a (y :: b) k else mt (x :: a) b (k+1)
termination_by a b=>a.length+b.length
theorem iC (a b:List Str) (k:Nat):(mt a b k).length=a.length:=by
 fun_induction mt a b k <;> simp_all
theorem yz {a b:List Str} {i k:Nat} (h:i < a.length) (hk:b.length<=k):mt (a.drop i) (b.drop k) k = -1 :: mt (a.drop (i+1)) (b.drop k) k:=by rw [List.drop_eq_getElem_cons h,List.drop_eq_nil_of_le hk,mt]
theorem yA {a b:List Str} {i k:Nat} (h:i < a.length) (hk:k < b.length):mt (a.drop i) (b.drop k) k=if a[i]=b[k] then (k:Int) :: mt (a.drop (i+1)) (b.drop (k+1)) (k+1) else if lcs (a.drop i) (b.drop (k+1))<=lcs (a.drop (i+1)) (b.drop k) then -1 :: mt (a.drop (i+1)) (b.drop k) k else mt (a.drop i) (b.drop (k+1)) (k+1):=by
 have e1:a.drop i=a[i] :: a.drop (i+1):=List.drop_eq_getElem_cons h;have e2:b.drop k=b[k] :: b.drop (k+1):=List.drop_eq_getElem_cons hk;rw [e1,e2,mt]
theorem fT (o:List Int) (v:Int):aj (o++[v])=aj o++[[D.int .i64 v]]:=by simp -implicitDefEqProofs [aj,aq]
def l1m (a b:List Str):Inv:=⟨Nat × Nat × List Int,fun t=>⟨[(0,true,.sl true 1 (aa a)),(1,true,.sl true 1 (aa b)),(4,true,.nil),(5,true,.own 9 1 (aX (aJ a b 0 0))),(6,true,.own 10 1 (aj t.2.2)),(7,true,.int .i64 t.2.1),(8,true,.int .i64 t.1)],[(9,.own 92 1 true (aX (aJ a b 0 0))),(10,.own 3 1 true (aj t.2.2))]⟩,
 fun t=>t.1<=a.length/\t.2.1<=b.length/\t.2.2.length=t.1/\t.2.2++mt (a.drop t.1) (b.drop t.2.1) t.2.1=mt a b 0,fun t=>(a.length - t.1)+(b.length - t.2.1)⟩
def nz:Con:=.fn 73 (List Str × List Str) (fun a=>[.sl true 1 (aa a.1),.sl true 1 (aa a.2)]) (fun a=>a.1.length<=1048576/\a.2.length<=1048576) (fun a=>.own 8 1 (aj (mt a.1 a.2 0))) (fun a=>j7 8 (mt a.1 a.2 0))
theorem xX:Has Tryz.prog 186 nz:=by
 refine ah mixed ap (HasL.cons FS HasL.nil) [0,1,4,5,6,7,8] ((fun a n (_:Nat)=>(fun a _=>l1m a.1 a.2) a n)) [] Tryz.func186 (by unfold Tryz.f186; rfl) (fun _=>⟨(),trivial⟩) ?_
 intro a ha;obtain ⟨a,b⟩:=a;obtain ⟨h1,h2⟩:a.length<=1048576/\b.length<=1048576:=ha;simp (maxSteps:=4000000) [nz,qS,Con.fn,ag,l1m]
 try dsimp only
 refine ⟨a,b,⟨rfl,rfl⟩,⟨h1,h2⟩,⟨0,0,[],⟨⟨rfl,rfl,rfl,rfl⟩,rfl,rfl⟩,Nat.zero_le _,Nat.zero_le _,rfl,by simp⟩,fun i k out hi hk hl hm _=>⟨fun hlt=>?_,fun hge=>?_⟩⟩
 ·have t1:=@pC a b 0 0;have t2:=jx (a:=a) (b:=b) (p:=0) (q:=0) (r:=i) (by omega)
  have t3:=jx (a:=a) (b:=b) (p:=0) (q:=0) (r:=i+1) (by omega)
  have u1:=@jv a b 0 0 i;have u2:=@jv a b 0 0 (i+1);have t4:a[i]? = some a[i]:=List.getElem?_eq_getElem hlt;have m0:=yz (a:=a) (b:=b) (i:=i) (k:=k) hlt;rcases Nat.lt_or_ge k b.length with hkb | hkb
  ·have t5:b[k]? = some b[k]:=List.getElem?_eq_getElem hkb;have u3:(cu a b 0 0 (i+1))[k]? = some (lcs (a.drop (i+1)) (b.drop k)):=by rw [ii (by omega),if_pos (by omega)]
   have u4:(cu a b 0 0 i)[k+1]? = some (lcs (a.drop i) (b.drop (k+1))):=by rw [ii (by omega),if_pos (by omega)]
   have m1:=yA (a:=a) (b:=b) (i:=i) (k:=k) hlt hkb;generalize aJ a b 0 0=T at *;generalize cu a b 0 0 i=rA at *;generalize cu a b 0 0 (i+1)=rB at *;generalize lcs (a.drop (i+1)) (b.drop k)=L1 at *;generalize lcs (a.drop i) (b.drop (k+1))=L2 at *;have g1:¬ b.length<=k:=by omega
   obtain ⟨_,u6⟩:=List.getElem?_eq_some_iff.1 u4;simp -implicitDefEqProofs [hkb,g1,t1,t2,t3,t4,t5,u1,u2,u3,u4,u6,aq,ak,D.asStr,gQ,D.asRows,D.asInt,and_assoc];refine ⟨hlt,fun _=>⟨fun e=>⟨by omega,by omega,by omega,by omega,fun _ _=>⟨by omega,by omega,fun _ _=>⟨i+1,k+1,out++[(k:Int)],fT _ _,by omega,by omega,(fT _ _).symm,by omega,by omega,by simp -implicitDefEqProofs [hl],?_,by omega⟩⟩⟩,fun e=>⟨by omega,by omega,fun _ _=>⟨by omega,by omega,fun _ _=>⟨by omega,fun _=>⟨by omega,fun _=>⟨by omega,by omega,fun _ _=>⟨by omega,fun _=>⟨fun c=>⟨by omega,by omega,by omega,by omega,fun _ _=>⟨i+1,k,out++[-1],fT _ _,by omega,by omega,(fT _ _).symm,by omega,by omega,by simp -implicitDefEqProofs [hl],?_,by omega⟩⟩,fun c=>⟨by omega,by omega,fun _ _=>⟨i,k+1,by omega,by omega,by omega,by omega,hl,?_,by omega⟩⟩⟩⟩⟩⟩⟩⟩⟩⟩⟩
   ·rw [<- hm,m1,if_pos e]; simp
   ·rw [<- hm,m1,if_neg e,if_pos c]; simp
   ·rw [<- hm,m1,if_neg e,if_neg (by omega)]
  ·have g1:¬ k < b.length:=by omega
   simp -implicitDefEqProofs [hkb,g1,t4,ak,D.asStr,and_assoc];refine ⟨by omega,by omega,by omega,by omega,fun _ _=>⟨i+1,k,out++[-1],fT _ _,by omega,by omega,(fT _ _).symm,by omega,by omega,by simp -implicitDefEqProofs [hl],?_,by omega⟩⟩
   rw [<- hm,m0 (by omega)]; simp
 ·rw [List.drop_eq_nil_of_le hge,mt,List.append_nil] at hm;exact ⟨hm.symm,hm⟩
structure PartD where
 clash:Bool
 lines:List Str
 old:List Str
 one:List Str
 two:List Str
 deriving DecidableEq,Inhabited
def cH (a:PartD):List D:=[.bool a.clash,.sl 9 1 (aa a.lines),.sl 9 1 (aa a.old),.sl 9 1 (aa a.one),.sl 9 1 (aa a.two)]
@[simp] theorem ePart_inj (a b:PartD):(cH a=cH b)=(a=b):=by cases a; cases b; simp -implicitDefEqProofs [cH]
@[simp] theorem PartD.eta (a:PartD):(⟨a.clash,a.lines,a.old,a.one,a.two⟩:PartD)=a:=rfl
theorem PartD.eq_iff (a b:PartD):(a=b)=(a.clash=b.clash/\a.lines=b.lines/\a.old=b.old/\a.one=b.one/\a.two=b.two):=by cases a; cases b; simp
@[simp] theorem PartD.ex1 (x_clash:Bool) (x_lines:List Str) (x_old:List Str) (x_one:List Str) (x_two:List Str) (Q:PartD->Prop):(∃ a:PartD,a.clash=x_clash/\a.lines=x_lines/\a.old=x_old/\a.one=x_one/\a.two=x_two/\Q a)=Q ⟨x_clash,x_lines,x_old,x_one,x_two⟩:=by
 apply propext;constructor
 ·rintro ⟨⟨_,_,_,_,_⟩,rfl,rfl,rfl,rfl,rfl,h⟩; exact h
 ·intro h; exact ⟨⟨x_clash,x_lines,x_old,x_one,x_two⟩,rfl,rfl,rfl,rfl,rfl,h⟩
@[simp] theorem PartD.ex2 (x_clash:Bool) (x_lines:List Str) (x_old:List Str) (x_one:List Str) (x_two:List Str) (Q:PartD->Prop):(∃ a:PartD,(a.clash=x_clash/\a.lines=x_lines/\a.old=x_old/\a.one=x_one/\a.two=x_two)/\Q a)=Q ⟨x_clash,x_lines,x_old,x_one,x_two⟩:=by
 apply propext;constructor
 ·rintro ⟨⟨_,_,_,_,_⟩,⟨rfl,rfl,rfl,rfl,rfl⟩,h⟩; exact h
 ·intro h; exact ⟨⟨x_clash,x_lines,x_old,x_one,x_two⟩,⟨rfl,rfl,rfl,rfl,rfl⟩,h⟩
@[simp] theorem PartD.ex0 (x_clash:Bool) (x_lines:List Str) (x_old:List Str) (x_one:List Str) (x_two:List Str):(∃ a:PartD,a.clash=x_clash/\a.lines=x_lines/\a.old=x_old/\a.one=x_one/\a.two=x_two)=True:=by
 simp only [eq_iff_iff,iff_true];exact ⟨⟨x_clash,x_lines,x_old,x_one,x_two⟩,rfl,rfl,rfl,rfl,rfl⟩
def au (l:List PartD):List (List D):=l.map cH
@[simp] theorem eParts_length (l:List PartD):(au l).length=l.length:=by simp -implicitDefEqProofs [au]
@[simp] theorem eParts_nil:au []=[]:=rfl
@[simp] theorem eParts_get (l:List PartD) (i:Nat):(au l)[i]? = l[i]?.map cH:=by simp -implicitDefEqProofs [au]
@[simp] theorem eParts_getElem (l:List PartD) (i:Nat) (h:i < (au l).length):(au l)[i]=cH (l[i]'(by simpa using h)):=by simp -implicitDefEqProofs [au]
@[simp] theorem eParts_inj (a b:List PartD):(au a=au b)=(a=b):=by
 apply propext;constructor
 ·intro h;exact List.map_inj_right (fun x y h=>by simpa using h) |>.1 h
 ·rintro rfl; rfl
@[simp] theorem eParts_eq_nil (a:List PartD):(au a=[])=(a=[]):=by simp -implicitDefEqProofs [au]
@[simp] theorem nil_eq_eParts (a:List PartD):([]=au a)=(a=[]):=by simp -implicitDefEqProofs [au,eq_comm]
theorem Dv (a b:List PartD):au (a++b)=au a++au b:=by simp -implicitDefEqProofs [au]
abbrev uA (h:Nat) (a:List PartD):List (Nat × Blk):=[(h,.own 278 5 true (au a))]
def aZ (o a b:List Str):PartD:=if a=o \/ a=b then ⟨false,b,[],[],[]⟩ else if b=o then ⟨false,a,[],[],[]⟩ else ⟨true,[],o,a,b⟩
theorem ze (o a b:List Str):(aZ o a b).lines.length<=a.length+b.length:=by
 unfold aZ;split
 ·simp
 ·split <;> simp
def be (l:List PartD) (p:PartD):List PartD :=
 if p.clash=false/\p.lines=[] then l
 else match l.getLast? with
  | some q=>if p.clash=false/\q.clash=false then l.set (l.length - 1) ⟨q.clash,q.lines++p.lines,q.old,q.one,q.two⟩ else l++[p]
  | none=>l++[p]
theorem o9 (l:List PartD) (p:PartD):(be l p).length<=l.length+1:=by
 unfold be;split
 ·omega
 ·split
  ·split <;> simp
  ·simp
theorem o7 {l:List PartD} {p:PartD} {n:Nat} (h:∀ q ∈ l,q.lines.length<=n):∀ q ∈ be l p,q.lines.length<=n+p.lines.length:=by
 intro q hq;unfold be at hq;split at hq
 ·have:=h q hq; omega
 ·split at hq
  ·rename_i r hr;split at hq
   ·rcases List.mem_or_eq_of_mem_set hq with hq | hq
    ·have:=h q hq; omega
    ·subst hq;have:=h r (List.mem_of_getLast? hr);simp; omega
   ·rcases List.mem_append.1 hq with hq | hq
    ·have:=h q hq; omega
    ·simp at hq; subst hq; omega
  ·rcases List.mem_append.1 hq with hq | hq
   ·have:=h q hq; omega
   ·simp at hq; subst hq; omega
def asc:Int->Int->List Int->Prop
 | _,_,[]=>True
 | k,n,x :: l=>(x < 0/\asc k n l) \/ (k<=x/\x < n/\asc (x+1) n l)
theorem nf:∀ {l:List Int} {k k' n:Int},k<=k'->asc k' n l->asc k n l
 | [],_,_,_,_,_=>trivial
 | x :: l,k,k',n,h,h2=>by
  rcases h2 with ⟨h3,h4⟩ | ⟨h3,h4,h5⟩
  ·exact .inl ⟨h3,nf h h4⟩
  ·exact .inr ⟨by omega,h4,h5⟩
theorem p9:∀ {l:List Int} {k n:Int},k<=n->asc k n l->asc k (n+1) (l++[n])
 | [],k,n,h,_=>.inr ⟨h,by omega,trivial⟩
 | x :: l,k,n,h,h2=>by
  rcases h2 with ⟨h3,h4⟩ | ⟨h3,h4,h5⟩
  ·exact .inl ⟨h3,p9 h h4⟩
  ·exact .inr ⟨h3,by omega,p9 (by omega) h5⟩
theorem G1 (a b:List Str) (k:Nat):asc k (k+b.length) (mt a b k):=by
 fun_induction mt a b k with
 | case1=>trivial
 | case2 x a k ih=>exact .inl ⟨by omega,ih⟩
 | case3 a y b k ih =>
  refine .inr ⟨by omega,by simp only [List.length_cons]; omega,?_⟩
  have e:((k+1:Nat):Int)+b.length=k+(y :: b).length:=by simp only [List.length_cons]; omega
  rw [e] at ih;exact ih
 | case4 x a y b k h h2 ih=>exact .inl ⟨by omega,ih⟩
 | case5 x a y b k h1 h2 ih =>
  have e:((k+1:Nat):Int)+b.length=k+(y :: b).length:=by simp only [List.length_cons]; omega
  rw [e] at ih;exact nf (by omega) ih
def mtE (a b:List Str):List Int:=mt a b 0++[(b.length:Int)]
theorem gU (a b:List Str):(mtE a b).length=a.length+1:=by simp -implicitDefEqProofs [mtE,iC]
theorem um (a b:List Str):asc 0 (b.length+1) (mtE a b):=by
 have h:=G1 a b 0;have:=p9 (k:=0) (n:=b.length) (by omega) (by simpa using h)
 exact this
theorem gI {l:List Int} {i:Nat} {k n:Int} (h:i < l.length) (ha:asc k n (l.drop i)):(l[i] < 0/\asc k n (l.drop (i+1))) \/ (k<=l[i]/\l[i] < n/\asc (l[i]+1) n (l.drop (i+1))):=by
 rw [List.drop_eq_getElem_cons h] at ha;exact ha
structure S3 where
 io:Nat
 ia:Nat
 ib:Nat
 out:List PartD
def iM (o a b:List Str) (x y:Int) (i:Nat) (s:S3):S3 :=
 if x < 0 \/ y < 0 then s
 else ⟨i+1,x.toNat+1,y.toNat+1,
  if i < o.length then be (be s.out (aZ ((o.take i).drop s.io) ((a.take x.toNat).drop s.ia) ((b.take y.toNat).drop s.ib))) ⟨false,[o.getD i []],[],[],[]⟩
  else be s.out (aZ ((o.take i).drop s.io) ((a.take x.toNat).drop s.ia) ((b.take y.toNat).drop s.ib))⟩
def cF (o a b:List Str):Nat->S3
 | 0=>⟨0,0,0,[]⟩
 | i+1=>iM o a b ((mtE o a).getD i 0) ((mtE o b).getD i 0) i (cF o a b i)
def of3 (o a b:List Str):List PartD:=(cF o a b (o.length+1)).out
def Ok3 (o a b:List Str) (i:Nat) (s:S3):Prop :=
 s.io<=i/\s.ia<=a.length+1/\s.ib<=b.length+1/\asc s.ia (a.length+1) ((mtE o a).drop i)/\asc s.ib (b.length+1) ((mtE o b).drop i)/\s.out.length<=2 * i /\ ∀ q ∈ s.out,q.lines.length<=s.io+s.ia+s.ib
theorem Hq (o a b:List Str):Ok3 o a b 0 ⟨0,0,0,[]⟩:=⟨by simp,by simp,by simp,by simpa using um o a,by simpa using um o b,by simp,by simp⟩
theorem Hr {o a b:List Str} {i:Nat} {s:S3} (hi:i < o.length+1) (h:Ok3 o a b i s):Ok3 o a b (i+1) (iM o a b ((mtE o a).getD i 0) ((mtE o b).getD i 0) i s):=by
 obtain ⟨h1,h2,h3,h4,h5,h6,h7⟩:=h;have la:=gU o a;have lb:=gU o b;have ga:(mtE o a).getD i 0=(mtE o a)[i]'(by omega):=by simp -implicitDefEqProofs [List.getD_eq_getElem?_getD,List.getElem?_eq_getElem (show i < (mtE o a).length by omega)]
 have gb:(mtE o b).getD i 0=(mtE o b)[i]'(by omega):=by simp -implicitDefEqProofs [List.getD_eq_getElem?_getD,List.getElem?_eq_getElem (show i < (mtE o b).length by omega)]
 rw [ga,gb];have h4:=gI (l:=mtE o a) (by omega) h4
 have h5:=gI (l:=mtE o b) (by omega) h5
 generalize (mtE o a)[i]'(by omega)=x at *
 generalize (mtE o b)[i]'(by omega)=y at *
 unfold iM;split
 ·rename_i hxy;refine ⟨by omega,h2,h3,?_,?_,by omega,h7⟩
  ·rcases h4 with h4 | h4
   ·exact h4.2
   ·exact nf (by omega) h4.2.2
  ·rcases h5 with h5 | h5
   ·exact h5.2
   ·exact nf (by omega) h5.2.2
 ·rename_i hxy;rcases h4 with h4 | ⟨h4,h41,h42⟩
  ·omega
  rcases h5 with h5 | ⟨h5,h51,h52⟩
  ·omega
  have ex:((x.toNat+1:Nat):Int)=x+1:=by omega
  have ey:((y.toNat+1:Nat):Int)=y+1:=by omega
  have b1:=ze ((o.take i).drop s.io) ((a.take x.toNat).drop s.ia) ((b.take y.toNat).drop s.ib);have b2:=o7 (p:=aZ ((o.take i).drop s.io) ((a.take x.toNat).drop s.ia) ((b.take y.toNat).drop s.ib)) h7;have b3:=o9 s.out (aZ ((o.take i).drop s.io) ((a.take x.toNat).drop s.ia) ((b.take y.toNat).drop s.ib));generalize aZ ((o.take i).drop s.io) ((a.take x.toNat).drop s.ia) ((b.take y.toNat).drop s.ib)=p at *;have b1:p.lines.length<=(x.toNat - s.ia)+(y.toNat - s.ib):=by
   refine Nat.le_trans b1 ?_;simp only [List.length_drop,List.length_take];omega
  refine ⟨by simp,by simp; omega,by simp; omega,by simpa only [ex] using h42,by simpa only [ey] using h52,?_,?_⟩
  ·show (if i < o.length then _ else _:List PartD).length<=_
   split
   ·have:=o9 (be s.out p) ⟨false,[o.getD i []],[],[],[]⟩;omega
   ·omega
  ·show ∀ q ∈ (if i < o.length then _ else _:List PartD),_
   split
   ·intro q hq;have:=o7 (p:=⟨false,[o.getD i []],[],[],[]⟩) b2 q hq;simp at this
    show q.lines.length<=(i+1)+(x.toNat+1)+(y.toNat+1)
    omega
   ·intro q hq;have:=b2 q hq
    show q.lines.length<=(i+1)+(x.toNat+1)+(y.toNat+1)
    omega
theorem mn (o a b:List Str):∀ i,i<=o.length+1->Ok3 o a b i (cF o a b i)
 | 0,_=>Hq o a b
 | i+1,h=>Hr (by omega) (mn o a b i (by omega))
def cN (l:List PartD):List Str × Bool:=if l.any (·.clash) then ([],false) else if aD (l.flatMap (·.lines)) then (l.flatMap (·.lines),true) else ([],false)
def qW:Con:=.fn 36 (List Str × List Str × List Str) (fun a=>[.sl true 1 (aa a.1),.sl true 1 (aa a.2.1),.sl true 1 (aa a.2.2)]) (fun a=>a.1.length<=1048576/\a.2.1.length<=1048576/\a.2.2.length<=1048576) (fun a=>.agg [.bool (aZ a.1 a.2.1 a.2.2).clash,.own 8 1 (aa (aZ a.1 a.2.1 a.2.2).lines),.own 9 1 (aa (aZ a.1 a.2.1 a.2.2).old),.own 10 1 (aa (aZ a.1 a.2.1 a.2.2).one),.own 11 1 (aa (aZ a.1 a.2.1 a.2.2).two)]) (fun a=>dw 8 (aZ a.1 a.2.1 a.2.2).lines++dw 9 (aZ a.1 a.2.1 a.2.2).old++dw 10 (aZ a.1 a.2.1 a.2.2).one++dw 11 (aZ a.1 a.2.1 a.2.2).two)
theorem FZ:Has Tryz.prog 290 qW:=by
 refine ah mixed ap (HasL.cons oF HasL.nil) [0,1,2,6,7] ((fun a n (_:Nat)=>(fun _=>aw) a n)) [] Tryz.func290 (by unfold Tryz.f290; rfl) (fun _=>⟨(),trivial⟩) ?_
 intro a ha;obtain ⟨o,a,b⟩:=a;obtain ⟨h1,h2,h3⟩:o.length<=1048576/\a.length<=1048576/\b.length<=1048576:=ha;simp -implicitDefEqProofs [qW,kD,Con.fn,ag]
 try dsimp only
 have f:∀ (t:List Str),∀ x ∈ aa t,∀ d ∈ x,match d with | .sl _ _ _=>False | _=>True:=fun t=>(eStrs_flat t).mpr trivial
 have e1:a=o->aZ o a b=⟨false,b,[],[],[]⟩:=fun h=>by unfold aZ; rw [if_pos (.inl h)]
 have e2:a=b->aZ o a b=⟨false,b,[],[],[]⟩:=fun h=>by unfold aZ; rw [if_pos (.inr h)]
 have e3:¬ a=o -> ¬ a=b->b=o->aZ o a b=⟨false,a,[],[],[]⟩:=fun h h' h2=>by unfold aZ; rw [if_neg (by simp -implicitDefEqProofs [h,h']),if_pos h2]
 have e4:¬ a=o -> ¬ a=b -> ¬ b=o->aZ o a b=⟨true,[],o,a,b⟩:=fun h h' h2=>by unfold aZ; rw [if_neg (by simp -implicitDefEqProofs [h,h']),if_neg h2]
 refine ⟨a,o,⟨rfl,rfl⟩,fun h=>⟨fun _=>?_,fun h'=>absurd h h'⟩,fun h=>⟨a,b,⟨rfl,rfl⟩,fun h2=>?_,fun h2=>⟨b,o,⟨rfl,rfl⟩,fun h3=>?_,fun h3=>?_⟩⟩⟩
 ·rw [e1 h]; exact ⟨f b,⟨by omega,by omega⟩,⟨rfl,rfl,rfl,rfl,rfl⟩,rfl,rfl,rfl,rfl⟩
 ·rw [e2 h2]; exact ⟨f b,⟨by omega,by omega⟩,⟨rfl,rfl,rfl,rfl,rfl⟩,rfl,rfl,rfl,rfl⟩
 ·rw [e3 h h2 h3]; exact ⟨f a,⟨by omega,by omega⟩,⟨rfl,rfl,rfl,rfl,rfl⟩,rfl,rfl,rfl,rfl⟩
 ·rw [e4 h h2 h3]; exact ⟨f o,⟨by omega,by omega⟩,f a,⟨by omega,by omega⟩,f b,⟨by omega,by omega⟩,⟨rfl,rfl,rfl,rfl,rfl⟩,rfl,rfl,rfl,rfl⟩
theorem iH {l:List PartD} {p:PartD} (h:p.clash=false) (h':p.lines=[]):be l p=l:=by unfold be; rw [if_pos ⟨h,h'⟩]
theorem mD {m:List PartD} {q p:PartD} (h:q.clash=false) (h':p.clash=false) (hx:¬ p.lines=[]):be (m++[q]) p=m++[⟨q.clash,q.lines++p.lines,q.old,q.one,q.two⟩]:=by unfold be; rw [if_neg (by simp -implicitDefEqProofs [hx])]; simp -implicitDefEqProofs [h,h']
theorem mE {m:List PartD} {q p:PartD} (h:q.clash=true) (hx:¬ (p.clash=false/\p.lines=[])):be (m++[q]) p=m++[q]++[p]:=by unfold be; rw [if_neg hx]; simp -implicitDefEqProofs [h]
theorem mF {l:List PartD} {p:PartD} (h:p.clash=true):be l p=l++[p]:=by
 unfold be; rw [if_neg (by simp -implicitDefEqProofs [h])]
 split
 ·simp -implicitDefEqProofs [h]
 ·rfl
theorem iI {p:PartD} (h:¬ (p.clash=false/\p.lines=[])):be [] p=[p]:=by unfold be; rw [if_neg h]; simp
def l3A:(List PartD × PartD) ⊕ (List PartD × List Str)->List PartD
 | .inl a=>a.1
 | .inr a=>a.1
def l3P:(List PartD × PartD) ⊕ (List PartD × List Str)->PartD
 | .inl a=>a.2
 | .inr a=>⟨false,a.2,[],[],[]⟩
def oH:(List PartD × PartD) ⊕ (List PartD × List Str)->List AV
 | .inl a=>[.own 0 5 (au a.1),.agg [.bool a.2.clash,.own 1 1 (aa a.2.lines),.own 2 1 (aa a.2.old),.own 3 1 (aa a.2.one),.own 4 1 (aa a.2.two)]]
 | .inr a=>[.own 0 5 (au a.1),.agg [.bool false,.own 1 1 (aa a.2),.nil,.nil,.nil]]
def oI:(List PartD × PartD) ⊕ (List PartD × List Str)->List (Nat × Nat × Nat × List (List D))
 | .inl a=>[(0,278,5,au a.1),(1,9,1,aa a.2.lines),(2,9,1,aa a.2.old),(3,9,1,aa a.2.one),(4,9,1,aa a.2.two)]
 | .inr a=>[(0,278,5,au a.1),(1,9,1,aa a.2)]
def nC:Con:={ A:=(List PartD × PartD) ⊕ (List PartD × List Str),X:=Unit,n:=53,args:=oH,boxes:=fun _=>[],pre:=fun a=>(l3A a).length<=1048576/\(∀ q ∈ l3A a,q.lines.length<=1073741824)/\(l3P a).lines.length<=1073741824,post:=fun _ _=>True,res:=fun a _=>.own 8 5 (au (be (l3A a) (l3P a))),fin:=fun a _=>uA 8 (be (l3A a) (l3P a)),owns:=oI,mv:=true }
theorem F0:Has Tryz.prog 289 nC:=by
 refine ah mixed ap HasL.nil [0,1,3,4,5] ((fun a n (_:Nat)=>(fun _=>aw) a n)) [12287,12333] Tryz.func289 (by unfold Tryz.f289; rfl) (fun _=>⟨(),trivial⟩) ?_
 intro a ha;rcases a with ⟨l,p⟩ | ⟨l,x⟩
 ·obtain ⟨h1,h2,h3⟩:l.length<=1048576/\(∀ q ∈ l,q.lines.length<=1073741824)/\p.lines.length<=1073741824:=ha;simp -implicitDefEqProofs [nC,oH,oI,l3A,l3P,Con.fn,ag]
  try dsimp only
  have f:∀ (t:List Str),∀ x ∈ aa t,∀ d ∈ x,match d with | .sl _ _ _=>False | _=>True:=fun t=>(eStrs_flat t).mpr trivial
  have sn:∀ k:List PartD,au k++[[D.bool p.clash,D.sl 9 1 (aa p.lines),D.sl 9 1 (aa p.old),D.sl 9 1 (aa p.one),D.sl 9 1 (aa p.two)]]=au (k++[p]):=fun k=>by simp -implicitDefEqProofs [au,cH]
  rw [sn];rcases List.eq_nil_or_concat l with rfl | ⟨m,q,rfl⟩
  ·simp
   repeat' (first | intro _ | apply And.intro)
   all_goals first | omega | (cases (Eq.trans (Eq.symm ‹p.clash=true›) ‹p.clash=false›)) | exact f _ | exact f _ _ (by assumption) _ (by assumption) | exact iH (by first | assumption | rfl) (by assumption) | exact (iH (by first | assumption | rfl) (by assumption)).symm | exact iI (by simp_all) | exact (iI (by simp_all)).symm | (rw [mD (by assumption) (by first | assumption | rfl) (by assumption)]; simp -implicitDefEqProofs [au,cH,aa]) | (rw [mF (by assumption)]; simp) | (rw [mE (by assumption) (by simp_all)]; simp)
  ·have he:∀ r,(au m++[r])[m.length]? = some r:=fun r=>by rw [List.getElem?_append_right (by simp)]; simp
   have hs:∀ r,(au (m++[q])).set m.length r=au m++[r]:=fun r=>by simp -implicitDefEqProofs [au]
   have hq:(m++[q])[m.length]? = some q:=by simp
   have hql:=h2 q (by simp)
   have ee:∀ r r',(au m++[r]=au (m++[r']))=(r=cH r'):=fun r r'=>by simp -implicitDefEqProofs [au]
   have h1:m.length+1<=1048576:=by simpa using h1
   simp -implicitDefEqProofs [he,hs,cH,D.asBool,D.asRows]
   repeat' (first | intro _ | apply And.intro)
   all_goals first | omega | (cases (Eq.trans (Eq.symm ‹p.clash=true›) ‹p.clash=false›)) | exact f _ | exact f _ _ (by assumption) _ (by assumption) | exact iH (by first | assumption | rfl) (by assumption) | exact (iH (by first | assumption | rfl) (by assumption)).symm | exact iI (by simp_all) | exact (iI (by simp_all)).symm | (rw [mD (by assumption) (by first | assumption | rfl) (by assumption)]; simp -implicitDefEqProofs [au,cH,aa]) | (rw [mF (by assumption)]; simp) | (rw [mE (by assumption) (by simp_all)]; simp)
 ·obtain ⟨h1,h2,h3⟩:l.length<=1048576/\(∀ q ∈ l,q.lines.length<=1073741824)/\x.length<=1073741824:=ha;simp -implicitDefEqProofs [nC,oH,oI,l3A,l3P,Con.fn,ag]
  try dsimp only
  have f:∀ (t:List Str),∀ x ∈ aa t,∀ d ∈ x,match d with | .sl _ _ _=>False | _=>True:=fun t=>(eStrs_flat t).mpr trivial
  have sn:∀ k:List PartD,au k++[[D.bool false,D.sl 9 1 (aa x),D.sl 9 1 [],D.sl 9 1 [],D.sl 9 1 []]]=au (k++[⟨false,x,[],[],[]⟩]):=fun k=>by simp -implicitDefEqProofs [au,cH]
  rw [sn];rcases List.eq_nil_or_concat l with rfl | ⟨m,q,rfl⟩
  ·simp
   repeat' (first | intro _ | apply And.intro)
   all_goals first | omega | (cases (Eq.trans (Eq.symm ‹p.clash=true›) ‹p.clash=false›)) | exact f _ | exact f _ _ (by assumption) _ (by assumption) | exact iH (by first | assumption | rfl) (by assumption) | exact (iH (by first | assumption | rfl) (by assumption)).symm | exact iI (by simp_all) | exact (iI (by simp_all)).symm | (rw [mD (by assumption) (by first | assumption | rfl) (by assumption)]; simp -implicitDefEqProofs [au,cH,aa]) | (rw [mF (by assumption)]; simp) | (rw [mE (by assumption) (by simp_all)]; simp)
  ·have he:∀ r,(au m++[r])[m.length]? = some r:=fun r=>by rw [List.getElem?_append_right (by simp)]; simp
   have hs:∀ r,(au (m++[q])).set m.length r=au m++[r]:=fun r=>by simp -implicitDefEqProofs [au]
   have hq:(m++[q])[m.length]? = some q:=by simp
   have hql:=h2 q (by simp)
   have ee:∀ r r',(au m++[r]=au (m++[r']))=(r=cH r'):=fun r r'=>by simp -implicitDefEqProofs [au]
   have h1:m.length+1<=1048576:=by simpa using h1
   simp -implicitDefEqProofs [he,hs,cH,D.asBool,D.asRows]
   repeat' (first | intro _ | apply And.intro)
   all_goals first | omega | (cases (Eq.trans (Eq.symm ‹p.clash=true›) ‹p.clash=false›)) | exact f _ | exact f _ _ (by assumption) _ (by assumption) | exact iH (by first | assumption | rfl) (by assumption) | exact (iH (by first | assumption | rfl) (by assumption)).symm | exact iI (by simp_all) | exact (iI (by simp_all)).symm | (rw [mD (by assumption) (by first | assumption | rfl) (by assumption)]; simp -implicitDefEqProofs [au,cH,aa]) | (rw [mF (by assumption)]; simp) | (rw [mE (by assumption) (by simp_all)]; simp)
theorem yy (o a:List Str):aj (mt o a 0)++[[D.int .i64 (a.length:Int)]]=aj (mtE o a):=by simp -implicitDefEqProofs [mtE,aj,aq]
def xZ (o a b:List Str):Inv:=⟨Nat,fun i=>⟨[(0,true,.sl true 1 (aa o)),(1,true,.sl true 1 (aa a)),(2,true,.sl true 1 (aa b)),(6,true,.nil),(7,true,.own 9 5 (au (cF o a b i).out)),(8,true,.own 10 1 (aj (mtE o a))),(9,true,.own 11 1 (aj (mtE o b))),(10,true,.int .i64 (cF o a b i).io),(11,true,.int .i64 (cF o a b i).ia),(12,true,.int .i64 (cF o a b i).ib),(13,true,.int .i64 i)],[(9,.own 278 5 true (au (cF o a b i).out)),(10,.own 3 1 true (aj (mtE o a))),(11,.own 3 1 true (aj (mtE o b)))]⟩,fun i=>i<=o.length+1,fun i=>o.length+1 - i⟩
def qV:Con:=.fn 93 (List Str × List Str × List Str) (fun a=>[.sl true 1 (aa a.1),.sl true 1 (aa a.2.1),.sl true 1 (aa a.2.2)]) (fun a=>a.1.length<=100000/\a.2.1.length<=100000/\a.2.2.length<=100000) (fun a=>.own 8 5 (au (of3 a.1 a.2.1 a.2.2))) (fun a=>uA 8 (of3 a.1 a.2.1 a.2.2))
theorem FY:Has Tryz.prog 266 qV:=by
 refine ah mixed ap (HasL.cons xX (HasL.cons FZ (HasL.cons F0 HasL.nil))) [0,1,2,6,7,8,9,10,11,12,13] ((fun a n (_:Nat)=>(fun a _=>xZ a.1 a.2.1 a.2.2) a n)) [] Tryz.func266 (by unfold Tryz.f266; rfl) (fun _=>⟨(),trivial⟩) ?_
 intro a ha;obtain ⟨o,a,b⟩:=a;obtain ⟨h1,h2,h3⟩:o.length<=100000/\a.length<=100000/\b.length<=100000:=ha;simp (maxSteps:=4000000) -implicitDefEqProofs [qV,nz,qW,nC,oH,oI,l3A,l3P,Con.fn,ag,xZ,Sum.exists]
 try dsimp only
 have ea:=yy o a;have eb:=yy o b;have la:=gU o a;have lb:=gU o b;have m1:=iC o a 0;have m2:=iC o b 0;refine ⟨o,a,⟨rfl,rfl⟩,⟨by omega,by omega⟩,fun _=>⟨⟨by omega,by omega⟩,o,b,⟨rfl,rfl⟩,⟨by omega,by omega⟩,fun _=>⟨⟨by omega,by omega⟩,⟨0,⟨⟨rfl,ea.symm,eb.symm,rfl,rfl,rfl,rfl⟩,rfl,ea,eb⟩,Nat.zero_le _⟩,fun t ht hla=>⟨fun hlt=>?_,fun hge=>?_⟩⟩⟩⟩
 ·have ok:=mn o a b t ht;have st:cF o a b (t+1)=iM o a b ((mtE o a).getD t 0) ((mtE o b).getD t 0) t (cF o a b t):=rfl;obtain ⟨k1,k2,k3,k4,k5,k6,k7⟩:=ok;have ga:(mtE o a).getD t 0=(mtE o a)[t]'(by omega):=by simp -implicitDefEqProofs [List.getD_eq_getElem?_getD,List.getElem?_eq_getElem (show t < (mtE o a).length by omega)]
  have gb:(mtE o b).getD t 0=(mtE o b)[t]'(by omega):=by simp -implicitDefEqProofs [List.getD_eq_getElem?_getD,List.getElem?_eq_getElem (show t < (mtE o b).length by omega)]
  have k4:=gI (l:=mtE o a) (by omega) k4
  have k5:=gI (l:=mtE o b) (by omega) k5
  have oa:(mtE o a)[t]? = some ((mtE o a)[t]'(by omega)):=List.getElem?_eq_getElem (by omega)
  have ob:(mtE o b)[t]? = some ((mtE o b)[t]'(by omega)):=List.getElem?_eq_getElem (by omega)
  rw [ga,gb] at st;rw [oa,ob];generalize (mtE o a)[t]'(by omega)=x at *
  generalize (mtE o b)[t]'(by omega)=y at *
  generalize cF o a b t=S at *;obtain ⟨io,ia,ib,out⟩:=S;simp only at k1 k2 k3 k4 k5 k6 k7;simp -implicitDefEqProofs [aq,D.asInt,hlt,la,lb,bj,bp];have skip:x < 0 \/ y < 0->cF o a b (t+1)=⟨io,ia,ib,out⟩:=fun h=>by rw [st]; unfold iM; rw [if_pos h]
  have p1:(List.take (t - io) (List.drop io o))=(o.take t).drop io:=(List.drop_take).symm;have p2:(List.take (x.toNat - ia) (List.drop ia a))=(a.take x.toNat).drop ia:=(List.drop_take).symm;have p3:(List.take (y.toNat - ib) (List.drop ib b))=(b.take y.toNat).drop ib:=(List.drop_take).symm;rw [p1,p2,p3];refine ⟨by omega,fun _=>⟨fun hx=>⟨⟨by omega,by omega⟩,fun _ _=>⟨t+1,by rw [skip (.inl hx)]; exact ⟨⟨⟨rfl,rfl,rfl,rfl,by omega⟩,rfl⟩,by omega,by omega⟩⟩⟩,fun hx=>⟨by omega,fun _=>⟨fun hy=>⟨⟨by omega,by omega⟩,fun _ _=>⟨t+1,by rw [skip (.inr hy)]; exact ⟨⟨⟨rfl,rfl,rfl,rfl,by omega⟩,rfl⟩,by omega,by omega⟩⟩⟩,fun hy=>?_⟩⟩⟩⟩
  have st2:cF o a b (t+1)=⟨t+1,x.toNat+1,y.toNat+1,if t < o.length then be (be out (aZ ((o.take t).drop io) ((a.take x.toNat).drop ia) ((b.take y.toNat).drop ib))) ⟨false,[o.getD t []],[],[],[]⟩ else be out (aZ ((o.take t).drop io) ((a.take x.toNat).drop ia) ((b.take y.toNat).drop ib))⟩:=by rw [st]; unfold iM; rw [if_neg (by omega)]
  have l1:((o.take t).drop io).length<=100000:=by simp; omega
  have l2:((a.take x.toNat).drop ia).length<=100000:=by simp; omega
  have l3:((b.take y.toNat).drop ib).length<=100000:=by simp; omega
  have pl:=ze ((o.take t).drop io) ((a.take x.toNat).drop ia) ((b.take y.toNat).drop ib);refine ⟨⟨k1,by omega⟩,fun _ _=>⟨by omega,fun _=>⟨⟨by omega,by omega⟩,fun _ _=>⟨by omega,fun _=>⟨⟨by omega,by omega⟩,fun _ _=>⟨_,_,_,⟨rfl,rfl,rfl⟩,⟨by omega,by omega,by omega⟩,out,aZ _ _ _,⟨rfl,rfl,rfl,rfl,rfl,rfl⟩,⟨rfl,rfl,rfl,rfl,rfl⟩,?_,?_⟩⟩⟩⟩⟩⟩
  ·rintro q1 q2 (⟨rfl,rfl⟩ | ⟨rfl,rfl⟩ | ⟨rfl,rfl⟩ | ⟨rfl,rfl⟩ | ⟨rfl,rfl⟩) <;> simp
  have pl2:=o9 out (aZ ((o.take t).drop io) ((a.take x.toNat).drop ia) ((b.take y.toNat).drop ib));have pb:=o7 (p:=aZ ((o.take t).drop io) ((a.take x.toNat).drop ia) ((b.take y.toNat).drop ib)) k7;generalize aZ ((o.take t).drop io) ((a.take x.toNat).drop ia) ((b.take y.toNat).drop ib)=p at *;refine ⟨⟨by omega,fun q hq=>by have:=k7 q hq; omega,by omega⟩,fun _=>⟨fun hto=>?_,fun hto=>?_⟩⟩
  ·have go:o.getD t []=o[t]:=by simp -implicitDefEqProofs [List.getD_eq_getElem?_getD,hto]
   rw [if_pos hto,go] at st2;simp -implicitDefEqProofs [hto,ak,D.asStr];refine ⟨be out p,[o[t]],⟨rfl,rfl⟩,⟨rfl,rfl⟩,?_,⟨by omega,fun q hq=>by have:=pb q hq; omega,by simp⟩,⟨by omega,by omega⟩,fun _ _=>⟨by omega,fun _=>⟨⟨by omega,by omega⟩,fun _ _=>⟨by omega,fun _=>⟨⟨by omega,by omega⟩,fun _ _=>⟨⟨by omega,by omega⟩,fun _ _=>⟨t+1,?_⟩⟩⟩⟩⟩⟩⟩
   ·rintro q1 q2 (⟨rfl,rfl⟩ | ⟨rfl,rfl⟩) <;> simp
   ·rw [st2];exact ⟨⟨⟨rfl,by simp,by simp; omega,by simp; omega,by omega⟩,rfl⟩,by omega,by omega⟩
  ·rw [if_neg (by omega)] at st2
   refine ⟨⟨by omega,by omega⟩,fun _ _=>⟨by omega,fun _=>⟨⟨by omega,by omega⟩,fun _ _=>⟨by omega,fun _=>⟨⟨by omega,by omega⟩,fun _ _=>⟨⟨by omega,by omega⟩,fun _ _=>⟨t+1,?_⟩⟩⟩⟩⟩⟩⟩
   rw [st2];exact ⟨⟨⟨rfl,by simp,by simp; omega,by simp; omega,by omega⟩,rfl⟩,by omega,by omega⟩
 ·have:t=o.length+1:=by omega
  subst this;exact ⟨rfl,rfl⟩
def ci (l:List PartD) (i:Nat):List Str:=(l.take i).flatMap (·.lines)
def qX:Con:=.fn 29 (List PartD) (fun l=>[.sl true 5 (au l)]) (fun l=>l.length<=1048576 /\ ∀ q ∈ l,q.lines.length<=1048576) (fun l=>.tup [.sl false 1 (aa (cN l).1),.bool (cN l).2]) (fun _=>[])
theorem F4:Has Tryz.prog 265 qX:=by
 refine ah mixed ap (HasL.cons mc HasL.nil) [0,2,3,4,5] ((fun a n (_:Nat)=>(fun l _=>⟨Nat,fun i=>⟨[(0,true,.sl true 5 (au l)),(2,true,.nil),(3,true,.bool false),(4,true,.own 9 1 (aa (ci l i))),(5,true,.int .i64 i)],[(9,.own 9 1 true (aa (ci l i)))]⟩,fun i=>i<=l.length/\(l.take i).any (·.clash)=false,fun i=>l.length - i⟩) a n)) [] Tryz.func265 (by unfold Tryz.f265; rfl) (fun _=>⟨(),trivial⟩) ?_
 intro (l:List PartD) ha;obtain ⟨h1,h2⟩:l.length<=1048576 /\ ∀ q ∈ l,q.lines.length<=1048576:=ha;simp -implicitDefEqProofs [qX,jM,Con.fn,ag]
 try dsimp only
 have hl0:∀ i,i<=l.length->(ci l i).length<=i * 1048576:=fun i=>by
  induction i with
  | zero=>intro _; simp -implicitDefEqProofs [ci]
  | succ i ih =>
   intro h;have e:ci l (i+1)=ci l i++l[i].lines:=by unfold ci; rw [bM (show i < l.length by omega),List.flatMap_append]; simp
   have:=h2 l[i] (List.getElem_mem _);have:=ih (by omega)
   rw [e,List.length_append]; clear e; omega
 have f:∀ (t:List Str),∀ x ∈ aa t,∀ d ∈ x,match d with | .sl _ _ _=>False | _=>True:=fun t=>(eStrs_flat t).mpr trivial
 have hn0:(∃ q ∈ l,q.clash=true)->cN l=([],false):=fun ⟨q,h,h'⟩=>by unfold cN; rw [if_pos (by simp; exact ⟨q,h,h'⟩)]
 have hn1:(∀ q ∈ l,q.clash=false)->aD (ci l l.length)=false->cN l=([],false):=fun h h'=>by unfold cN ci at *; rw [List.take_length] at h'; rw [if_neg (by simp; exact h),if_neg (by simp -implicitDefEqProofs [h'])]
 have hn2:(∀ q ∈ l,q.clash=false)->aD (ci l l.length)=true->cN l=(ci l l.length,true):=fun h h'=>by unfold cN ci at *; rw [List.take_length] at *; rw [if_neg (by simp; exact h),if_pos h']
 refine ⟨⟨0,⟨⟨rfl,rfl⟩,rfl⟩,Nat.zero_le _,by simp⟩,fun t ht hc _=>⟨fun hlt=>⟨hlt,fun _=>?_⟩,fun hge=>?_⟩⟩
 ·have e:ci l (t+1)=ci l t++l[t].lines:=by unfold ci; rw [bM hlt,List.flatMap_append]; simp
  have q1:=h2 l[t] (List.getElem_mem hlt);have q2:=hl0 t ht;have q3:l[t] ∈ l:=List.getElem_mem hlt;have q4:∀ x ∈ l.take (t+1),x ∈ l.take t \/ x=l[t]:=fun x hx=>by rw [bM hlt] at hx; exact (List.mem_append.1 hx).imp id (fun h=>List.mem_singleton.1 h)
  have qq:Option.map cH l[t]? = some (cH l[t]):=by simp -implicitDefEqProofs [hlt]
  rw [qq];generalize l[t]=q at *;simp -implicitDefEqProofs [cH,D.asBool,D.asRows];refine ⟨fun h=>by rw [hn0 ⟨q,q3,h⟩]; exact ⟨rfl,rfl⟩,fun h=>⟨hlt,fun _=>⟨f _,⟨by omega,by omega⟩,⟨by omega,by omega⟩,fun _ _=>⟨t+1,⟨⟨by rw [e,bw],by omega⟩,by rw [e,bw]⟩,⟨by omega,fun x hx=>(q4 x hx).elim (hc x) (fun hx=>hx ▸ h)⟩,by omega⟩⟩⟩⟩
 ·have:t=l.length:=by omega
  subst this;rw [List.take_length] at hc;exact ⟨fun h=>by rw [hn1 hc h]; exact ⟨rfl,rfl⟩,fun h=>by rw [hn2 hc h]; exact ⟨rfl,rfl⟩⟩
def rsO (r:RepoD):Inv:=⟨Nat,fun i=>⟨[(1,true,.ptr 10 0),(2,true,.bool false),(3,true,.int .i64 i)],[(10,cP r)]⟩,fun i=>i<=r.commits.length /\ ∀ j,j < i->dv r.commits j=true,fun i=>r.commits.length - i⟩
def rsI (r:RepoD) (g:Nat):Inv:=⟨Nat,fun k=>⟨[(1,true,.ptr 10 0),(2,true,.bool false),(3,true,.int .i64 g),(4,true,.ptr 11 0),(5,true,.int .i64 k)],[(10,cP r),(11,.box 94 [.sl true 1 (aj (r.commits.getD g default).parents),.str (r.commits.getD g default).who,.sl true 2 (ac (r.commits.getD g default).tree)])]⟩,
 fun k=>g < r.commits.length/\k<=(r.commits.getD g default).parents.length/\(∀ j,j < g->dv r.commits j=true) /\ ∀ j,j < k->gC g (r.commits.getD g default).parents j=true,fun k=>(r.commits.getD g default).parents.length - k⟩
def rsH (r:RepoD):Inv:=⟨Nat,fun i=>⟨[(1,true,.ptr 10 0),(2,true,.bool false),(6,true,.int .i64 i)],[(10,cP r)]⟩,fun i=>i<=r.heads.length/\(∀ j,j < r.commits.length->dv r.commits j=true) /\ ∀ j,j < i->dQ r.commits.length r.heads j=true,fun i=>r.heads.length - i⟩
def pj (r:RepoD) (n g:Nat):Inv:=if n=2 then rsO r else if n=6 then rsI r g else rsH r
theorem JJ (r:RepoD) (g:Nat):pj r 2 g=rsO r:=rfl
theorem JK (r:RepoD) (g:Nat):pj r 6 g=rsI r g:=rfl
theorem JI (r:RepoD) (g:Nat):pj r 13 g=rsH r:=rfl
def gh:Con:=.fn 126 RepoD (fun r=>[bh r]) (fun r=>r.commits.length<=1073741824) (fun r=>.bool (ar r)) (fun _=>[])
theorem iB:Has Tryz.prog 51 gh:=by
 refine ah mixed ap (HasL.cons i7 (HasL.cons i9 (HasL.cons md HasL.nil))) [0,1,2,3,4,5,6] (fun r=>pj r) [] Tryz.func51 (by unfold Tryz.f51; rfl) (fun _=>⟨(),trivial⟩) ?_
 intro (r:RepoD) hr;replace hr:r.commits.length<=1073741824:=hr;have hN:=fun i=>@Jm r i;have hN1:=fun i=>@Hv r.commits i;have hN2:=fun i k=>@Hw r.commits i k;have hY:=fun i=>@Hx r.commits i;have hM:=fun i=>@xz r.commits.length r.heads i;have hH:=@Jn r;simp -implicitDefEqProofs [gh,Con.fn,ag,gN,jN,gM,JJ,JK,JI,rsO,rsI,rsH,bu]
 try dsimp only
 refine fun i hi hprev _=>⟨fun hlt=>?_,fun hge=>?_⟩
 ·have e3:Option.map ba r.commits[i]? = some (ba r.commits[i]):=by simp -implicitDefEqProofs [List.getElem?_eq_getElem hlt]
  have hgc:r.commits.getD i default=r.commits[i]:=by simp -implicitDefEqProofs [List.getD_eq_getElem?_getD,hlt]
  have n0:=hN i hlt;have n1:=hN1 i;have n2:=hN2 i;have n3:=hY i;rw [hgc] at n1 n2 n3;simp -implicitDefEqProofs [hlt,e3,ba,D.asStr,D.asRows,bn,and_assoc]
  try simp only [show r.commits[i]?.getD default=r.commits[i] by simp -implicitDefEqProofs [hlt]]
  generalize r.commits[i]=c at n1 n2 n3 ⊢;clear hN hN1 hN2 hY hM hH e3 hgc;refine ⟨hprev,fun t ht _ hinv _=>⟨fun hlt2=>?_,fun hge2=>?_⟩⟩
  ·have qt:Option.map aq c.parents[t]? = some (aq c.parents[t]):=by simp -implicitDefEqProofs [List.getElem?_eq_getElem hlt2]
   have q0:Option.map aq c.parents[0]? = some (aq (c.parents[0]'(by omega))):=by simp -implicitDefEqProofs [List.getElem?_eq_getElem (show 0 < c.parents.length by omega)]
   have o:gC i c.parents t=((decide (0<=c.parents[t]) && decide (c.parents[t]<=(i:Int) - 1)) && !(decide (0 < t) && decide (c.parents[t]=c.parents[0]'(by omega)))):=by
    unfold gC inN;rw [show c.parents.getD t 0=c.parents[t] by simp -implicitDefEqProofs [List.getD_eq_getElem?_getD,hlt2],show c.parents.getD 0 0=c.parents[0]'(by omega) by simp -implicitDefEqProofs [List.getD_eq_getElem?_getD,show 0 < c.parents.length by omega]]
   have n7:gC i c.parents t=false->ar r=false:=fun h=>n0 (n2 t hlt2 h);have n8:gC i c.parents t=true -> ∀ j,j < t+1->gC i c.parents j=true:=fun h j hj=>by
    rcases Nat.lt_or_ge j t with h3 | h3
    ·exact hinv j h3
    ·have:j=t:=by omega
     subst this; exact h
   simp -implicitDefEqProofs [qt,q0,aq,hlt2];refine ⟨by omega,by omega,fun _ _=>⟨fun h=>?_,fun g1 g2=>⟨fun h0=>⟨by omega,fun _=>⟨fun he=>n7 (by rw [o]; simp -implicitDefEqProofs [he,h0]),fun he=>⟨by omega,by omega,fun _ _=>⟨t+1,rfl,by omega,hprev,n8 (by rw [o]; simp -implicitDefEqProofs [g1,g2,he]),by omega⟩⟩⟩⟩,
    fun h0=>⟨by omega,by omega,fun _ _=>⟨t+1,rfl,by omega,hprev,n8 (by rw [o,show decide (0 < t)=false by simp -implicitDefEqProofs [h0]]; simp -implicitDefEqProofs [g1,g2]),by omega⟩⟩⟩⟩⟩
   have:ar r=false:=n7 (by rw [o]; simp; omega)
   exact ⟨fun _=>this,fun _=>this⟩
  ·have n9:eX c=false->ar r=false:=fun h=>n0 (n1 h);have n10:eX c=true -> ∀ j,j < i+1->dv r.commits j=true:=fun h j hj=>by
    rcases Nat.lt_or_ge j i with h3 | h3
    ·exact hprev j h3
    ·have:j=i:=by omega
     subst this;exact n3 h (fun k hk=>hinv k (by omega))
   refine fun _=>⟨fun h=>n9 (by simp -implicitDefEqProofs [eX]; omega),fun h=>⟨fun hn=>n9 (by simp -implicitDefEqProofs [eX,hn]),fun hn=>⟨fun ht=>n9 (by simp -implicitDefEqProofs [eX,ht]),fun ht=>⟨by omega,by omega,fun _ _=>⟨i+1,rfl,by omega,n10 (by simp -implicitDefEqProofs [eX,hn,ht]; omega),by omega⟩⟩⟩⟩⟩
 ·clear hN hN1 hN2 hY;have hall:∀ j,j < r.commits.length->dv r.commits j=true:=fun j hj=>hprev j (by omega)
  refine ⟨hall,fun t ht _ hinv _=>⟨fun hlt2=>?_,fun hge2 _=>?_⟩⟩
  ·generalize hhs:r.heads=hs at *;have e3:Option.map aW hs[t]? = some (aW hs[t]):=by simp -implicitDefEqProofs [List.getElem?_eq_getElem hlt2]
   have e4:Option.map aW hs[t - 1]? = some (aW (hs[t - 1]'(by omega))):=by simp -implicitDefEqProofs [List.getElem?_eq_getElem (show t - 1 < hs.length by omega)]
   have hh:dQ r.commits.length hs t=(aM hs[t].name && inN r.commits.length hs[t].at_ && (decide (t=0) || Go.Op.bytesLess (hs[t - 1]'(by omega)).name hs[t].name)):=by
    unfold dQ;rw [show hs.getD t default=hs[t] by simp -implicitDefEqProofs [List.getD_eq_getElem?_getD,hlt2],show hs.getD (t - 1) default=hs[t - 1]'(by omega) by simp -implicitDefEqProofs [List.getD_eq_getElem?_getD,show t - 1 < hs.length by omega]]
   have n7:dQ r.commits.length hs t=false->ar r=false:=fun h=>hH (hM t hlt2 h);have n8:dQ r.commits.length hs t=true -> ∀ j,j < t+1->dQ r.commits.length hs j=true:=fun h j hj=>by
    rcases Nat.lt_or_ge j t with h3 | h3
    ·exact hinv j h3
    ·have:j=t:=by omega
     subst this; exact h
   have hq:=yi hs[t].name (hs[t - 1]'(by omega)).name
   rw [gv] at hh;unfold kW at hq;rw [hh] at n7 n8;unfold inN at n7 n8;clear hh hH hM;simp -implicitDefEqProofs [hlt2,e3,e4,aW,D.asStr,D.asInt,bn,and_assoc]
   try simp +contextual -implicitDefEqProofs [ak,an,bP,bn,bQ,List.getElem?_eq_getElem,bX,bV,bN,bU,<- bw,<- bS,bj,bp,bW,bT,aU,bH,and_assoc,hlt2]
   clear e3 e4 hinv hprev
   repeat' (first | intro _ | apply And.intro)
   all_goals first | omega | grind -ring
  ·have h2:dg r.commits.length r.heads=decide (r.heads.length<=5):=by
    unfold dg;have:(List.range r.heads.length).all (dQ r.commits.length r.heads)=true:=by
     rw [List.all_eq_true];intro j hj;have hj':j < r.heads.length:=by simpa using hj
     exact hinv j (by omega)
    rw [this,Bool.and_true]
   refine ⟨fun h16 _=>?_,fun h16=>?_⟩
   ·rw [Bool.eq_iff_iff,c6,h2];simp only [decide_eq_true_eq];exact ⟨fun h=>by have:=h.2.1; omega,fun h=>⟨hall,by omega,by omega⟩⟩
   ·cases hq:ar r with
    | false=>rfl
    | true=>have:=((c6 r).1 hq).2.2; omega
theorem jr {r:RepoD} (h:aQ r=true) {i:Nat} (hi:i < r.commits.length):r.commits[i].parents.length<=2/\(∀ p ∈ r.commits[i].parents,0<=p/\p < (i:Int))/\aC r.commits[i].tree=true:=by
 have h1:=((lq r).1 h).2.1 i hi;have hg:r.commits.getD i default=r.commits[i]:=by simp -implicitDefEqProofs [List.getD_eq_getElem?_getD,hi]
 simp only [ej,eU,hg,Bool.and_eq_true,decide_eq_true_eq,List.all_eq_true,List.mem_range] at h1;refine ⟨h1.1.1.1.1,fun p hp=>?_,h1.1.2⟩;obtain ⟨k,hk,rfl⟩:=List.getElem_of_mem hp;have h2:=h1.2 k hk;simp only [inN,Bool.and_eq_true,decide_eq_true_eq,List.getD_eq_getElem?_getD,List.getElem?_eq_getElem hk,Option.getD_some] at h2;omega
theorem iK {r:RepoD} (h:aQ r=true):r.commits.length<=16:=((lq r).1 h).1
def lS:Con:=.fn 13 (RepoD × Int) (fun a=>[bh a.1,.int .i64 a.2]) (fun a=>0<=a.2/\a.2 < a.1.commits.length) (fun a=>.sl true 2 (ac (a.1.commits.getD a.2.toNat default).tree)) (fun _=>[])
theorem vr:Has Tryz.prog 47 lS:=by
 refine ah mixed ap HasL.nil [0,1,2,4] ((fun a n (_:Nat)=>(fun _=>aw) a n)) [] Tryz.func47 (by unfold Tryz.f47; rfl) (fun _=>⟨(),trivial⟩) ?_
 intro a ha;obtain ⟨r,n⟩:=a;obtain ⟨h1,h2⟩:0<=n/\n < r.commits.length:=ha;have hi:n.toNat < r.commits.length:=by omega
 have e:Option.map ba r.commits[n.toNat]? = some (ba r.commits[n.toNat]):=by simp -implicitDefEqProofs [hi]
 simp -implicitDefEqProofs [lS,Con.fn,ag,e,ba,hi,h1,h2]
 try dsimp only
 exact fun h=>absurd h (by omega)
def aG (r:RepoD) (a:Int):List FileD:=(r.commits.getD a.toNat default).tree
--TAB bO
def bO:List (Nat × TI):=(128,⟨false,[.sl 4 1],24,[],4⟩) :: ag
theorem c9:∀ t ti,ae bO t=some ti->TOk Tryz.prog t ti:=px (by kernel_rfl)
def cn (b:Bool):List D:=[.bool b]
@[simp] theorem eBool_inj (a b:Bool):(cn a=cn b)=(a=b):=by simp -implicitDefEqProofs [cn]
def aE (l:List Bool):List (List D):=l.map cn
@[simp] theorem eBools_length (l:List Bool):(aE l).length=l.length:=by simp -implicitDefEqProofs [aE]
@[simp] theorem eBools_nil:aE []=[]:=rfl
@[simp] theorem eBools_get (l:List Bool) (i:Nat):(aE l)[i]? = l[i]?.map cn:=by simp -implicitDefEqProofs [aE]
@[simp] theorem eBools_getElem (l:List Bool) (i:Nat) (h:i < (aE l).length):(aE l)[i]=cn (l[i]'(by simpa using h)):=by simp -implicitDefEqProofs [aE]
@[simp] theorem eBools_inj (a b:List Bool):(aE a=aE b)=(a=b):=by
 apply propext;constructor
 ·intro h;exact List.map_inj_right (fun x y h=>by simpa using h) |>.1 h
 ·rintro rfl; rfl
@[simp] theorem eBools_eq_nil (a:List Bool):(aE a=[])=(a=[]):=by simp -implicitDefEqProofs [aE]
@[simp] theorem nil_eq_eBools (a:List Bool):([]=aE a)=(a=[]):=by simp -implicitDefEqProofs [aE,eq_comm]
theorem eg (l:List Bool) (i:Nat) (b:Bool):(aE l).set i [.bool b]=aE (l.set i b):=by simp -implicitDefEqProofs [aE,List.map_set,cn]
theorem iW (n:Nat) (b:Bool):List.replicate n [D.bool b]=aE (List.replicate n b):=by simp -implicitDefEqProofs [aE,cn]
abbrev yZ (h:Nat) (a:List Bool):List (Nat × Blk):=[(h,.own 4 1 true (aE a))]
def isT (l:List Bool) (i:Nat):Bool:=l.getD i false
def dO (l:List Bool) (i:Nat):List Int:=((List.range i).filter (isT l)).map fun j:Nat=>(j:Int)
theorem ug {l:List Bool} {i:Nat} (h:isT l i=true):dO l (i+1)=dO l i++[(i:Int)]:=by simp -implicitDefEqProofs [dO,List.range_succ,h]
theorem uh {l:List Bool} {i:Nat} (h:isT l i=false):dO l (i+1)=dO l i:=by simp -implicitDefEqProofs [dO,List.range_succ,h]
theorem mf (l:List Bool) (i:Nat):(dO l i).length<=i:=by
 have:=List.length_filter_le (isT l) (List.range i)
 simpa [dO] using this
def al (l:List Bool):List Int:=dO l l.length
theorem listT_mem {l:List Bool} {x:Int}:x ∈ al l ↔ ∃ i:Nat,i < l.length/\isT l i=true/\x=i:=by
 simp only [al,dO,List.mem_map,List.mem_filter,List.mem_range];constructor
 ·rintro ⟨i,⟨h1,h2⟩,rfl⟩; exact ⟨i,h1,h2,rfl⟩
 ·rintro ⟨i,h1,h2,rfl⟩; exact ⟨i,⟨h1,h2⟩,rfl⟩
def ru:Con:=.fn 20 (List Bool) (fun l=>[.sl true 1 (aE l)]) (fun l=>l.length<=1048576) (fun l=>.own 8 1 (aj (al l))) (fun l=>j7 8 (al l))
theorem GN:Has Tryz.prog 151 ru:=by
 refine ah mixed c9 HasL.nil [0,2,3,4,5,6,7,8] ((fun a n (_:Nat)=>(fun l _=>⟨Nat,fun i=>⟨[(2,true,.nil),(3,true,.own 9 1 (aj (dO l i))),(6,true,.sl true 1 (aE l)),(7,true,.int .i64 l.length),(8,true,.int .i64 i)],[(9,.own 3 1 true (aj (dO l i)))]⟩,fun i=>i<=l.length,fun i=>l.length - i⟩) a n)) [] Tryz.func151 (by unfold Tryz.f151; rfl) (fun _=>⟨(),trivial⟩) ?_
 intro (l:List Bool) (ha:l.length<=1048576);simp -implicitDefEqProofs [ru,Con.fn,bO,ag]
 try dsimp only
 refine fun _=>⟨⟨0,⟨⟨rfl,rfl⟩,rfl⟩,Nat.zero_le _⟩,fun i hi=>⟨fun hlt=>?_,fun hge=>?_⟩⟩
 ·have hl:=mf l i;have hi:isT l i=l[i]:=by simp -implicitDefEqProofs [isT,List.getD_eq_getElem?_getD,hlt]
  simp -implicitDefEqProofs [hlt,cn,D.asBool,and_assoc];refine ⟨fun h=>?_,fun h=>?_⟩
  ·have e:=ug (hi.trans h);exact ⟨by omega,by omega,by omega,by omega,fun _ _=>⟨i+1,by rw [e]; simp -implicitDefEqProofs [aj,aq],by omega,by rw [e]; simp -implicitDefEqProofs [aj,aq],by omega,by omega⟩⟩
  ·have e:=uh (hi.trans h);exact ⟨by omega,by omega,fun _ _=>⟨i+1,e,by omega,e.symm,by omega,by omega⟩⟩
 ·have:i=l.length:=by omega
  subst this;exact ⟨rfl,rfl⟩
def nG:Con:=.fn 18 (List Int × Int) (fun a=>[.sl true 1 (aj a.1),.int .i64 a.2]) (fun _=>True) (fun a=>.bool (decide (a.2 ∈ a.1))) (fun _=>[])
theorem x9:Has Tryz.prog 110 nG:=by
 refine ah mixed c9 HasL.nil [0,1,4,5] ((fun a n (_:Nat)=>(fun a _=>⟨Nat,fun i=>⟨[(0,true,.sl true 1 (aj a.1)),(1,true,.int .i64 a.2),(4,true,.bool false),(5,true,.int .i64 i)],[]⟩,fun i=>i<=a.1.length /\ ∀ x,x ∈ a.1.take i->x ≠ a.2,fun i=>a.1.length - i⟩) a n)) [] Tryz.func110 (by unfold Tryz.f110; rfl) (fun _=>⟨(),trivial⟩) ?_
 intro a _;obtain ⟨l,n⟩:=a;simp -implicitDefEqProofs [nG,Con.fn,bO,ag]
 try dsimp only
 refine fun i hi hb _=>⟨fun hlt=>?_,fun hge=>?_⟩
 ·simp -implicitDefEqProofs [hlt,aq,D.asInt,and_assoc];refine ⟨fun h=>by rw [<- h]; exact List.getElem_mem hlt,fun h=>⟨by omega,by omega,fun _ _=>⟨i+1,by omega,by omega,fun x hx=>?_,by omega⟩⟩⟩
  rw [bM hlt] at hx;rcases List.mem_append.1 hx with h1 | h1
  ·exact hb x h1
  ·simp only [List.mem_singleton] at h1;subst h1; exact h
 ·rw [List.take_of_length_le hge] at hb;exact fun h=>hb n h rfl
def mH (l:List Bool) (ps:List Int):List Bool:=ps.foldl (fun l p=>l.set p.toNat true) l
theorem I2 (ps:List Int):∀ l:List Bool,(mH l ps).length=l.length:=by
 induction ps with
 | nil=>intro l; rfl
 | cons p r ih=>intro l; show (mH (l.set p.toNat true) r).length=_; rw [ih]; simp
def iN (r:RepoD) (l:List Bool) (i:Nat):List Bool:=if isT l i then mH l (r.commits.getD i default).parents else l
def fx (r:RepoD):Nat->List Bool->List Bool
 | 0,l=>l
 | n+1,l=>fx r n (iN r l n)
def anc (r:RepoD) (a:Int):List Bool:=fx r (a+1).toNat ((List.replicate r.commits.length false).set a.toNat true)
theorem vT (r:RepoD):∀ (n:Nat) (l:List Bool),(fx r n l).length=l.length
 | 0,_=>rfl
 | n+1,l=>by
  show (fx r n (iN r l n)).length=_
  rw [vT r n];unfold iN;split
  ·rw [I2]
  ·rfl
theorem dH (r:RepoD) (a:Int):(anc r a).length=r.commits.length:=by unfold anc; rw [vT]; simp
def anO (r:RepoD) (a:Int):Inv:=⟨List Bool × Int,fun t=>⟨[(2,true,.ptr 10 0),(4,true,.nil),(5,true,.own 9 1 (aE t.1)),(6,true,.int .i64 t.2)],[(10,cP r),(9,.own 4 1 true (aE t.1))]⟩,fun t=>t.1.length=r.commits.length /\ -1<=t.2/\t.2 < r.commits.length/\fx r (t.2+1).toNat t.1=anc r a,fun t=>(t.2+1).toNat⟩
def anI (r:RepoD) (a:Int) (g:Nat):Inv:=⟨List Bool × Nat,fun t=>⟨[(2,true,.ptr 10 0),(4,true,.nil),(5,true,.own 9 1 (aE t.1)),(6,true,.int .i64 g),(30,true,.sl true 1 (aj (r.commits.getD g default).parents)),(31,true,.int .i64 (r.commits.getD g default).parents.length),(32,true,.int .i64 t.2)],[(10,cP r),(9,.own 4 1 true (aE t.1))]⟩,fun t=>t.1.length=r.commits.length/\g < r.commits.length/\t.2<=(r.commits.getD g default).parents.length/\fx r g (mH t.1 ((r.commits.getD g default).parents.drop t.2))=anc r a,fun t=>(r.commits.getD g default).parents.length - t.2⟩
def pY (r:RepoD) (a:Int) (n g:Nat):Inv:=if n=4 then anO r a else anI r a g
theorem A9 (r:RepoD) (a:Int) (g:Nat):pY r a 4 g=anO r a:=rfl
theorem Ba (r:RepoD) (a:Int) (g:Nat):pY r a 8 g=anI r a g:=rfl
def np:Con:=.fn 41 (RepoD × Int) (fun a=>[bh a.1,.int .i64 a.2]) (fun a=>aQ a.1=true/\0<=a.2/\a.2 < a.1.commits.length) (fun a=>.own 8 1 (aE (anc a.1 a.2))) (fun a=>yZ 8 (anc a.1 a.2))
theorem vU:Has Tryz.prog 104 np:=by
 refine ah mixed c9 HasL.nil [0,1,2,4,5,6,8,30,31,32] (fun a=>pY a.1 a.2) [] Tryz.func104 (by unfold Tryz.f104; rfl) (fun _=>⟨(),trivial⟩) ?_
 intro a ha;obtain ⟨r,n⟩:=a;obtain ⟨h1,h2,h3⟩:aQ r=true/\0<=n/\n < r.commits.length:=ha;have h4:=iK h1;simp -implicitDefEqProofs [np,Con.fn,bO,ag,A9,Ba,anO,anI,bu]
 try dsimp only
 refine fun _=>⟨by omega,fun _=>⟨⟨h2,h3⟩,fun _ _=>⟨by omega,⟨(List.replicate r.commits.length false).set n.toNat true,n,⟨⟨by rw [iW]; exact (eg _ _ _).symm,rfl⟩,by rw [iW]; exact eg _ _ _⟩,by simp,by omega,h3,rfl⟩,fun l b g1 g2 g3 g4=>⟨fun hb=>⟨⟨hb,by omega⟩,fun _ _=>?_⟩,fun hb=>?_⟩⟩⟩⟩
 ·have hb1:b.toNat < l.length:=by omega
  have hb2:b.toNat < r.commits.length:=by omega
  obtain ⟨p1,p2,_⟩:=jr h1 hb2;have hT:isT l b.toNat=l[b.toNat]:=by simp -implicitDefEqProofs [isT,List.getD_eq_getElem?_getD,hb1]
  have hbb:(b+1).toNat=b.toNat+1:=by omega
  have hgd:r.commits.getD b.toNat default=r.commits[b.toNat]:=by simp -implicitDefEqProofs [List.getD_eq_getElem?_getD,hb2]
  rw [hbb] at g4;have g5:fx r b.toNat (iN r l b.toNat)=anc r n:=g4;unfold iN at g5;rw [hT,hgd] at g5;have e3:Option.map ba r.commits[b.toNat]? = some (ba r.commits[b.toNat]):=by simp -implicitDefEqProofs [hb2]
  have hgo:r.commits[b.toNat]?.getD default=r.commits[b.toNat]:=by simp -implicitDefEqProofs [hb2]
  simp -implicitDefEqProofs [hb1,cn,D.asBool,e3,ba,D.asRows,hb,show b < r.commits.length by omega]
  refine ⟨fun h _=>⟨b.toNat,?_⟩,fun h=>⟨⟨by omega,by omega⟩,fun _ _=>⟨l,b - 1,⟨⟨rfl,rfl⟩,rfl⟩,⟨g1,by omega,by omega,?_⟩,by omega⟩⟩⟩
  ·rw [if_pos h] at g5;rw [hgo];generalize r.commits[b.toNat]=c at *;refine ⟨⟨l,0,⟨⟨rfl,by omega,rfl,rfl,rfl⟩,rfl⟩,g1,hb2,Nat.zero_le _,g5⟩,fun m k m1 m2 m3 m4=>⟨fun hlt=>⟨hlt,fun _=>?_⟩,fun hge=>⟨⟨by omega,by omega⟩,fun _ _=>⟨m,b - 1,⟨⟨rfl,by omega⟩,rfl⟩,⟨m1,by omega,by omega,?_⟩,by omega⟩⟩⟩⟩
   ·have hp:=p2 c.parents[k] (List.getElem_mem hlt);have qt:Option.map aq c.parents[k]? = some (aq c.parents[k]):=by simp -implicitDefEqProofs [List.getElem?_eq_getElem hlt]
    simp -implicitDefEqProofs [qt,aq,D.asInt];refine ⟨⟨hp.1,by omega⟩,fun _ _=>⟨by omega,⟨by omega,by omega⟩,fun _ _=>⟨m.set c.parents[k].toNat true,k+1,⟨⟨(eg _ _ _).symm,by omega⟩,eg _ _ _⟩,⟨by simp -implicitDefEqProofs [m1],m2,by omega,?_⟩,by omega⟩⟩⟩
    rw [List.drop_eq_getElem_cons hlt] at m4;exact m4
   ·rw [List.drop_eq_nil_of_le hge] at m4;rw [show (b - 1+1).toNat=b.toNat by omega]
    exact m4
  ·rw [if_neg (by rw [h]; simp)] at g5
   rw [show (b - 1+1).toNat=b.toNat by omega]
   exact g5
 ·have hbb:(b+1).toNat=0:=by omega
  rw [hbb] at g4;have g5:l=anc r n:=g4;exact ⟨g5.symm,g5⟩
--TAB bO
--TAB bO
theorem xO {l:List Bool} {p g:Nat} (b:Bool) (h:p ≠ g):isT (l.set p b) g=isT l g:=by
 unfold isT;rw [List.getD_eq_getElem?_getD,List.getD_eq_getElem?_getD,List.getElem?_set_ne h]
def alO (r:RepoD) (a:Int):Inv:=⟨List Bool × Int,fun t=>⟨[(2,true,.ptr 10 0),(4,true,.nil),(5,true,.own 9 1 (aE t.1)),(6,true,.int .i64 t.2)],[(10,cP r),(9,.own 4 1 true (aE t.1))]⟩,fun t=>t.1.length=r.commits.length /\ -1<=t.2/\t.2 < r.commits.length/\fx r (t.2+1).toNat t.1=anc r a,fun t=>(t.2+1).toNat⟩
def alI (r:RepoD) (a:Int) (g:Nat):Inv:=⟨List Bool × Nat,fun t=>⟨[(2,true,.ptr 10 0),(4,true,.nil),(5,true,.own 9 1 (aE t.1)),(6,true,.int .i64 g),(7,true,.int .i64 t.2)],[(10,cP r),(9,.own 4 1 true (aE t.1))]⟩,fun t=>t.1.length=r.commits.length/\g < r.commits.length/\t.2<=(r.commits.getD g default).parents.length/\(isT t.1 g=true->fx r g (mH t.1 ((r.commits.getD g default).parents.drop t.2))=anc r a)/\(isT t.1 g=false->fx r g t.1=anc r a),fun t=>(r.commits.getD g default).parents.length - t.2⟩
def alT (r:RepoD) (a:Int):Inv:=⟨Nat,fun i=>⟨[(2,true,.ptr 10 0),(4,true,.nil),(5,true,.own 9 1 (aE (anc r a))),(8,true,.own 11 1 (aj (dO (anc r a) i))),(9,true,.int .i64 i)],[(10,cP r),(9,.own 4 1 true (aE (anc r a))),(11,.own 3 1 true (aj (dO (anc r a) i)))]⟩,fun i=>i<=r.commits.length,fun i=>r.commits.length - i⟩
def lF (r:RepoD) (a:Int) (n g:Nat):Inv:=if n=4 then alO r a else if n=7 then alI r a g else alT r a
theorem vP (r:RepoD) (a:Int) (g:Nat):lF r a 4 g=alO r a:=rfl
theorem vQ (r:RepoD) (a:Int) (g:Nat):lF r a 7 g=alI r a g:=rfl
theorem vO (r:RepoD) (a:Int) (g:Nat):lF r a 12 g=alT r a:=rfl
def rl:Con:=.fn 66 (RepoD × Int) (fun a=>[bh a.1,.int .i64 a.2]) (fun a=>aQ a.1=true/\0<=a.2/\a.2 < a.1.commits.length) (fun a=>.own 8 1 (aj (al (anc a.1 a.2)))) (fun a=>j7 8 (al (anc a.1 a.2)))
theorem Gs:Has Tryz.prog 111 rl:=by
 refine ah mixed c9 HasL.nil [0,1,2,4,5,6,7,8,9] (fun a=>lF a.1 a.2) [] Tryz.func111 (by unfold Tryz.f111; rfl) (fun _=>⟨(),trivial⟩) ?_
 intro a ha;obtain ⟨r,n⟩:=a;obtain ⟨h1,h2,h3⟩:aQ r=true/\0<=n/\n < r.commits.length:=ha;have h4:=iK h1;simp -implicitDefEqProofs [rl,Con.fn,bO,ag,vP,vQ,vO,alO,alI,alT,bu]
 try dsimp only
 simp only [and_assoc,exists_eq_left,exists_and_left,RepoD.ex1,RepoD.eta];have hal:=dH r n;refine fun _=>⟨by omega,fun _=>⟨h2,h3,fun _ _=>⟨by omega,⟨(List.replicate r.commits.length false).set n.toNat true,by rw [iW]; exact (eg _ _ _).symm,by rw [iW]; exact eg _ _ _,by simp,by omega,h3,rfl⟩,fun l b g1 g2 g3 g4=>⟨fun hb=>⟨b.toNat,?_⟩,fun hb=>?_⟩⟩⟩⟩
 ·have hb1:b.toNat < l.length:=by omega
  have hb2:b.toNat < r.commits.length:=by omega
  obtain ⟨p1,p2,_⟩:=jr h1 hb2;have hgd:r.commits.getD b.toNat default=r.commits[b.toNat]:=by simp -implicitDefEqProofs [List.getD_eq_getElem?_getD,hb2]
  have hgo:r.commits[b.toNat]?.getD default=r.commits[b.toNat]:=by simp -implicitDefEqProofs [hb2]
  rw [show (b+1).toNat=b.toNat+1 by omega] at g4
  have g5:fx r b.toNat (iN r l b.toNat)=anc r n:=g4;unfold iN at g5;rw [hgd] at g5;have e3:Option.map ba r.commits[b.toNat]? = some (ba r.commits[b.toNat]):=by simp -implicitDefEqProofs [hb2]
  rw [hgo,e3];generalize r.commits[b.toNat]=c at *;refine ⟨by omega,trivial,g1,hb2,Nat.zero_le _,fun h=>?_,fun h=>?_,fun m k m1 m2 m3 m4 m5=>⟨hb2,fun _=>?_⟩⟩
  ·rw [if_pos h] at g5; exact g5
  ·rw [if_neg (by rw [h]; simp)] at g5; exact g5
  ·have hbm:b.toNat < m.length:=by omega
   have hT:isT m b.toNat=m[b.toNat]:=by simp -implicitDefEqProofs [isT,List.getD_eq_getElem?_getD,hbm]
   have e4:Option.map cn m[b.toNat]? = some (cn m[b.toNat]):=by simp -implicitDefEqProofs [hbm]
   have hmx:max b 0=b:=Int.max_eq_left hb;simp -implicitDefEqProofs [ba,D.asRows,e4,cn,hbm,hb2,hmx];refine fun _=>⟨fun hl2=>⟨fun hm=>⟨hl2,fun _=>?_⟩,fun hm=>⟨by omega,by omega,fun _ _=>⟨m1,by omega,by omega,m5 (hT.trans hm),by omega⟩⟩⟩,fun hge=>⟨by omega,by omega,fun _ _=>⟨m1,by omega,by omega,?_,by omega⟩⟩⟩
   ·have hp:=p2 c.parents[k] (List.getElem_mem hl2);have qt:Option.map aq c.parents[k]? = some (aq c.parents[k]):=by simp -implicitDefEqProofs [List.getElem?_eq_getElem hl2]
    simp -implicitDefEqProofs [qt,aq,D.asInt];have hst:isT (m.set c.parents[k].toNat true) b.toNat=true:=by rw [xO _ (by omega)]; exact hT.trans hm
    refine ⟨hp.1,by omega,fun _ _=>⟨by omega,by omega,by omega,fun _ _=>⟨m.set c.parents[k].toNat true,(eg _ _ _).symm,k+1,by omega,eg _ _ _,by simp -implicitDefEqProofs [m1],by omega,fun _=>?_,fun h=>?_,by omega⟩⟩⟩
    ·have:=m4 (hT.trans hm);rw [List.drop_eq_getElem_cons hl2] at this;exact this
    ·rw [hst] at h; cases h
   ·cases hm:m[b.toNat] with
    | true =>
     have:=m4 (hT.trans hm);rw [List.drop_eq_nil_of_le hge] at this;exact this
    | false=>exact m5 (hT.trans hm)
 ·rw [show (b+1).toNat=0 by omega] at g4
  have g5:l=anc r n:=g4;refine ⟨g5.symm,⟨0,rfl,rfl,g5,rfl,Nat.zero_le _⟩,fun i hi _=>⟨fun hlt=>?_,fun hge=>?_⟩⟩
  ·have hl:=mf (anc r n) i;have hi:isT (anc r n) i=(anc r n)[i]:=by simp -implicitDefEqProofs [isT,List.getD_eq_getElem?_getD,hlt]
   rw [hal] at hlt;simp -implicitDefEqProofs [hal,hlt,cn,D.asBool,and_assoc];refine ⟨fun h=>?_,fun h=>?_⟩
   ·have e:=ug (hi.trans h);exact ⟨by omega,by omega,by omega,by omega,fun _ _=>⟨i+1,by rw [e]; simp -implicitDefEqProofs [aj,aq],by omega,by rw [e]; simp -implicitDefEqProofs [aj,aq],by omega,by omega⟩⟩
   ·have e:=uh (hi.trans h);exact ⟨by omega,by omega,fun _ _=>⟨i+1,e,by omega,e.symm,by omega,by omega⟩⟩
  ·rw [hal] at hge;have:i=r.commits.length:=by omega
   subst this;unfold al;rw [hal];exact ⟨rfl,rfl⟩
def kI (c:CommitD):Prop:=c.parents.length<=1048576/\c.tree.length<=1048576 /\ ∀ g ∈ c.tree,g.text.length<=1048576
def cE (r:RepoD):Prop:=r.commits.length<=1048576/\(∀ c ∈ r.commits,kI c)/\r.heads.length<=1048576
theorem xe (p:List Int):∀ x ∈ aj p,∀ d ∈ x,match d with | .sl _ _ _=>False | _=>True:=by
 intro x hx d hd;simp only [aj,List.mem_map] at hx;obtain ⟨i,_,rfl⟩:=hx;simp only [aq,List.mem_singleton] at hd;subst hd; trivial
theorem xd (p:List HeadD):∀ x ∈ ai p,∀ d ∈ x,match d with | .sl _ _ _=>False | _=>True:=by
 intro x hx d hd;simp only [ai,List.mem_map] at hx;obtain ⟨i,_,rfl⟩:=hx;simp only [aW,List.mem_cons,List.not_mem_nil,or_false] at hd;rcases hd with rfl | rfl <;> trivial
def rk:Con:=.fn 13 CommitD (fun f=>[.agg [.sl true 1 (aj f.parents),.str f.who,.sl true 2 (ac f.tree)]]) (fun f=>kI f) (fun f=>.agg [.own 8 1 (aj f.parents),.str f.who,.own 9 2 (ac f.tree)]) (fun f=>j7 8 f.parents++jh 9 f.tree)
theorem Gq:Has Tryz.prog 109 rk:=by
 refine ah mixed ap (HasL.cons kU HasL.nil) [0,1,2] ((fun a n (_:Nat)=>(fun _=>aw) a n)) [] Tryz.func109 (by unfold Tryz.f109; rfl) (fun _=>⟨(),trivial⟩) ?_
 intro f hf;obtain ⟨p,x,t⟩:=f;obtain ⟨h1,h2,h3⟩:p.length<=1048576/\t.length<=1048576 /\ ∀ g ∈ t,g.text.length<=1048576:=hf;simp -implicitDefEqProofs [rk,iS,Con.fn,ag]
 try dsimp only
 exact ⟨xe p,by omega,h2,h3⟩
abbrev lH:Blk:=.box 35 [.nil,.nil]
def x7 (r:RepoD):Inv:=⟨Nat,fun i=>⟨[(1,true,.ptr 12 0),(2,true,.ptr 10 0),(3,true,.ptr 11 0),(4,true,.int .i64 i)],[(12,cP r),(10,lH),(11,.box 35 [.own 13 3 (az (r.commits.take i)),.own 14 2 (ai r.heads)]),(13,.own 94 3 true (az (r.commits.take i))),(14,.own 96 2 true (ai r.heads))]⟩,fun i=>i<=r.commits.length,fun i=>r.commits.length - i⟩
def iv:Con:=.fn 29 RepoD (fun r=>[bh r]) cE (fun r=>.agg [.own 8 3 (az r.commits),.own 9 2 (ai r.heads)]) (fun r=>iD 8 r.commits++gD 9 r.heads)
theorem j2:Has Tryz.prog 58 iv:=by
 refine ah mixed ap (HasL.cons Gq HasL.nil) [0,1,2,3,4] ((fun a n (_:Nat)=>(fun r _=>x7 r) a n)) [25,26] Tryz.func58 (by unfold Tryz.f58; rfl) (fun _=>⟨(),trivial⟩) ?_
 intro (r:RepoD) hr;obtain ⟨h1,h2,h3⟩:r.commits.length<=1048576/\(∀ c ∈ r.commits,kI c)/\r.heads.length<=1048576:=hr;simp -implicitDefEqProofs [iv,rk,Con.fn,ag,x7,bu]
 try dsimp only
 refine ⟨xd r.heads,by omega,⟨0,⟨rfl,.inl rfl⟩,Nat.zero_le _⟩,fun i hi _=>⟨fun hlt=>?_,fun hge=>?_⟩⟩
 ·have e:r.commits.take (i+1)=r.commits.take i++[r.commits[i]]:=bM hlt;have hc:=h2 _ (List.getElem_mem hlt);simp -implicitDefEqProofs [hlt,ba,D.asStr,D.asRows,and_assoc];refine ⟨hc,by omega,by omega,by omega,by omega,fun _ _=>⟨i+1,by omega,?_,?_,by omega,by omega⟩⟩
  ·rw [e,lW]
  ·rw [e,lW]
 ·rw [List.take_of_length_le hge]; exact ⟨rfl,rfl⟩
def ct (n:Str) (a:Int) (acc:List HeadD × Bool) (g:HeadD):List HeadD × Bool :=
 if acc.2=false/\Go.Op.bytesLess g.name n=false then (if g.name=n then (acc.1++[⟨n,a⟩],true) else (acc.1++[⟨n,a⟩]++[g],true))
 else (if g.name=n then acc else (acc.1++[g],acc.2))
def hL (n:Str) (a:Int) (l:List HeadD):List HeadD × Bool:=l.foldl (ct n a) ([],false)
def cS (l:List HeadD) (n:Str) (a:Int):List HeadD:=if (hL n a l).2 then (hL n a l).1 else (hL n a l).1++[⟨n,a⟩]
theorem D1 {n:Str} {a:Int} {t:List HeadD} {i:Nat} (h:i < t.length):hL n a (t.take (i+1))=ct n a (hL n a (t.take i)) t[i]:=by
 unfold hL;rw [bM h,List.foldl_append]; rfl
theorem D3 (n:Str) (a:Int) (acc:List HeadD × Bool) (g:HeadD):(ct n a acc g).1.length+acc.2.toNat<=acc.1.length+(ct n a acc g).2.toNat+1:=by
 unfold ct;split
 ·rename_i h;rw [h.1];split <;> simp <;> omega
 ·split <;> simp <;> omega
theorem D0 (n:Str) (a:Int) (t:List HeadD):(hL n a t).1.length<=t.length+(hL n a t).2.toNat:=by
 have:∀ (t:List HeadD) (acc:List HeadD × Bool),(t.foldl (ct n a) acc).1.length+acc.2.toNat<=acc.1.length+t.length+(t.foldl (ct n a) acc).2.toNat:=by
  intro t
  induction t with
  | nil=>intro acc; simp
  | cons g r ih =>
   intro acc;have h1:=ih (ct n a acc g);have h2:=D3 n a acc g;simp only [List.foldl_cons,List.length_cons];omega
 have:=this t ([],false)
 simpa [hL] using this
def x8 (r:RepoD) (n:Str) (a:Int):Inv:=⟨Nat,fun i=>⟨[(1,true,.str n),(2,true,.int .i64 a),(3,true,.ptr 12 0),(6,true,.ptr 10 0),(7,true,.ptr 11 0),(8,true,.bool (hL n a (r.heads.take i)).2),(9,true,.int .i64 i)],[(12,cP r),(10,lH),(11,.box 35 [.sl true 3 (az r.commits),.own 14 2 (ai (hL n a (r.heads.take i)).1)]),(14,.own 96 2 true (ai (hL n a (r.heads.take i)).1))]⟩,fun i=>i<=r.heads.length,fun i=>r.heads.length - i⟩
def lN:Con:=.fn 69 (RepoD × Str × Int) (fun a=>[bh a.1,.str a.2.1,.int .i64 a.2.2]) (fun a=>a.1.heads.length<=1048576) (fun a=>.agg [.sl true 3 (az a.1.commits),.own 9 2 (ai (cS a.1.heads a.2.1 a.2.2))]) (fun a=>gD 9 (cS a.1.heads a.2.1 a.2.2))
theorem tZ:Has Tryz.prog 112 lN:=by
 refine ah mixed ap HasL.nil [0,1,2,3,6,7,8,9] ((fun a n (_:Nat)=>(fun a _=>x8 a.1 a.2.1 a.2.2) a n)) [] Tryz.func112 (by unfold Tryz.f112; rfl) (fun _=>⟨(),trivial⟩) ?_
 intro a ha;obtain ⟨r,n,a⟩:=a;replace ha:r.heads.length<=1048576:=ha;have a0:hL n a []=([],false):=rfl;have a7:∀ i,(hL n a (r.heads.take i)).1.length<=1048577:=fun i=>by
  have h1:=D0 n a (r.heads.take i);have h2:=Bool.toNat_le (hL n a (r.heads.take i)).2;have h3:(r.heads.take i).length<=r.heads.length:=by simp; omega
  omega
 simp -implicitDefEqProofs [lN,Con.fn,ag,x8,bu]
 try dsimp only
 have b1:∀ (X:List HeadD) (g:HeadD),ai X++[[D.str n,D.int .i64 a],[D.str g.name,D.int .i64 g.at_]]=ai (X++[⟨n,a⟩]++[g]):=fun X g=>by simp -implicitDefEqProofs [ai,aW]
 have b2:∀ (X:List HeadD) (g:HeadD),ai X++[[D.str g.name,D.int .i64 g.at_]]=ai (X++[g]):=fun X g=>by simp -implicitDefEqProofs [ai,aW]
 have b3:∀ (X:List HeadD),ai X++[[D.str n,D.int .i64 a]]=ai (X++[⟨n,a⟩]):=fun X=>by simp -implicitDefEqProofs [ai,aW]
 refine ⟨⟨0,by simp -implicitDefEqProofs [a0]⟩,fun i hi _=>⟨fun hlt=>?_,fun hge=>?_⟩⟩
 ·have g:=D1 (n:=n) (a:=a) hlt;have gl:=a7 i;generalize hX:hL n a (r.heads.take i)=X at g gl ⊢;obtain ⟨X,q⟩:=X;simp -implicitDefEqProofs [hlt,aW,D.asStr,D.asInt,and_assoc];rw [b1,b2,b3];have gl:X.length<=1048577:=gl;have fin:∀ (Y:List HeadD) (b:Bool),hL n a (r.heads.take (i+1))=(Y,b) -> ∀ c,b=c -> ∃ t',(hL n a (r.heads.take t')).2=c/\(t':Int)=i+1/\ai (hL n a (r.heads.take t')).1=ai Y/\ai Y=ai (hL n a (r.heads.take t')).1/\t'<=r.heads.length/\r.heads.length - t' < r.heads.length - i:=fun Y b h c hc=>⟨i+1,by rw [h]; exact hc,by omega,by rw [h],by rw [h],by omega,by omega⟩
  have fin2:∀ (Y:List HeadD) (b:Bool),hL n a (r.heads.take (i+1))=(Y,b) -> ∀ c,b=c -> ∃ t',(hL n a (r.heads.take t')).2=c/\(t':Int)=i+1/\(hL n a (r.heads.take t')).1=Y/\Y=(hL n a (r.heads.take t')).1/\t'<=r.heads.length/\r.heads.length - t' < r.heads.length - i:=fun Y b h c hc=>⟨i+1,by rw [h]; exact hc,by omega,by rw [h],by rw [h],by omega,by omega⟩
  refine ⟨fun hq=>⟨fun h=>⟨by omega,by omega,by omega,by omega,fun _ _=>fin _ q ?_ _ rfl⟩,fun h=>⟨by omega,by omega,fun _ _=>fin2 _ q ?_ _ rfl⟩⟩,
   fun hq=>⟨fun hb=>⟨by omega,by omega,fun h=>⟨by omega,by omega,by omega,by omega,fun _ _=>fin _ true ?_ _ rfl⟩,fun h=>⟨by omega,by omega,fun _ _=>fin _ true ?_ _ rfl⟩⟩,
    fun hb=>⟨fun h=>⟨by omega,by omega,by omega,by omega,fun _ _=>fin _ q ?_ _ rfl⟩,fun h=>⟨by omega,by omega,fun _ _=>fin2 _ q ?_ _ rfl⟩⟩⟩⟩
  all_goals rw [g]; unfold ct
  ·rw [if_neg (by simp -implicitDefEqProofs [hq]),if_neg h]
  ·rw [if_neg (by simp -implicitDefEqProofs [hq]),if_pos h]
  ·rw [if_pos ⟨hq,hb⟩,if_neg h]
  ·rw [if_pos ⟨hq,hb⟩,if_pos h]
  ·rw [if_neg (by simp -implicitDefEqProofs [hb]),if_neg h]
  ·rw [if_neg (by simp -implicitDefEqProofs [hb]),if_pos h]
 ·rw [List.take_of_length_le hge];have gl:=a7 r.heads.length;rw [List.take_length] at gl;rw [b3];refine ⟨fun h=>?_,fun h=>⟨by omega,?_⟩⟩
  ·unfold cS; rw [if_pos h]; exact ⟨rfl,rfl⟩
  ·unfold cS; rw [if_neg (by simp -implicitDefEqProofs [h])]; exact ⟨rfl,rfl⟩
def da (r:RepoD) (n:Str) (c:CommitD):RepoD:=⟨r.commits++[c],cS r.heads n r.commits.length⟩
def lM:Con:=.fn 24 (RepoD × Str × CommitD) (fun a=>[bh a.1,.str a.2.1,.agg [.sl true 1 (aj a.2.2.parents),.str a.2.2.who,.sl true 2 (ac a.2.2.tree)]]) (fun a=>a.1.commits.length<=1048576/\a.1.heads.length<=1048576) (fun a=>.agg [.sl false 3 (az (da a.1 a.2.1 a.2.2).commits),.sl false 2 (ai (da a.1 a.2.1 a.2.2).heads)]) (fun _=>[])
theorem tY:Has Tryz.prog 115 lM:=by
 refine ah mixed ap (HasL.cons tZ HasL.nil) [0,1,2,3,5,6,7] ((fun a n (_:Nat)=>(fun _=>aw) a n)) [4109] Tryz.func115 (by unfold Tryz.f115; rfl) (fun _=>⟨(),trivial⟩) ?_
 intro a ha;obtain ⟨r,n,c⟩:=a;obtain ⟨h1,h2⟩:r.commits.length<=1048576/\r.heads.length<=1048576:=ha;simp -implicitDefEqProofs [lM,lN,Con.fn,ag,bu]
 try dsimp only
 exact ⟨by omega,by omega,fun _=>⟨⟨r.commits++[c],r.heads⟩,n,r.commits.length,⟨⟨by simp -implicitDefEqProofs [az,ba],rfl⟩,rfl,rfl⟩,h2,rfl,rfl⟩⟩
def dR (r:RepoD) (n:Str) (a:Int):RepoD × Bool:=if ar r then (if 0<=atL r.heads n \/ ar ⟨r.commits,cS r.heads n a⟩=false then (r,false) else (⟨r.commits,cS r.heads n a⟩,true)) else (⟨[],[]⟩,false)
def rP:Con:=.fn 30 (RepoD × Str × Int) (fun a=>[bh a.1,.str a.2.1,.int .i64 a.2.2]) (fun a=>cE a.1) (fun a=>.tup [.agg [.sl false 3 (az (dR a.1 a.2.1 a.2.2).1.commits),.sl false 2 (ai (dR a.1 a.2.1 a.2.2).1.heads)],.bool (dR a.1 a.2.1 a.2.2).2]) (fun _=>[])
theorem Je:Has Tryz.prog 126 rP:=by
 refine ah mixed ap (HasL.cons iB (HasL.cons j2 (HasL.cons tZ (HasL.cons gr HasL.nil)))) [0,1,2,3,6,7,8] ((fun a n (_:Nat)=>(fun _=>aw) a n)) [] Tryz.func126 (by unfold Tryz.f126; rfl) (fun _=>⟨(),trivial⟩) ?_
 intro a ha;obtain ⟨r,n,at_⟩:=a;replace ha:cE r:=ha;have ha2:=ha;obtain ⟨h1,h2,h3⟩:r.commits.length<=1048576/\(∀ c ∈ r.commits,kI c)/\r.heads.length<=1048576:=ha2;simp -implicitDefEqProofs [rP,gh,iv,lN,eM,Con.fn,ag,bu]
 try dsimp only
 have e0:ar r=false->dR r n at_=(⟨[],[]⟩,false):=fun h=>by unfold dR; rw [if_neg (by simp -implicitDefEqProofs [h])]
 have e1:ar r=true->(0<=atL r.heads n \/ ar ⟨r.commits,cS r.heads n at_⟩=false)->dR r n at_=(r,false):=fun h h2=>by unfold dR; rw [if_pos h,if_pos h2]
 have e2:ar r=true -> ¬ (0<=atL r.heads n \/ ar ⟨r.commits,cS r.heads n at_⟩=false)->dR r n at_=(⟨r.commits,cS r.heads n at_⟩,true):=fun h h2=>by unfold dR; rw [if_pos h,if_neg h2]
 refine ⟨by omega,fun h=>by rw [e0 h]; exact ⟨⟨rfl,rfl⟩,rfl⟩,fun h=>⟨ha,r,n,at_,⟨⟨rfl,rfl⟩,rfl,rfl⟩,h3,r,n,⟨⟨rfl,rfl⟩,rfl⟩,fun hq=>⟨ha,by rw [e1 h (.inl hq)]; exact ⟨⟨rfl,rfl⟩,rfl⟩⟩,fun hq=>⟨by omega,fun ho=>⟨ha,by rw [e1 h (.inr ho)]; exact ⟨⟨rfl,rfl⟩,rfl⟩⟩,fun ho=>?_⟩⟩⟩
 rw [e2 h (by rintro (q | q); omega; rw [ho] at q; cases q)]; exact ⟨⟨rfl,rfl⟩,rfl⟩
def iy (r:RepoD) (n who:Str) (t:List FileD):CommitD:=⟨if 0<=atL r.heads n then [atL r.heads n] else [],who,t⟩
def eB (r:RepoD) (n who:Str) (t:List FileD):RepoD × Bool:=if ar r then (if ar (da r n (iy r n who t)) then (da r n (iy r n who t),true) else (r,false)) else (⟨[],[]⟩,false)
def rQ:Con:=.fn 40 (RepoD × Str × Str × List FileD) (fun a=>[bh a.1,.str a.2.1,.str a.2.2.1,.sl true 2 (ac a.2.2.2)]) (fun a=>cE a.1/\a.2.2.2.length<=1048576 /\ ∀ f ∈ a.2.2.2,f.text.length<=1048576) (fun a=>.tup [.agg [.sl false 3 (az (eB a.1 a.2.1 a.2.2.1 a.2.2.2).1.commits),.sl false 2 (ai (eB a.1 a.2.1 a.2.2.1 a.2.2.2).1.heads)],.bool (eB a.1 a.2.1 a.2.2.1 a.2.2.2).2]) (fun _=>[])
theorem Jg:Has Tryz.prog 182 rQ:=by
 refine ah mixed ap (HasL.cons iB (HasL.cons kU (HasL.cons gr (HasL.cons j2 (HasL.cons tY HasL.nil))))) [0,1,2,3,4,8,9,10,11] ((fun a n (_:Nat)=>(fun _=>aw) a n)) [] Tryz.func182 (by unfold Tryz.f182; rfl) (fun _=>⟨(),trivial⟩) ?_
 intro a ha;obtain ⟨r,n,who,t⟩:=a;obtain ⟨ha,h4,h5⟩:cE r/\t.length<=1048576 /\ ∀ f ∈ t,f.text.length<=1048576:=ha;have ha2:=ha;obtain ⟨h1,h2,h3⟩:r.commits.length<=1048576/\(∀ c ∈ r.commits,kI c)/\r.heads.length<=1048576:=ha2;simp -implicitDefEqProofs [rQ,gh,iv,lM,eM,iS,Con.fn,ag,bu]
 try dsimp only
 have e0:ar r=false->eB r n who t=(⟨[],[]⟩,false):=fun h=>by unfold eB; rw [if_neg (by simp -implicitDefEqProofs [h])]
 have e1:ar r=true->ar (da r n (iy r n who t))=false->eB r n who t=(r,false):=fun h h2=>by unfold eB; rw [if_pos h,if_neg (by simp -implicitDefEqProofs [h2])]
 have e2:ar r=true->ar (da r n (iy r n who t))=true->eB r n who t=(da r n (iy r n who t),true):=fun h h2=>by unfold eB; rw [if_pos h,if_pos h2]
 have hl:∀ c,(da r n c).commits.length<=1073741824:=fun c=>by simp -implicitDefEqProofs [da]; omega
 refine ⟨by omega,fun h=>by rw [e0 h]; exact ⟨⟨rfl,rfl⟩,rfl⟩,fun h=>⟨⟨h4,h5⟩,r,n,⟨⟨rfl,rfl⟩,rfl⟩,fun hq=>?_,fun hq=>?_⟩⟩
 ·have hc:iy r n who t=⟨[atL r.heads n],who,t⟩:=by unfold iy; rw [if_pos hq]
  rw [hc] at e1 e2;refine ⟨r,n,⟨⟨rfl,rfl⟩,rfl⟩,ha,r,n,⟨[atL r.heads n],who,t⟩,⟨⟨rfl,rfl⟩,rfl,rfl,rfl,rfl⟩,⟨h1,h3⟩,hl _,fun ho=>⟨ha,by rw [e1 h ho]; exact ⟨⟨rfl,rfl⟩,rfl⟩⟩,fun ho=>by rw [e2 h ho]; exact ⟨⟨rfl,rfl⟩,rfl⟩⟩
 ·have hc:iy r n who t=⟨[],who,t⟩:=by unfold iy; rw [if_neg (by omega)]
  rw [hc] at e1 e2;refine ⟨ha,r,n,⟨[],who,t⟩,⟨⟨rfl,rfl⟩,rfl,rfl,rfl,rfl⟩,⟨h1,h3⟩,hl _,fun ho=>⟨ha,by rw [e1 h ho]; exact ⟨⟨rfl,rfl⟩,rfl⟩⟩,fun ho=>by rw [e2 h ho]; exact ⟨⟨rfl,rfl⟩,rfl⟩⟩
def jy (t:List FileD) (p:Str):List FileD × Bool:=if aH t then (bD (bv p) t,decide ((bD (bv p) t).length < t.length)) else ([],false)
def sg:Con:=.fn 20 (List FileD × Str) (fun a=>[.sl true 2 (ac a.1),.str a.2]) (fun a=>a.1.length<=1048576 /\ ∀ f ∈ a.1,f.text.length<=1048576) (fun a=>.tup [.sl false 2 (ac (jy a.1 a.2).1),.bool (jy a.1 a.2).2]) (fun _=>[])
theorem KY:Has Tryz.prog 124 sg:=by
 refine ah mixed ap (HasL.cons md (HasL.cons kU (HasL.cons x0 HasL.nil))) [0,1,4,5,6] ((fun a n (_:Nat)=>(fun _=>aw) a n)) [] Tryz.func124 (by unfold Tryz.f124; rfl) (fun _=>⟨(),trivial⟩) ?_
 intro a ha;obtain ⟨t,p⟩:=a;obtain ⟨h1,h2⟩:t.length<=1048576 /\ ∀ f ∈ t,f.text.length<=1048576:=ha;simp -implicitDefEqProofs [sg,jN,iS,nD,Con.fn,ag]
 try dsimp only
 refine ⟨fun h=>by unfold jy; rw [if_neg (by simp -implicitDefEqProofs [h])]; exact ⟨rfl,rfl⟩,fun h=>⟨⟨h1,h2⟩,t,p,⟨rfl,rfl⟩,h1,fun _ _=>by unfold jy; rw [if_pos h]; exact ⟨rfl,rfl⟩⟩⟩
def oS (p:Str) (f:FileD):Bool:=decide (f.path=p) || inB p f.path
def jb (p to:Str) (o:List FileD) (f:FileD):List FileD:=if oS p f then ic o ⟨to++f.path.drop p.length,f.text⟩ else o
def dC (p to:Str) (o:List FileD) (t:List FileD):List FileD:=t.foldl (jb p to) o
theorem G4 {p to:Str} {o t:List FileD} {i:Nat} (h:i < t.length):dC p to o (t.take (i+1))=jb p to (dC p to o (t.take i)) t[i]:=by
 unfold dC;rw [bM h,List.foldl_append]; rfl
theorem G3 (p to:Str) (o t:List FileD):(dC p to o t).length<=o.length+t.length:=by
 unfold dC
 induction t generalizing o with
 | nil=>simp
 | cons f t ih =>
  have h1:=ih (jb p to o f);have h2:(jb p to o f).length<=o.length+1:=by
   unfold jb;split
   ·exact JR _ _
   ·omega
  simp only [List.foldl_cons,List.length_cons];omega
theorem Es {p q:Str} (h:inB p q=true):p.length < q.length:=by
 unfold inB at h;simp only [Bool.and_eq_true,decide_eq_true_eq] at h;omega
def eH (t:List FileD) (p to:Str):List FileD × Bool :=
 if aH t then
  (if (bD (bv p) t).length=t.length \/ bI to=false then (t,false)
  else if aH (dC p to (bD (bv p) t) t)=false \/ ¬ (dC p to (bD (bv p) t) t).length=t.length then (t,false)
  else (dC p to (bD (bv p) t) t,true))
 else ([],false)
def mvO (t:List FileD) (p to:Str):Inv:=⟨Nat,fun i=>⟨[(0,true,.sl true 2 (ac t)),(1,true,.str p),(2,true,.str to),(6,true,.nil),(7,true,.bool false),(8,true,.sl false 2 (ac (dC p to (bD (bv p) t) (t.take i)))),(9,true,.int .i64 t.length),(10,true,.int .i64 i)],[]⟩,fun i=>i<=t.length/\aH t=true,fun i=>t.length - i⟩
def si:Con:=.fn 84 (List FileD × Str × Str) (fun a=>[.sl true 2 (ac a.1),.str a.2.1,.str a.2.2]) (fun a=>a.1.length<=1048576/\(∀ f ∈ a.1,f.text.length<=1048576)/\a.2.2.length<=1048576 /\ ∀ f ∈ a.1,f.path.length<=1048576) (fun a=>.tup [.sl false 2 (ac (eH a.1 a.2.1 a.2.2).1),.bool (eH a.1 a.2.1 a.2.2).2]) (fun _=>[])
theorem K0:Has Tryz.prog 125 si:=by
 refine ah mixed ap (HasL.cons md (HasL.cons kU (HasL.cons x0 (HasL.cons me (HasL.cons oJ (HasL.cons x4 HasL.nil)))))) [0,1,2,6,7,8,9,10] ((fun a n (_:Nat)=>(fun a _=>mvO a.1 a.2.1 a.2.2) a n)) [] Tryz.func125 (by unfold Tryz.f125; rfl) (fun _=>⟨(),trivial⟩) ?_
 intro a ha;obtain ⟨t,p,to⟩:=a;obtain ⟨h1,h2,h3,h4⟩:t.length<=1048576/\(∀ f ∈ t,f.text.length<=1048576)/\to.length<=1048576 /\ ∀ f ∈ t,f.path.length<=1048576:=ha;simp -implicitDefEqProofs [si,jN,iS,nD,jO,kE,nE,Con.fn,ag,mvO]
 try dsimp only
 have e0:aH t=false->eH t p to=([],false):=fun h=>by unfold eH; rw [if_neg (by simp -implicitDefEqProofs [h])]
 have e1:aH t=true->((bD (bv p) t).length=t.length \/ bI to=false)->eH t p to=(t,false):=fun h q=>by unfold eH; rw [if_pos h,if_pos q]
 have e2:aH t=true -> ¬ ((bD (bv p) t).length=t.length \/ bI to=false)->(aH (dC p to (bD (bv p) t) t)=false \/ ¬ (dC p to (bD (bv p) t) t).length=t.length)->eH t p to=(t,false):=fun h q w=>by unfold eH; rw [if_pos h,if_neg q,if_pos w]
 have e3:aH t=true -> ¬ ((bD (bv p) t).length=t.length \/ bI to=false) -> ¬ (aH (dC p to (bD (bv p) t) t)=false \/ ¬ (dC p to (bD (bv p) t) t).length=t.length)->eH t p to=(dC p to (bD (bv p) t) t,true):=fun h q w=>by unfold eH; rw [if_pos h,if_neg q,if_neg w]
 refine ⟨fun h=>by rw [e0 h]; exact ⟨rfl,rfl⟩,fun h=>⟨⟨h1,h2⟩,t,p,⟨rfl,rfl⟩,h1,fun _ _=>⟨fun q=>⟨⟨h1,h2⟩,by rw [e1 h (.inl (by omega))]; exact ⟨rfl,rfl⟩⟩,fun q=>⟨fun w=>⟨⟨h1,h2⟩,by rw [e1 h (.inr w)]; exact ⟨rfl,rfl⟩⟩,fun w _=>⟨⟨0,⟨by simp -implicitDefEqProofs [dC],rfl⟩,Nat.zero_le _,h⟩,fun i hi _ _=>⟨fun hlt=>?_,fun hge=>?_⟩⟩⟩⟩⟩⟩
 ·have g:=G4 (p:=p) (to:=to) (o:=bD (bv p) t) hlt;have h8:=(ly t h).1;have gl:=G3 p to (bD (bv p) t) (t.take i);have gf:=List.length_filter_le (bv p) t;have gf:(bD (bv p) t).length<=t.length:=gf;have gt:(t.take i).length<=t.length:=by simp; omega
  have gp:=h4 _ (List.getElem_mem hlt);have gx:=h2 _ (List.getElem_mem hlt);have gi:=@Es p t[i].path;clear e0 e1 e2 e3;generalize dC p to (bD (bv p) t) (t.take i)=X at g gl ⊢;simp -implicitDefEqProofs [hlt,an,D.asStr,D.asRows,and_assoc];have gtk:List.take (List.length t[i].path - List.length p) (List.drop (List.length p) t[i].path)=t[i].path.drop p.length:=List.take_of_length_le (by simp)
  rw [gtk];have hm:maxLen=9223372036854775807:=rfl;refine ⟨fun e=>⟨by rw [e]; omega,fun _=>⟨by omega,fun _=>⟨by omega,gx,by omega,by omega,fun _ _=>⟨i+1,?_,by omega,by omega,h,by omega⟩⟩⟩⟩,
   fun e=>⟨fun c=>⟨by have:=gi c; omega,fun _=>⟨by omega,fun _=>⟨by omega,gx,by omega,by omega,fun _ _=>⟨i+1,?_,by omega,by omega,h,by omega⟩⟩⟩⟩,fun c=>⟨by omega,by omega,fun _ _=>⟨i+1,?_,by omega,by omega,h,by omega⟩⟩⟩⟩
  ·rw [g]; unfold jb; rw [if_pos (by simp -implicitDefEqProofs [oS,e])]
  ·rw [g]; unfold jb; rw [if_pos (by simp -implicitDefEqProofs [oS,c])]
  ·rw [g]; unfold jb; rw [if_neg (by simp -implicitDefEqProofs [oS,c,e])]
 ·rw [List.take_of_length_le hge];have hn:¬ ((bD (bv p) t).length=t.length \/ bI to=false):=by rintro (c | c); omega; rw [w] at c; cases c
  have e2:=e2 h hn;have e3:=e3 h hn;generalize dC p to (bD (bv p) t) t=X at e2 e3 ⊢;refine ⟨fun c=>⟨⟨h1,h2⟩,by rw [e2 (.inl c)]; exact ⟨rfl,rfl⟩⟩,fun c _=>⟨fun d=>⟨⟨h1,h2⟩,by rw [e2 (.inr (by omega))]; exact ⟨rfl,rfl⟩⟩,fun d=>?_⟩⟩
  rw [e3 (by rintro (k | k); rw [c] at k; cases k; omega)]; exact ⟨rfl,rfl⟩
theorem uf {a b c:Str} (h:Go.Op.bytesLess a b=true) (h':Go.Op.bytesLess b c=true):Go.Op.bytesLess a c=true:=by
 rw [gv,decide_eq_true_eq] at *;exact List.lt_trans h h'
theorem oQ (a:Str):Go.Op.bytesLess a a=false:=by
 rw [gv,decide_eq_false_iff_not];exact List.lt_irrefl a
theorem K9 {t:List FileD} (h:aC t=true):∀ j i,(hij:i < j)->(hj:j < t.length)->Go.Op.bytesLess (t[i]'(by omega)).path t[j].path=true:=by
 have hs:∀ j,(h0:0 < j)->(hj:j < t.length)->Go.Op.bytesLess (t[j - 1]'(by omega)).path t[j].path=true:=by
  intro j h0 hj;simp only [aC,Bool.and_eq_true,List.all_eq_true,List.mem_range] at h;have h2:=(h.2 j hj).1;simp only [dB,Bool.and_eq_true,Bool.or_eq_true,decide_eq_true_eq] at h2;rcases h2.2 with h3 | h3
  ·omega
  ·simpa [List.getD_eq_getElem?_getD,hj,(show j - 1 < t.length by omega)] using h3
 intro j
 induction j with
 | zero=>intro i hi; omega
 | succ j ih =>
  intro i hi hj;have h1:=hs (j+1) (by omega) hj
  by_cases e:i=j
  ·subst e; exact h1
  ·exact uf (ih i (by omega) (by omega)) h1
def pathIn (l:List Str) (p:Str):Bool:=decide (p ∈ l)
def aS:List Str->Str->List Str
 | [],s=>[s]
 | x :: l,s=>if Go.Op.bytesLess x s then x :: aS l s else if x=s then x :: l else s :: x :: l
theorem pc (l:List Str) (s:Str):(aS l s).length<=l.length+1:=by
 induction l with
 | nil=>simp -implicitDefEqProofs [aS]
 | cons x l ih =>
  unfold aS;split
  ·simp; omega
  ·split <;> simp
theorem I0 {l:List Str} {s:Str} {k:Nat} (h:k < l.length) (hp:l.take k++aS (l.drop k) s=aS l s) (hl:Go.Op.bytesLess l[k] s=true):l.take (k+1)++aS (l.drop (k+1)) s=aS l s:=by
 rw [List.drop_eq_getElem_cons h,aS,if_pos hl] at hp;rw [bM h,List.append_assoc];exact hp
theorem IX {l:List Str} {s:Str} {k:Nat} (h:l.length<=k) (hp:l.take k++aS (l.drop k) s=aS l s):aS l s=l.take k++[s]++l.drop k:=by
 rw [List.drop_eq_nil_of_le h] at hp ⊢;rw [<- hp]; simp -implicitDefEqProofs [aS]
theorem IY {l:List Str} {s:Str} {k:Nat} (h:k < l.length) (hp:l.take k++aS (l.drop k) s=aS l s) (hl:Go.Op.bytesLess l[k] s=false) (he:l[k]=s):aS l s=l:=by
 rw [List.drop_eq_getElem_cons h,aS,if_neg (by simp -implicitDefEqProofs [hl]),if_pos he,<- List.drop_eq_getElem_cons h,List.take_append_drop] at hp
 exact hp.symm
theorem IZ {l:List Str} {s:Str} {k:Nat} (h:k < l.length) (hp:l.take k++aS (l.drop k) s=aS l s) (hl:Go.Op.bytesLess l[k] s=false) (he:¬ l[k]=s):aS l s=l.take k++[s]++l.drop k:=by
 rw [List.drop_eq_getElem_cons h,aS,if_neg (by simp -implicitDefEqProofs [hl]),if_neg he,<- List.drop_eq_getElem_cons h] at hp
 rw [<- hp]; simp
def bG (l:List Str) (t:List FileD):List Str:=t.foldl (fun l f=>aS l f.path) l
theorem uK {l:List Str} {t:List FileD} {i:Nat} (h:i < t.length):bG l (t.take (i+1))=aS (bG l (t.take i)) t[i].path:=by
 unfold bG;rw [bM h,List.foldl_append]; rfl
theorem jp (t:List FileD):∀ l,(bG l t).length<=l.length+t.length:=by
 induction t with
 | nil=>intro l; simp -implicitDefEqProofs [bG]
 | cons f t ih =>
  intro l;have h1:=ih (aS l f.path);have h2:=pc l f.path
  show (bG (aS l f.path) t).length<=_
  simp only [List.length_cons];omega
def aP (o a b:List FileD):List Str:=bG (bG (bG [] o) a) b
theorem zv (o a b:List FileD):(aP o a b).length<=o.length+a.length+b.length:=by
 have h1:=jp b (bG (bG [] o) a);have h2:=jp a (bG [] o);have h3:=jp o [];simp at h3
 show (bG (bG (bG [] o) a) b).length<=_
 omega
def cJ (a b:List Str × Bool):Bool:=decide (a.2=b.2) && (!a.2 || decide (a.1=b.1))
def bF (o a b:List FileD) (p:Str):List Str × Bool × Int :=
 if cJ (am a p) (am o p) || cJ (am a p) (am b p) then ((am b p).1,(am b p).2,0)
 else if cJ (am b p) (am o p) then ((am a p).1,(am a p).2,0)
 else if !(am a p).2 || !(am b p).2 then ((am o p).1,(am o p).2,1)
 else if !(am o p).2 then ([],false,2)
 else if (cN (of3 (am o p).1 (am a p).1 (am b p).1)).2 then ((cN (of3 (am o p).1 (am a p).1 (am b p).1)).1,true,0)
 else ((am o p).1,true,3)
theorem kM {t:List FileD} {n:Nat} (h:∀ f ∈ t,f.text.length<=n) (p:Str):(am t p).1.length<=n:=by
 induction t with
 | nil=>simp -implicitDefEqProofs [am]
 | cons f t ih =>
  unfold am;split
  ·exact h f (by simp)
  ·exact ih fun g hg=>h g (by simp -implicitDefEqProofs [hg])
theorem kg {t:List Str} (h:aD t=true):t.length<=10:=by
 unfold aD at h;simp only [Bool.and_eq_true,decide_eq_true_eq] at h;exact h.1
theorem KP (l:List PartD):(cN l).1.length<=10:=by
 unfold cN;split
 ·simp
 ·split
  ·rename_i h; exact kg h
  ·simp
theorem yQ {o a b:List FileD} {p:Str} {n:Nat} (hn:10<=n) (ho:∀ f ∈ o,f.text.length<=n) (ha:∀ f ∈ a,f.text.length<=n) (hb:∀ f ∈ b,f.text.length<=n):(bF o a b p).1.length<=n:=by
 have h1:=kM ho p;have h2:=kM ha p;have h3:=kM hb p;have h4:=KP (of3 (am o p).1 (am a p).1 (am b p).1);unfold bF;split
 ·exact h3
 ·split
  ·exact h2
  ·split
   ·exact h1
   ·split
    ·simp
    ·split
     ·show (cN _).1.length<=n; omega
     ·exact h1
def stepJ (o a b:List FileD) (s:List FileD × List HeadD) (p:Str):List FileD × List HeadD :=
 (if (bF o a b p).2.1 then s.1++[⟨p,(bF o a b p).1⟩] else s.1,if 0 < (bF o a b p).2.2 then s.2++[⟨p,(bF o a b p).2.2⟩] else s.2)
def c8 (o a b:List FileD) (l:List Str):List FileD × List HeadD:=l.foldl (stepJ o a b) ([],[])
theorem zS {o a b:List FileD} {l:List Str} {i:Nat} (h:i < l.length):c8 o a b (l.take (i+1))=stepJ o a b (c8 o a b (l.take i)) l[i]:=by
 unfold c8;rw [bM h,List.foldl_append]; rfl
theorem zR (o a b:List FileD) (l:List Str):(c8 o a b l).1.length<=l.length/\(c8 o a b l).2.length<=l.length:=by
 have:∀ (l:List Str) (s:List FileD × List HeadD),(l.foldl (stepJ o a b) s).1.length<=s.1.length+l.length/\(l.foldl (stepJ o a b) s).2.length<=s.2.length+l.length:=by
  intro l
  induction l with
  | nil=>intro s; simp
  | cons p l ih =>
   intro s;obtain ⟨h1,h2⟩:=ih (stepJ o a b s p);have h3:(stepJ o a b s p).1.length<=s.1.length+1/\(stepJ o a b s p).2.length<=s.2.length+1:=by
    unfold stepJ;constructor
    ·show (if _ then _ else _:List FileD).length<=_
     split <;> simp
    ·show (if _ then _ else _:List HeadD).length<=_
     split <;> simp
   simp only [List.foldl_cons,List.length_cons];omega
 have:=this l ([],[])
 simpa [c8] using this
def of6 (o a b:List FileD):List FileD × List HeadD:=c8 o a b (aP o a b)
def bE (o a b:List FileD):List FileD × List HeadD:=if (of6 o a b).2=[]/\aH (of6 o a b).1=false then (o,[⟨[],4⟩]) else of6 o a b
theorem EK {o a b:List FileD} (h:(bE o a b).2=[]):aH (bE o a b).1=true:=by
 unfold bE at h ⊢;split
 ·rename_i h2; rw [if_pos h2] at h; simp at h
 ·rename_i h2;rw [if_neg h2] at h;cases hq:aH (of6 o a b).1 with
  | true=>rfl
  | false=>exact absurd ⟨h,hq⟩ h2
def b9 (r:RepoD) (a b:Int) (i:Nat):List Int:=((al (anc r a)).take i).filter fun x=>decide (x ∈ al (anc r b))
def jK (r:RepoD) (l:List Int) (i k:Nat):Bool:=(List.range k).all fun j=>decide (j=i) || !decide (l.getD i 0 ∈ al (anc r (l.getD j 0)))
def dJ (r:RepoD) (l:List Int) (i:Nat):List Int:=((List.range i).filter fun j=>jK r l j l.length).map fun j=>l.getD j 0
def eK (r:RepoD) (a b:Int):List Int:=dJ r (b9 r a b (al (anc r a)).length) (b9 r a b (al (anc r a)).length).length
def cz (r:RepoD) (a b:Int):List FileD:=match (eK r a b).getLast? with
 | none=>[]
 | some c=>aG r c
def noR:RepoD:=⟨[],[]⟩
def dm (r:RepoD) (n w:Str) (b:Int):RepoD × Int :=
 if b ∈ al (anc r (atL r.heads n)) then (r,2)
 else if atL r.heads n ∈ al (anc r b) then (⟨r.commits,cS r.heads n b⟩,3)
 else if (bE (cz r (atL r.heads n) b) (aG r (atL r.heads n)) (aG r b)).2=[] then
  (if ar (da r n ⟨[atL r.heads n,b],w,(bE (cz r (atL r.heads n) b) (aG r (atL r.heads n)) (aG r b)).1⟩) then
   (da r n ⟨[atL r.heads n,b],w,(bE (cz r (atL r.heads n) b) (aG r (atL r.heads n)) (aG r b)).1⟩,0) else (r,5))
 else (r,4)
def bC (r:RepoD) (n w:Str) (b:Int):RepoD × Int :=
 if ar r then (if atL r.heads n < 0 \/ aM w=false \/ ¬ (0<=b/\b < r.commits.length) then (r,1) else dm r n w b) else (noR,1)
def iq (r:RepoD) (c:Int):List FileD:=match (r.commits.getD c.toNat default).parents with
 | []=>[]
 | p :: _=>aG r p
def eA (r:RepoD) (n w:Str) (o b:List FileD):RepoD × Int :=
 if (bE o (aG r (atL r.heads n)) b).2=[] then
  (if ar (da r n ⟨[atL r.heads n],w,(bE o (aG r (atL r.heads n)) b).1⟩) then (da r n ⟨[atL r.heads n],w,(bE o (aG r (atL r.heads n)) b).1⟩,0) else (r,5))
 else (r,4)
def cI (back:Bool) (r:RepoD) (n w:Str) (c:Int):RepoD × Int :=
 if ar r then (if atL r.heads n < 0 \/ aM w=false \/ ¬ (0<=c/\c < r.commits.length) then (r,1)
  else if back then eA r n w (aG r c) (iq r c) else eA r n w (iq r c) (aG r c)) else (noR,1)
theorem od:∀ {l:List HeadD},(∀ i,0 < i->i < l.length->Go.Op.bytesLess (l.getD (i - 1) default).name (l.getD i default).name=true)->l.Pairwise fun a b=>Go.Op.bytesLess a.name b.name=true
 | [],_=>.nil
 | [x],_=>by simp
 | x :: y :: t,h=>by
  have ih:=od (l:=y :: t) fun i h1 h2=>by
   have:=h (i+1) (by omega) (by simp only [List.length_cons] at h2 ⊢; omega)
   rw [show i+1 - 1=(i - 1)+1 by omega,List.getD_cons_succ,List.getD_cons_succ] at this
   exact this
  have hxy:=h 1 (by omega) (by simp)
  have hxy:Go.Op.bytesLess x.name y.name=true:=by simpa using hxy
  refine List.pairwise_cons.2 ⟨fun z hz=>?_,ih⟩;rcases List.mem_cons.1 hz with rfl | hz
  ·exact hxy
  ·exact uf hxy ((List.pairwise_cons.1 ih).1 z hz)
theorem oc (n:Str) (a:Int):∀ (l X:List HeadD),l.foldl (ct n a) (X,true)=(X++l.filter (fun g=>decide (g.name ≠ n)),true)
 | [],X=>by simp
 | g :: l,X=>by
  rw [List.foldl_cons];by_cases h:g.name=n
  ·have e:ct n a (X,true) g=(X,true):=by unfold ct; simp -implicitDefEqProofs [h]
   rw [e,oc n a l X]; simp -implicitDefEqProofs [h]
  ·have e:ct n a (X,true) g=(X++[g],true):=by unfold ct; simp -implicitDefEqProofs [h]
   rw [e,oc n a l (X++[g])]; simp -implicitDefEqProofs [h]
def hAt (n:Str) (a:Int) (h:HeadD):HeadD:=if h.name=n then ⟨n,a⟩ else h
theorem xv (n:Str) (a:Int):∀ (l X:List HeadD),(l.Pairwise fun a b=>Go.Op.bytesLess a.name b.name=true)->(∃ h ∈ l,h.name=n)->l.foldl (ct n a) (X,false)=(X++l.map (hAt n a),true)
 | [],X,_,h=>by obtain ⟨_,h,_⟩:=h; simp at h
 | g :: l,X,hp,hn=>by
  obtain ⟨hp1,hp2⟩:=List.pairwise_cons.1 hp;rw [List.foldl_cons];by_cases h:g.name=n
  ·have e:ct n a (X,false) g=(X++[⟨n,a⟩],true):=by unfold ct; simp -implicitDefEqProofs [h,oQ]
   have hne:∀ z ∈ l,¬ z.name=n:=fun z hz hc=>by
    have:=hp1 z hz;rw [h,hc,oQ] at this;cases this
   have e2:l.filter (fun g=>decide (g.name ≠ n))=l:=by rw [List.filter_eq_self]; intro z hz; simp -implicitDefEqProofs [hne z hz]
   have e3:l.map (hAt n a)=l:=by
    have:l.map (hAt n a)=l.map id:=List.map_congr_left fun z hz=>by simp -implicitDefEqProofs [hAt,hne z hz]
    rw [this]; simp
   rw [e,oc,e2]; simp -implicitDefEqProofs [e3,hAt,h]
  ·obtain ⟨z,hz,hzn⟩:=hn;have hz:z ∈ l:=by
    rcases List.mem_cons.1 hz with rfl | hz
    ·exact absurd hzn h
    ·exact hz
   have hl:Go.Op.bytesLess g.name n=true:=by rw [<- hzn]; exact hp1 z hz
   have e:ct n a (X,false) g=(X++[g],false):=by unfold ct; simp -implicitDefEqProofs [h,hl]
   rw [e,xv n a l (X++[g]) hp2 ⟨z,hz,hzn⟩]; simp -implicitDefEqProofs [hAt,h]
theorem xw {l:List HeadD} {n:Str} {a:Int} (hl:∀ i,0 < i->i < l.length->Go.Op.bytesLess (l.getD (i - 1) default).name (l.getD i default).name=true) (hn:∃ h ∈ l,h.name=n) :
  cS l n a=l.map (hAt n a):=by
 unfold cS hL;rw [xv n a l [] (od hl) hn];simp
theorem Bk {l:List HeadD} {n:Str} (h:0<=atL l n):∃ h ∈ l,h.name=n:=by
 induction l with
 | nil=>simp -implicitDefEqProofs [atL] at h
 | cons g l ih =>
  unfold atL at h;split at h
  ·rename_i e; exact ⟨g,by simp,e⟩
  ·obtain ⟨x,h1,h2⟩:=ih h; exact ⟨x,by simp -implicitDefEqProofs [h1],h2⟩
theorem f8 {l:List HeadD} {n:Str} {k:Nat} (hl:dg k l=true):atL l n < k /\ -1<=atL l n \/ atL l n = -1:=by
 have h2:=((gq _ _).1 hl).2;have:∀ (l':List HeadD),(∀ h ∈ l',0<=h.at_/\h.at_ < k)->atL l' n < k /\ -1<=atL l' n \/ atL l' n = -1:=by
  intro l'
  induction l' with
  | nil=>intro _; right; rfl
  | cons g l' ih =>
   intro h;unfold atL;split
   ·left; have:=h g (by simp); omega
   ·exact ih fun x hx=>h x (by simp -implicitDefEqProofs [hx])
 refine this l fun h hh=>?_;obtain ⟨i,hi,rfl⟩:=List.getElem_of_mem hh;have:=h2 i hi;simp only [dQ,inN,List.getD_eq_getElem?_getD,List.getElem?_eq_getElem hi,Option.getD_some,Bool.and_eq_true,decide_eq_true_eq] at this;omega
theorem D9 {k:Nat} {l:List HeadD} {n:Str} {b:Int} (h:dg k l=true) (hn:0<=atL l n) (hb:0<=b/\b < k):dg k (cS l n b)=true:=by
 obtain ⟨h1,h2⟩:=(gq _ _).1 h;have hg:∀ i (hi:i < l.length),l.getD i default=l[i]:=fun i hi=>by simp -implicitDefEqProofs [List.getD_eq_getElem?_getD,hi]
 rw [xw (fun i h3 h4=>by
  have:=h2 i h4;unfold dQ at this;simp only [Bool.and_eq_true,Bool.or_eq_true,decide_eq_true_eq] at this;rcases this.2 with h5 | h5
  ·omega
  ·exact h5) (Bk hn),gq]
 have hm:∀ i (hi:i < l.length),(l.map (hAt n b)).getD i default=hAt n b l[i]:=fun i hi=>by simp -implicitDefEqProofs [List.getD_eq_getElem?_getD,hi]
 have hname:∀ g:HeadD,(hAt n b g).name=g.name:=fun g=>by unfold hAt; split <;> simp_all
 refine ⟨by simpa using h1,fun i hi=>?_⟩
 have hi:i < l.length:=by simpa using hi
 have h3:=h2 i hi;unfold dQ at h3 ⊢;rw [hm i hi,hname];rw [hg i hi] at h3;have hat:inN k (hAt n b l[i]).at_=true:=by
  simp only [Bool.and_eq_true] at h3;unfold hAt;split
  ·simp only [inN,Bool.and_eq_true,decide_eq_true_eq]; omega
  ·exact h3.1.2
 rw [hat];rcases Nat.eq_zero_or_pos i with h0 | h0
 ·subst h0;simp only [Bool.and_eq_true] at h3;simp -implicitDefEqProofs [h3.1.1]
 ·rw [hm (i - 1) (by omega),hname]
  rw [hg (i - 1) (by omega)] at h3
  simp only [Bool.and_eq_true] at h3 ⊢;exact ⟨⟨h3.1.1,trivial⟩,h3.2⟩
theorem Jl {r:RepoD} {n:Str} {b:Int} (h:ar r=true) (hn:0<=atL r.heads n) (hb:0<=b/\b < r.commits.length):ar ⟨r.commits,cS r.heads n b⟩=true:=by
 obtain ⟨h1,h2,h3⟩:=(c6 r).1 h;exact (c6 _).2 ⟨h1,D9 h2 hn hb,h3⟩
theorem l9 (l:List HeadD) (n:Str) (a:Int):cS l n a ≠ []:=by
 have:∀ (l:List HeadD) (s:List HeadD × Bool),(s.2=true->s.1 ≠ [])->((l.foldl (ct n a) s).2=true->(l.foldl (ct n a) s).1 ≠ []):=by
  intro l
  induction l with
  | nil=>intro s h; exact h
  | cons g l ih =>
   intro s h;refine ih (ct n a s g) ?_;unfold ct;split
   ·split <;> simp
   ·split
    ·exact h
    ·simp
 unfold cS;split
 ·rename_i h; exact this l ([],false) (by simp) h
 ·simp
theorem Lo {r:RepoD} {n w:Str} {b:Int} (h:ar r=true) (hn:0<=atL r.heads n) (hb:0<=b/\b < r.commits.length) (hh:r.commits ≠ []->r.heads ≠ []) :
  ar (dm r n w b).1=true/\((dm r n w b).1.commits ≠ []->(dm r n w b).1.heads ≠ []):=by
 unfold dm;split
 ·exact ⟨h,hh⟩
 ·split
  ·exact ⟨Jl h hn hb,fun _=>l9 _ _ _⟩
  ·split
   ·split
    ·rename_i q; exact ⟨q,fun _=>l9 _ _ _⟩
    ·exact ⟨h,hh⟩
   ·exact ⟨h,hh⟩
theorem Lr {r:RepoD} {n w:Str} {b:Int} (h:ar r=true) (hh:r.commits ≠ []->r.heads ≠ []) :
  ar (bC r n w b).1=true/\((bC r n w b).1.commits ≠ []->(bC r n w b).1.heads ≠ []):=by
 unfold bC;rw [if_pos h];split
 ·exact ⟨h,hh⟩
 ·rename_i q;exact Lo h (by omega) (by omega) hh
theorem zD {r:RepoD} {n w:Str} {o b:List FileD} (h:ar r=true) (hh:r.commits ≠ []->r.heads ≠ []) :
  ar (eA r n w o b).1=true/\((eA r n w o b).1.commits ≠ []->(eA r n w o b).1.heads ≠ []):=by
 unfold eA;split
 ·split
  ·rename_i q; exact ⟨q,fun _=>l9 _ _ _⟩
  ·exact ⟨h,hh⟩
 ·exact ⟨h,hh⟩
theorem zx {k:Bool} {r:RepoD} {n w:Str} {c:Int} (h:ar r=true) (hh:r.commits ≠ []->r.heads ≠ []) :
  ar (cI k r n w c).1=true/\((cI k r n w c).1.commits ≠ []->(cI k r n w c).1.heads ≠ []):=by
 unfold cI;rw [if_pos h];split
 ·exact ⟨h,hh⟩
 ·split
  ·exact zD h hh
  ·exact zD h hh
def rj:Con:=.fn 21 ((List Str × Bool) × (List Str × Bool)) (fun a=>[.sl true 1 (aa a.1.1),.bool a.1.2,.sl true 1 (aa a.2.1),.bool a.2.2]) (fun _=>True) (fun a=>.bool (cJ a.1 a.2)) (fun _=>[])
theorem Gl:Has Tryz.prog 264 rj:=by
 refine ah mixed ap (HasL.cons oF HasL.nil) [0,1,2,3,8] ((fun a n (_:Nat)=>(fun _=>aw) a n)) [] Tryz.func264 (by unfold Tryz.f264; rfl) (fun _=>⟨(),trivial⟩) ?_
 intro a _;obtain ⟨⟨x,i⟩,y,j⟩:=a;simp -implicitDefEqProofs [rj,kD,Con.fn,ag]
 try dsimp only
 cases i <;> cases j <;> simp -implicitDefEqProofs [cJ,and_assoc]
theorem Hn (o a b:List Str):(of3 o a b).length<=2 * (o.length+1) /\ ∀ q ∈ of3 o a b,q.lines.length<=o.length+a.length+b.length+3:=by
 obtain ⟨h1,h2,h3,h4,h5,h6,h7⟩:=mn o a b (o.length+1) (Nat.le_refl _);exact ⟨h6,fun q hq=>by have:=h7 q hq; omega⟩
def rh:Con:=.fn 82 (List FileD × List FileD × List FileD × Str) (fun a=>[.sl true 2 (ac a.1),.sl true 2 (ac a.2.1),.sl true 2 (ac a.2.2.1),.str a.2.2.2]) (fun a=>(∀ f ∈ a.1,f.text.length<=64)/\(∀ f ∈ a.2.1,f.text.length<=64) /\ ∀ f ∈ a.2.2.1,f.text.length<=64) (fun a=>.tup [.sl false 1 (aa (bF a.1 a.2.1 a.2.2.1 a.2.2.2).1),.bool (bF a.1 a.2.1 a.2.2.1 a.2.2.2).2.1,.int .i64 (bF a.1 a.2.1 a.2.2.1 a.2.2.2).2.2]) (fun _=>[])
theorem Gj:Has Tryz.prog 230 rh:=by
 refine ah mixed ap (HasL.cons tL (HasL.cons Gl (HasL.cons FY (HasL.cons F4 HasL.nil)))) [0,1,2,3,8,9,10,11,12,13,14,15,16,17,18,37] ((fun a n (_:Nat)=>(fun _=>aw) a n)) [] Tryz.func230 (by unfold Tryz.f230; rfl) (fun _=>⟨(),trivial⟩) ?_
 intro a ha;obtain ⟨o,a,b,p⟩:=a;obtain ⟨h1,h2,h3⟩:(∀ f ∈ o,f.text.length<=64)/\(∀ f ∈ a,f.text.length<=64) /\ ∀ f ∈ b,f.text.length<=64:=ha;have g1:=kM h1 p;have g2:=kM h2 p;have g3:=kM h3 p;simp (maxSteps:=8000000) -implicitDefEqProofs [-kStep_move,-Bool.exists_bool,rh,lK,rj,qV,qX,Con.fn,ag]
 try dsimp only
 have so:∀ x y:List Str × Bool,cJ (x.1,x.2) (y.1,y.2)=cJ x y:=fun _ _=>rfl;have ob:=Hn (am o p).1 (am a p).1 (am b p).1;generalize hO:am o p=O at *;generalize hA:am a p=A at *;generalize hB:am b p=B at *;have e1:(cJ A O=true \/ cJ A B=true)->bF o a b p=(B.1,B.2,0):=fun h=>by unfold bF; rw [hO,hA,hB]; rw [if_pos (by simpa using h)]
 have e2:cJ A O=false->cJ A B=false->cJ B O=true->bF o a b p=(A.1,A.2,0):=fun h h' h2=>by unfold bF; rw [hO,hA,hB]; rw [if_neg (by simp -implicitDefEqProofs [h,h']),if_pos h2]
 have e3:cJ A O=false->cJ A B=false->cJ B O=false->(A.2=false \/ B.2=false)->bF o a b p=(O.1,O.2,1):=fun h h' h2 h3=>by unfold bF; rw [hO,hA,hB]; rw [if_neg (by simp -implicitDefEqProofs [h,h']),if_neg (by simp -implicitDefEqProofs [h2]),if_pos (by simpa using h3)]
 have e4:cJ A O=false->cJ A B=false->cJ B O=false->A.2=true->B.2=true->O.2=false->bF o a b p=([],false,2):=fun h h' h2 h3 h4 h5=>by unfold bF; rw [hO,hA,hB]; rw [if_neg (by simp -implicitDefEqProofs [h,h']),if_neg (by simp -implicitDefEqProofs [h2]),if_neg (by simp -implicitDefEqProofs [h3,h4]),if_pos (by simp -implicitDefEqProofs [h5])]
 have e5:cJ A O=false->cJ A B=false->cJ B O=false->A.2=true->B.2=true->O.2=true->(cN (of3 O.1 A.1 B.1)).2=true->bF o a b p=((cN (of3 O.1 A.1 B.1)).1,true,0):=fun h h' h2 h3 h4 h5 h6=>by unfold bF; rw [hO,hA,hB]; rw [if_neg (by simp -implicitDefEqProofs [h,h']),if_neg (by simp -implicitDefEqProofs [h2]),if_neg (by simp -implicitDefEqProofs [h3,h4]),if_neg (by simp -implicitDefEqProofs [h5]),if_pos h6]
 have e6:cJ A O=false->cJ A B=false->cJ B O=false->A.2=true->B.2=true->O.2=true->(cN (of3 O.1 A.1 B.1)).2=false->bF o a b p=(O.1,true,3):=fun h h' h2 h3 h4 h5 h6=>by unfold bF; rw [hO,hA,hB]; rw [if_neg (by simp -implicitDefEqProofs [h,h']),if_neg (by simp -implicitDefEqProofs [h2]),if_neg (by simp -implicitDefEqProofs [h3,h4]),if_neg (by simp -implicitDefEqProofs [h5]),if_neg (by simp -implicitDefEqProofs [h6])]
 refine ⟨o,p,⟨rfl,rfl⟩,a,p,⟨rfl,rfl⟩,b,p,⟨rfl,rfl⟩,?_⟩;rw [hO,hA,hB];refine ⟨_,_,_,_,⟨rfl,rfl,rfl,rfl⟩,fun h=>⟨fun _=>?_,fun h'=>absurd (h.symm.trans h') (by decide)⟩,fun h=>⟨_,_,_,_,⟨rfl,rfl,rfl,rfl⟩,fun h2=>?_,fun h2=>⟨_,_,_,_,⟨rfl,rfl,rfl,rfl⟩,fun h3=>?_,fun h3=>⟨fun h4=>?_,fun h4 h5=>⟨fun h6=>?_,fun h6=>⟨_,_,_,⟨rfl,rfl,rfl⟩,⟨by omega,by omega,by omega⟩,⟨by omega,fun q hq=>by have:=ob.2 q hq; omega⟩,?_⟩⟩⟩⟩⟩⟩
 ·rw [e1 (.inl h)]; exact ⟨rfl,rfl,rfl⟩
 ·rw [e1 (.inr h2)]; exact ⟨rfl,rfl,rfl⟩
 ·rw [e2 h h2 h3]; exact ⟨rfl,rfl,rfl⟩
 ·rw [e3 h h2 h3 h4]; exact ⟨rfl,rfl,rfl⟩
 ·rw [e4 h h2 h3 h4 h5 h6]; exact ⟨rfl,rfl,rfl⟩
 ·exact ⟨fun h7=>by rw [e6 h h2 h3 h4 h5 h6 h7]; exact ⟨rfl,rfl,rfl⟩,fun h7=>by rw [e5 h h2 h3 h4 h5 h6 h7]; exact ⟨rfl,rfl,rfl⟩⟩
end Vx
end Go.Proofs.YthgfdbfmnbgkaaaGreatDoor
