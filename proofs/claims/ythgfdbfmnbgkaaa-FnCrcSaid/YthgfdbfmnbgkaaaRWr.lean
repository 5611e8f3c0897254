/-
  Joined by program (merge.py): Wr. It shows what the single texts show; conditions: none but those of each lemma.
-/
import Derived.Test.YthgfdbfmnbgkaaaWa
import Derived.Test.YthgfdbfmnbgkaaaRows
import Derived.ProofKit
import Derived.OpenShut
import Derived.ShutString
import Derived.Lay
import Derived.LaidMore
set_option linter.unusedVariables false
set_option linter.unusedSimpArgs false
set_option linter.unusedSectionVars false
/-
  FnCrc returns true for every input, and its arguments read as they did. Conditions: none.
-/
namespace Go.Proofs.Ythgfdbfmnbgkaaa
open Go.ChangeShapes Go.WideShapes Go.ChangeAt Go.RowKit
namespace Vx
theorem qD:ownKnob Try.prog.godebug=none:=by kernel_rfl
theorem laidOut:laidOutB Try.prog=true:=by kernel_rfl
theorem su:gB au=true:=by decide
theorem rV {T:Nat->Option TI} (hs:∀ te,T 5=some te->te.cells=[.int .u8]) {ds:List D} (h:Shp T [.sl 5 1] ds):∃ l,ds=[.sl 5 1 (aq l)]:=by
  cases h with
  | @sl e k te rows ks ds h1 h2 h3 =>
    cases h3;rw [hs _ h1] at h2;obtain ⟨l,rfl,_⟩:=rO (f:=be) (p:=fun _=>True) (rows:=rows) (fun r hr=>by
      have:=h2 r hr;cases this with
      | @int k n _ _ q1 q2 =>
        cases q2;have q3:IntKind.u8.min<=n/\n<=IntKind.u8.max:=by simpa only [Lit.wf,Bool.and_eq_true,decide_eq_true_eq] using q1
        have q4:IntKind.u8.min=0:=rfl;have q5:IntKind.u8.max=255:=rfl;rw [q4,q5] at q3;refine ⟨UInt8.ofNat n.toNat,?_,trivial⟩;have:(UInt8.ofNat n.toNat).toNat=n.toNat:=by rw [UInt8.toNat_ofNat']; omega
        simp only [be,this]
        congr 2
        omega)
    exact ⟨l,rfl⟩

section
variable {H:Type} {enc:TypeId × Value->H} {W:World} {sp:Nat->Bool} {held:Bool} {r:Reach} {base:Nat}
set_option maxRecDepth 100000 in
theorem ln {v:Value} {d:DataW H} {p:List MemPlace} (hu:Try.prog.underlying 22=some (.slice 5)) (hv:Value.okWide Try.prog W r base 22 v)
    (h:DataW.Trod enc Try.prog W 0 sp held 22 v d p):∃ l f,RdL false W [.sl 5 1 (aq l)] [v] f:=by
  obtain ⟨a,n,c,rfl⟩:=okWide_slice hu hv;obtain ⟨fuel,hf⟩:=h;obtain ⟨ds,f,h1,h2⟩:=rA aE su fuel (t:=22) rfl hf;obtain ⟨l,rfl⟩:=rV (fun te ht=>by cases ht; rfl) h2
  exact ⟨l,f,h1⟩
end

end Vx
end Go.Proofs.Ythgfdbfmnbgkaaa
namespace Go.Proofs.Ythgfdbfmnbgkaaa.fnCrc
open Go.ChangeShapes Go.WideShapes Go.ChangeAt Go.RowKit Vx
set_option linter.unusedVariables false

/-- How a slice of bytes lies. -/
theorem bytes_at {w:World} {l:List UInt8} {v:Value} {e:Nat} {f:List (Nat × Nat)} (h:RdL false w [.sl e 1 (aq l)] [v] f):∃ o c,v = .slice o l.length c/\l.length<=maxLen:=by
  rcases h.open1 with ⟨h1,_,oa,cap,rfl,_⟩ | ⟨b,off,cap,cs,ty,fr,cvs,f1,rfl,g2,g3,g4,_,g6,g8,g9,_⟩
  · have hl:l=[]:=by simpa [aq] using h1
    subst hl;exact ⟨oa,cap,rfl,Nat.zero_le _⟩
  · have e:(aq l).length=l.length:=by simp [aq]
    exact ⟨_,cap,by rw [<- e],by rw [<- e]; omega⟩
set_option maxHeartbeats 1000000 in
set_option maxRecDepth 100000 in
theorem lifted (os:Os) (started:os.Started) (H:Type) (enc:TypeId × Value->H) :
    ReturnsInHanded {} Try.checked os 3 .any (Rows.fnCrcSpec.pre6 enc Try.prog Try.f3 Rows.fnCrcRow.domain false) (Rows.fnCrcSpec.post enc Try.prog Try.f3 false true false false):=by
  refine returnsInHanded_of_change (C:=Try.checked) qD started (by kernel_rfl) Try.func3
    (ChangeSpec.witness6 (enc:=enc) (C:=Try.checked) false ⟨#[],#[.slice none 0 0,.slice none 0 0],[]⟩ 8 (by kernel_rfl) (by kernel_rfl) (by kernel_rfl) (by kernel_rfl)) ?_
  intro W base args ds gs before hval0 hW hcnd _;have hval:∀ (j:Nat) t v,Try.f3.params[j]? = some t->args[j]? = some v->Value.okWide Try.prog W .any base t v:=hval0;have hW':=hW;obtain ⟨p,q,hA0,hV,rfl,hfz,hnd⟩:=hW;have hA:DataW.TrodAll enc Try.prog W 0 (fun _=>true) true Try.f3.params.toList args.toList ds p:=hA0;rw [Try.params3] at hA hval;obtain ⟨v0,v1,d0,d1,p0,p1,rfl,rfl,rfl,h0,h1⟩:=trodAll_two hA;obtain ⟨rfl,rfl⟩:=trodVars_none hV;obtain ⟨l0,f0,r0⟩:=ln (by kernel_rfl) (hval 0 _ v0 rfl rfl) h0
  obtain ⟨l1,f1,r1⟩:=ln (by kernel_rfl) (hval 1 _ v1 rfl rfl) h1
  simp only [List.append_nil] at hW';have hlt0:∀ y ∈ p0,y.block < W.heap.size:=fun y hy=>by simpa using hW'.lt y (by simp [hy])
  have hlt1:∀ y ∈ p1,y.block < W.heap.size:=fun y hy=>by simpa using hW'.lt y (by simp [hy])
  obtain ⟨o0,c0,rfl,m0⟩:=bytes_at r0;obtain ⟨o1,c1,rfl,m1⟩:=bytes_at r1;refine (n8 (W:=W) (.sl r0 .nil) m0 m1).mono fun e W' ⟨he,hb⟩=>?_;subst he;exact ⟨_,rfl,_,_,_,[],_,[],hW',trodAll_mk1 (shut_bool (by kernel_rfl) _),trodAll_mk2 (Below.trod laidOut (by kernel_rfl) (of_decide_eq_true (by kernel_rfl)) h0 hb hlt0) (Below.trod laidOut (by kernel_rfl) (of_decide_eq_true (by kernel_rfl)) h1 hb hlt1),rfl,hb.frame _,fun h=>by cases h⟩

theorem proved:Rows.FnCrcSaid :=
  OpenClaim.holds_of_wide 3 Try.f3 rfl rfl rfl rfl rfl rfl rfl ⟨rfl,rfl,rfl,rfl,rfl⟩ rfl rfl rfl rfl rfl (by kernel_rfl) Try.func3 (by kernel_rfl)
    (of_decide_eq_true (by kernel_rfl)) (by unfold Func.isWrapper; first | (rw [if_pos (by decide +kernel)]; kernel_rfl) | (rw [if_neg (by decide +kernel)]; exact ⟨rfl,rfl⟩))
    (fun os started H enc _=>lifted os started H enc)

end Go.Proofs.Ythgfdbfmnbgkaaa.fnCrc
