/- Walks. -/
import Derived.KernelRfl
import Derived.Lib.Hide
import Derived.OrdersHeld
import Derived.StillTail
import Derived.Tactics
open Go.Lib (hid)
set_option linter.unusedVariables false
set_option linter.unusedSimpArgs false
namespace Go.Proofs.YtbimkhdiplnbfaaGreat
set_option maxRecDepth 1000000
set_option maxHeartbeats 16000000
section
open Go
section
variable {P:Program} {ops:Array Oper} {Q:Exit→Act→World→Prop} {md:Region.Mode} {A:World→Prop} {n:Nat}
def ClosedL (md:Region.Mode)(ops:Array Oper)(L:Array Bool):Prop:=
 L.size=ops.size∧ ∀j oj,ops[j]?=some oj→L.getD j false=true→ ∀e∈oj.after,Region.binds md e=true→L.getD e.on false=true
theorem ClosedL.set {L:Array Bool}(h:ClosedL md ops L){j:Nat}(hj:j∈Region.ready md ops L):ClosedL md ops (L.setIfInBounds j true):=by
 obtain⟨_,oj,a2,a0⟩:=mem_ready.1 hj
 refine⟨by simp[h.1],fun k ok hk hl e he hb=>?_⟩
 by_cases a1:j=k
 ·subst a1
  have:ok=oj:=Option.some.inj (hk.symm.trans a2)
  subst this
  exact getD_set_true (a0 e he hb)
 ·rw[getD_set_ne false a1] at hl
  exact getD_set_true (h.2 k ok hk hl e he hb)
theorem ClosedL.waits {L:Array Bool}(h:ClosedL md ops L){i:Nat}(hw:Region.waitsFor md ops n i=true)(hi:L.getD i true=false):L.getD n true=false:=by
 obtain⟨on,a0,e,he,hb,a2⟩:=Region.waitsFor_spec hw
 have hn:n<L.size:=by rw[h.1];exact(Array.getElem?_eq_some_iff.1 a0).1
 cases hl:L.getD n true with
 |false=>rfl
 |true=>
  have a1:L.getD n false=true:=by
   simp[hn] at hl ⊢;exact hl
  have:=h.2 n on a0 a1 e he hb
  rw[a2,getD_both hi] at this
  cases this
def wpG (P:Program)(md:Region.Mode)(ops:Array Oper)(Q:Exit→Act→World→Prop)(n:Nat)(A:World→Prop):Nat→Array Bool→Act→World→Prop
 | 0,L,a,w=>Region.ready md ops L=[]∧Q .normal a w
 |f+1,L,a,w=>(Region.ready md ops L=[]→Q .normal a w)∧
  ∀i∈Region.ready md ops L,wpOp P ops Q i (fun a' w'=>((L.setIfInBounds i true).getD n true=false→A w')∧wpG P md ops Q n A f (L.setIfInBounds i true) a' w') a w
theorem Zhf: ∀(f:Nat) (L:Array Bool) (a:Act) (w:World),wpG P md ops Q n A f L a w→wpAny P md ops Q f L a w
 | 0,_,_,_,h=>h
 |f+1,_,_,_,h=>⟨h.1,fun i hi=>wpOp_mono (fun a' w' h'=>Zhf f _ a' w' h'.2) (h.2 i hi)⟩
theorem Zoy {i:Nat}{oi:Oper}{v:Value}(hi:ops[i]?=some oi)(hsel: ∀(j:Nat) (o:Oper) cs b,ops[j]?=some o→o.op≠.select cs b)
  (hQ: ∀c a w,Q (.panic c) (a.put oi.dst v) w→Q (.panic c) a w) (hw:Region.waitsFor md ops n i=true) (hin:i≠n):
  ∀(f:Nat) (L:Array Bool) (a:Act) (w:World),ClosedL md ops L→
   (∀j oj,ops[j]?=some oj→j≠i→L.getD j true=false→(∀e∈oj.after,Region.binds md e=true→e.on≠i)→oi.apart ops oj=true)→
   i∈Region.ready md ops L→YieldsIf P ops A oi v a→A w→
   wpG P md ops Q n A f (L.setIfInBounds i true) (a.put oi.dst v) w→wpG P md ops Q n A (f+1) L a w:=by
 intro f
 induction f with
 |zero=>
  intro L a w hc _ hr hy hS H
  refine⟨fun h=>(by rw[h] at hr;cases hr),fun j hj=>?_⟩
  by_cases a0:j=i
  ·subst a0;exact hy.wpOp hi hS ⟨fun _=>hS,H⟩
  ·have:=ready_mono hj a0
   rw[H.1] at this
   cases this
 |succ f ih=>
  intro L a w hc a1 hr hy hS H
  refine⟨fun h=>(by rw[h] at hr;cases hr),fun j hj=>?_⟩
  by_cases a0:j=i
  ·subst a0;exact hy.wpOp hi hS ⟨fun _=>hS,H⟩
  ·have h1:=H.2 j (ready_mono hj a0)
   obtain⟨a4,oj,a6,a7⟩:=mem_ready.1 hj
   have a5:=(mem_ready.1 hr).1
   have a8: ∀e∈oj.after,Region.binds md e=true→e.on≠i:=fun e he hb heq=>by
    have h2:=a7 e he hb
    rw[heq,getD_both a5] at h2
    cases h2
   have h2:=wpOp_putIf a6 (a1 j oj a6 a0 a4 a8) (fun cs b=>hsel i oi cs b hi) (fun cs b=>hsel j oj cs b a6) hQ hy h1
   have b0:=hc.set hj
   have a3:(L.setIfInBounds j true).getD i true=false:=by rw[getD_set_ne true a0];exact a5
   have b1:(L.setIfInBounds j true).getD n true=false:=b0.waits hw a3
   have a2: ∀k ok,ops[k]?=some ok→k≠i→(L.setIfInBounds j true).getD k true=false→
     (∀e∈ok.after,Region.binds md e=true→e.on≠i)→oi.apart ops ok=true:=fun k ok hk hki hun hno=>by
    refine a1 k ok hk hki ?_ hno
    by_cases a9:j=k
    ·subst a9;exact a4
    ·rw[getD_set_ne true a9] at hun;exact hun
   have hA: ∀w',(((L.setIfInBounds i true).setIfInBounds j true).getD n true=false→A w')→A w':=fun w' h=>h (by
    rw[Array.setIfInBounds_comm _ _ (Ne.symm a0),getD_set_ne true hin];exact b1)
   refine wpOp_mono (fun a' w' h3=>⟨fun _=>hA w' h3.2.1,ih (L.setIfInBounds j true) a' w' b0 a2 (ready_mono hr (Ne.symm a0)) h3.1 (hA w' h3.2.1) ?_⟩) h2
   rw[Array.setIfInBounds_comm _ _ a0]
   exact h3.2.2
def Zaf (md:Region.Mode)(ops:Array Oper)(L:Array Bool):Bool:=
 decide (L.size=ops.size) && (List.range ops.size).all fun j=>!L.getD j false || match ops[j]? with
  |some oj=>oj.after.all fun e=>!Region.binds md e || L.getD e.on false
  |none=>true
theorem Zb9 {L:Array Bool}(h:Zaf md ops L=true):ClosedL md ops L:=by
 simp only[Zaf,Bool.and_eq_true,decide_eq_true_eq,List.all_eq_true,List.mem_range] at h
 refine⟨h.1,fun j oj hj hl e he hb=>?_⟩
 have h1:=h.2 j (Array.getElem?_eq_some_iff.1 hj).1
 rw[hl,hj] at h1
 simp only[Bool.not_true,Bool.false_or,Array.all_eq_true'] at h1
 have h2:=h1 e he
 rw[hb] at h2
 simpa using h2
theorem Zq2 {l:List Oper}{i:Nat}{oi:Oper}{v:Value}{f:Nat}{L:Array Bool}{a:Act}{w:World}(hi':l[i]?=some oi)
  (hB:(Region.noSelect l.toArray && Region.waitsFor md l.toArray n i && Zaf md l.toArray L && Region.free md l.toArray L i && (Region.ready md l.toArray L).contains i && !(i == n))=true)
  (hQ: ∀c a w,Q (.panic c) (a.put oi.dst v) w→Q (.panic c) a w) (hA:A w) (hy:YieldsIf P l.toArray A oi v a)
  (h:wpG P md l.toArray Q n A f (L.setIfInBounds i true) (a.put oi.dst v) w):wpG P md l.toArray Q n A (f+1) L a w:=by
 have hi:l.toArray[i]?=some oi:=by simpa using hi'
 simp only[Bool.and_eq_true,Bool.not_eq_true',beq_eq_false_iff_ne] at hB
 obtain⟨⟨⟨⟨⟨h1,h2⟩,h3⟩,h4⟩,h5⟩,h6⟩:=hB
 exact Zoy hi (Region.noSelect_spec h1) hQ h2 h6 f L a w (Zb9 h3) (Region.free_spec hi h4) (by simpa using h5) hy hA h
theorem Za0 {l:List Oper}{i:Nat}{oi:Oper}{f:Nat}{L:Array Bool}{a:Act}{w:World}(hi':l[i]?=some oi)(hr:Region.ready md l.toArray L=[i])(hg:oi.guard=none)
  (h: ∀K:Act→World→Prop,(∀a' w',A w'→wpG P md l.toArray Q n A f (L.setIfInBounds i true) a' w'→K a' w')→oi.wp P a w K Q):wpG P md l.toArray Q n A (f+1) L a w:=by
 have hi:l.toArray[i]?=some oi:=by simpa using hi'
 refine⟨fun h0=>(by rw[hr] at h0;cases h0),fun j hj=>?_⟩
 rw[hr] at hj
 have a0:j=i:=by simpa using hj
 subst a0
 unfold wpOp
 simp only[hi,Region.wanted,hg,if_true]
 exact .inl (h _ (fun a' w' h1 h2=>⟨fun _=>h1,h2⟩))
theorem Zta {L:Array Bool}{k:Nat}(h:L.getD n true=true∨k=n):(L.setIfInBounds k true).getD n true=true:=by
 by_cases hk:k=n
 ·subst hk
  rcases Nat.lt_or_ge k L.size with h' | h'
  ·simp[h']
  ·simp
 ·rw[getD_set_ne true hk]
  exact h.resolve_right hk
theorem Zkf: ∀(l:List Oper) (k:Nat) (L:Array Bool) (a:Act) (w:World),(∀j,l[j]?=ops[k+j]?)→L.getD n true=true∨k=n→
  Region.seqB md ops l.length k L=true→wpList P ops Q l a w→wpG P md ops Q n A l.length L a w
 | [],_,_,_,_,_,_,hB,h=>⟨by simpa [Region.seqB] using hB,h⟩
 |o :: l,k,L,a,w,hl,hn,hB,h=>by
  have h0:ops[k]?=some o:=by simpa using (hl 0).symm
  simp only[List.length_cons,Region.seqB,Bool.and_eq_true,decide_eq_true_eq] at hB
  refine⟨fun h1=>(by rw[hB.1] at h1;cases h1),fun i hi=>?_⟩
  rw[hB.1] at hi
  have a1:i=k:=by simpa using hi
  subst a1
  have hw:wpOp P ops Q i (wpList P ops Q l) a w:=by unfold wpOp;simp only[h0];exact h
  have a0:=Zta hn
  exact wpOp_mono (fun a' w' h'=>⟨fun hx=>(by rw[a0] at hx;cases hx),Zkf l (i+1) _ a' w' (fun j=>by have:=hl (j+1);simpa [Nat.add_assoc,Nat.add_comm 1 j] using this) (.inl a0) hB.2 h'⟩) hw
theorem Zke {l:List Oper}{f k:Nat}{L:Array Bool}{a:Act}{w:World}(hk:k=n)(hf:(l.drop k).length=f)(hB:Region.seqB md l.toArray f k L=true)
  (h:wpList P l.toArray Q (l.drop k) a w):wpG P md l.toArray Q n A f L a w:=by
 subst hf
 exact Zkf (l.drop k) k L a w (fun j=>by simp) (.inr hk) hB h
theorem Zj {id:Nat}{l:List Oper}{a:Act}{w:World}(n:Nat)(A:World→Prop)(L:List Bool)(hL:L=List.replicate l.length false)(hm:P.follows .mixedOrders=true)
  (h:wpG P .any l.toArray Q n A l.length L.toArray a w.drew):(Code.region id l.toArray true).wp P Q a w:=by
 subst hL
 exact wp_region_any hm (Zhf _ _ _ _ (by simpa using h))
end
end
section
open Go
theorem Zq3 {P:Program}{Q:Exit→Act→World→Prop}{md:Region.Mode}{A:World→Prop}{n:Nat}{l:List Oper}{i:Nat}{oi:Oper}{f:Nat}{L:Array Bool}{a:Act}{w:World}(hi':l[i]?=some oi)(hr:Region.ready md l.toArray L=[i])(hg:Region.wanted oi (yielded l.toArray a.tmps)=true)
  (h: ∀K:Act→World→Prop,(∀a' w',A w'→wpG P md l.toArray Q n A f (L.setIfInBounds i true) a' w'→K a' w')→oi.wp P a w K Q):wpG P md l.toArray Q n A (f+1) L a w:=by
 have hi:l.toArray[i]?=some oi:=by simpa using hi'
 refine⟨fun h0=>(by rw[hr] at h0;cases h0),fun j hj=>?_⟩
 rw[hr] at hj
 have a0:j=i:=by simpa using hj
 subst a0
 unfold wpOp
 simp only[hi,hg,if_true]
 exact .inl (h _ (fun a' w' h1 h2=>⟨fun _=>h1,h2⟩))
theorem diZ {P:Program}{Q:Exit→Act→World→Prop}{md:Region.Mode}{A:World→Prop}{n:Nat}{l:List Oper}{oi:Oper}{f:Nat}{L:Array Bool}{a:Act}{w:World}(i:Nat)
  (h: ∀K:Act→World→Prop,Go.RowKit.Hid (∀a' w',A w'→wpG P md l.toArray Q n A f (L.setIfInBounds i true) a' w'→K a' w')→oi.wp P a w K Q) (hi':l[i]?=some oi:=by rfl) (hr:Region.ready md l.toArray L=[i]:=by kernel_rfl) (hg:Region.wanted oi (yielded l.toArray a.tmps)=true:=by rfl):wpG P md l.toArray Q n A (f+1) L a w:=
 Zq3 hi' hr hg (fun K hK=>h K (hid hK))
section
variable {P:Program} {ops:Array Oper} {Q:Exit→Act→World→Prop} {md:Region.Mode} {A:World→Prop} {n:Nat}
theorem Znj {i:Nat}{oi:Oper}{v:Value}(hi:ops[i]?=some oi)(hsel: ∀(j:Nat) (o:Oper) cs b,ops[j]?=some o→o.op≠.select cs b)
  (hQ: ∀c a w,Q (.panic c) (a.put oi.dst v) w→Q (.panic c) a w) (hw: ∀L,ClosedL md ops L→L.getD i true=false→L.getD n true=false) (hin:i≠n):
  ∀(f:Nat) (L:Array Bool) (a:Act) (w:World),ClosedL md ops L→
   (∀j oj,ops[j]?=some oj→j≠i→L.getD j true=false→(∀e∈oj.after,Region.binds md e=true→e.on≠i)→oi.apart ops oj=true)→
   i∈Region.ready md ops L→YieldsIf P ops A oi v a→A w→
   wpG P md ops Q n A f (L.setIfInBounds i true) (a.put oi.dst v) w→wpG P md ops Q n A (f+1) L a w:=by
 intro f
 induction f with
 |zero=>
  intro L a w hc _ hr hy hS H
  refine⟨fun h=>(by rw[h] at hr;cases hr),fun j hj=>?_⟩
  by_cases a0:j=i
  ·subst a0;exact hy.wpOp hi hS ⟨fun _=>hS,H⟩
  ·have:=ready_mono hj a0
   rw[H.1] at this
   cases this
 |succ f ih=>
  intro L a w hc a1 hr hy hS H
  refine⟨fun h=>(by rw[h] at hr;cases hr),fun j hj=>?_⟩
  by_cases a0:j=i
  ·subst a0;exact hy.wpOp hi hS ⟨fun _=>hS,H⟩
  ·have h1:=H.2 j (ready_mono hj a0)
   obtain⟨a4,oj,a6,a7⟩:=mem_ready.1 hj
   have a5:=(mem_ready.1 hr).1
   have a8: ∀e∈oj.after,Region.binds md e=true→e.on≠i:=fun e he hb heq=>by
    have h2:=a7 e he hb
    rw[heq,getD_both a5] at h2
    cases h2
   have h2:=wpOp_putIf a6 (a1 j oj a6 a0 a4 a8) (fun cs b=>hsel i oi cs b hi) (fun cs b=>hsel j oj cs b a6) hQ hy h1
   have b0:=hc.set hj
   have a3:(L.setIfInBounds j true).getD i true=false:=by rw[getD_set_ne true a0];exact a5
   have b1:(L.setIfInBounds j true).getD n true=false:=hw _ b0 a3
   have a2: ∀k ok,ops[k]?=some ok→k≠i→(L.setIfInBounds j true).getD k true=false→
     (∀e∈ok.after,Region.binds md e=true→e.on≠i)→oi.apart ops ok=true:=fun k ok hk hki hun hno=>by
    refine a1 k ok hk hki ?_ hno
    by_cases a9:j=k
    ·subst a9;exact a4
    ·rw[getD_set_ne true a9] at hun;exact hun
   have hA: ∀w',(((L.setIfInBounds i true).setIfInBounds j true).getD n true=false→A w')→A w':=fun w' h=>h (by
    rw[Array.setIfInBounds_comm _ _ (Ne.symm a0),getD_set_ne true hin];exact b1)
   refine wpOp_mono (fun a' w' h3=>⟨fun _=>hA w' h3.2.1,ih (L.setIfInBounds j true) a' w' b0 a2 (ready_mono hr (Ne.symm a0)) h3.1 (hA w' h3.2.1) ?_⟩) h2
   rw[Array.setIfInBounds_comm _ _ a0]
   exact h3.2.2
theorem Ziz {l:List Oper}{i:Nat}{oi:Oper}{v:Value}{f:Nat}{L:Array Bool}{a:Act}{w:World}(hi':l[i]?=some oi)
  (hw: ∀L,ClosedL md l.toArray L→L.getD i true=false→L.getD n true=false)
  (hB:(Region.noSelect l.toArray && Zaf md l.toArray L && Region.free md l.toArray L i && (Region.ready md l.toArray L).contains i && !(i == n))=true)
  (hQ: ∀c a w,Q (.panic c) (a.put oi.dst v) w→Q (.panic c) a w) (hA:A w) (hy:YieldsIf P l.toArray A oi v a)
  (h:wpG P md l.toArray Q n A f (L.setIfInBounds i true) (a.put oi.dst v) w):wpG P md l.toArray Q n A (f+1) L a w:=by
 have hi:l.toArray[i]?=some oi:=by simpa using hi'
 simp only[Bool.and_eq_true,Bool.not_eq_true',beq_eq_false_iff_ne] at hB
 obtain⟨⟨⟨⟨h1,h3⟩,h4⟩,h5⟩,h6⟩:=hB
 exact Znj hi (Region.noSelect_spec h1) hQ hw h6 f L a w (Zb9 h3) (Region.free_spec hi h4) (by simpa using h5) hy hA h
def Zdh (md:Region.Mode)(ops:Array Oper)(i:Nat):Nat→List Nat→Bool
 |n,[]=>Region.waitsFor md ops n i
 |n,k :: p=>Region.waitsFor md ops n k && Zdh md ops i k p
theorem ClosedL.chain {md:Region.Mode}{ops:Array Oper}{L:Array Bool}(hc:ClosedL md ops L){i:Nat}(hi:L.getD i true=false): ∀(p:List Nat) (n:Nat),Zdh md ops i n p=true→L.getD n true=false
 | [],n,h=>hc.waits h hi
 |k :: p,n,h=>by
  simp only[Zdh,Bool.and_eq_true] at h
  exact hc.waits h.1 (ClosedL.chain hc hi p k h.2)
theorem tqZ {l:List Oper}{oi:Oper}{f:Nat}{L:Array Bool}{a:Act}{w:World}(i:Nat)(v:Value)(p:List Nat)(hA:A w)(hy: ∀w,A w→(execOp a.eval oi).run P w=.ok (.value v) w)
  (h:wpG P md l.toArray Q n A f (L.setIfInBounds i true) (a.put oi.dst v) w) (hi':l[i]?=some oi:=by rfl)
  (hB:(Zdh md l.toArray i n p && (Region.noSelect l.toArray && Zaf md l.toArray L && Region.free md l.toArray L i && (Region.ready md l.toArray L).contains i && !(i == n)))=true:=by kernel_rfl)
  (hQ: ∀c a w,Q (.panic c) (a.put oi.dst v) w→Q (.panic c) a w:=by exact fun _ _ _ h=>h) (hw:Region.wanted oi (yielded l.toArray a.tmps)=true:=by rfl):wpG P md l.toArray Q n A (f+1) L a w:=by
 simp only[Bool.and_eq_true] at hB
 obtain⟨h1,h2⟩:=hB
 exact Ziz hi' (fun L hc h=>hc.chain h p n h1) (by simp only[Bool.and_eq_true];exact h2) hQ hA (.inl ⟨hw,hy⟩) h
theorem tqY {l:List Oper}{oi:Oper}{f:Nat}{L:Array Bool}{a:Act}{w:World}(i:Nat)(v:Value)(p:List Nat)(hA:A w)
  (h:wpG P md l.toArray Q n A f (L.setIfInBounds i true) (a.put oi.dst v) w) (hi':l[i]?=some oi:=by rfl) (hy: ∀w,A w→(execOp a.eval oi).run P w=.ok (.value v) w:=by intro w _;go_simp)
  (hB:(Zdh md l.toArray i n p && (Region.noSelect l.toArray && Zaf md l.toArray L && Region.free md l.toArray L i && (Region.ready md l.toArray L).contains i && !(i == n)))=true:=by kernel_rfl)
  (hQ: ∀c a w,Q (.panic c) (a.put oi.dst v) w→Q (.panic c) a w:=by exact fun _ _ _ h=>h) (hw:Region.wanted oi (yielded l.toArray a.tmps)=true:=by rfl):wpG P md l.toArray Q n A (f+1) L a w:=
 tqZ i v p hA hy h hi' hB hQ hw
theorem trZ {l:List Oper}{oi:Oper}{f:Nat}{L:Array Bool}{a:Act}{w:World}(i:Nat)(p:List Nat)(hA:A w)
  (h:wpG P md l.toArray Q n A f (L.setIfInBounds i true) (a.put oi.dst undef) w) (hi':l[i]?=some oi:=by rfl)
  (hB:(Zdh md l.toArray i n p && (Region.noSelect l.toArray && Zaf md l.toArray L && Region.free md l.toArray L i && (Region.ready md l.toArray L).contains i && !(i == n)))=true:=by kernel_rfl)
  (hQ: ∀c a w,Q (.panic c) (a.put oi.dst undef) w→Q (.panic c) a w:=by exact fun _ _ _ h=>h) (hw:Region.wanted oi (yielded l.toArray a.tmps)=false:=by rfl):wpG P md l.toArray Q n A (f+1) L a w:=by
 simp only[Bool.and_eq_true] at hB
 obtain⟨h1,h2⟩:=hB
 exact Ziz hi' (fun L hc h=>hc.chain h p n h1) (by simp only[Bool.and_eq_true];exact h2) hQ hA (.inr ⟨hw,rfl⟩) h
theorem zz:(∀(l:List Value) (i:Nat) (v:Value) (d:_),(⟨l.toArray,d⟩:Act).put (some i) v=⟨(l.set i v).toArray,d⟩)∧(∀(a:Act) (v:Value),a.put none v=a)∧(∀(l:List Bool) (i:Nat) (b:Bool),l.toArray.setIfInBounds i b=(l.set i b).toArray)∧(∀(l:List Value) (i:Nat) (b:Value),l.toArray.setIfInBounds i b=(l.set i b).toArray)∧
  (∀(α:Type) (x y:α) (l:List α),(x :: l).set 0 y=y :: l)∧ ∀(α:Type) (x y:α) (l:List α) (k:Nat),(x :: l).set (k+1) y=x :: l.set k y:=
 ⟨fun l i v d=>by simp[Act.put],fun a v=>rfl,fun l i b=>by simp,fun l i b=>by simp,fun _ _ _ _=>rfl,fun _ _ _ _ _=>rfl⟩
theorem doZ {l:List Oper}{oi:Oper}{f:Nat}{L:Array Bool}{a:Act}{w:World}(i:Nat)
  (h: ∀K:Act→World→Prop,Go.RowKit.Hid (∀a' w',A w'→wpG P md l.toArray Q n A f (L.setIfInBounds i true) a' w'→K a' w')→oi.wp P a w K Q) (hi':l[i]?=some oi:=by rfl) (hr:Region.ready md l.toArray L=[i]:=by kernel_rfl) (hg:oi.guard=none:=by rfl):wpG P md l.toArray Q n A (f+1) L a w:=
 Za0 hi' hr hg (fun K hK=>h K (hid hK))
theorem tlZ {l:List Oper}{f:Nat}{L:Array Bool}{a:Act}{w:World}(k:Nat)(h:wpList P l.toArray Q (l.drop k) a w)(hk:k=n:=by rfl)(hf:(l.drop k).length=f:=by rfl)(hB:Region.seqB md l.toArray f k L=true:=by kernel_rfl):wpG P md l.toArray Q n A f L a w:=
 Zke hk hf hB h
theorem wqZ {l:List Oper}{oi:Oper}{f:Nat}{L:Array Bool}{a:Act}{w:World}(i:Nat)(v:Value)(hA:A w)(hy: ∀w,A w→(execOp a.eval oi).run P w=.ok (.value v) w)
  (h:wpG P md l.toArray Q n A f (L.setIfInBounds i true) (a.put oi.dst v) w) (hi':l[i]?=some oi:=by rfl)
  (hB:(Region.noSelect l.toArray && Region.waitsFor md l.toArray n i && Zaf md l.toArray L && Region.free md l.toArray L i && (Region.ready md l.toArray L).contains i && !(i == n))=true:=by kernel_rfl)
  (hQ: ∀c a w,Q (.panic c) (a.put oi.dst v) w→Q (.panic c) a w:=by exact fun _ _ _ h=>h) (hw:Region.wanted oi (yielded l.toArray a.tmps)=true:=by rfl):wpG P md l.toArray Q n A (f+1) L a w:=
 Zq2 hi' hB hQ hA (.inl ⟨hw,hy⟩) h
end
end
section
open Go
theorem Ya {P:Program}{Q:Exit→Act→World→Prop}{md:Region.Mode}{A:World→Prop}{n:Nat}{l:List Oper}{i j:Nat}{oi oj:Oper}{f:Nat}{L:Array Bool}{a:Act}{w:World}(hi':l[i]?=some oi)(hj':l[j]?=some oj)(hr:Region.ready md l.toArray L=[i,j])(hgi:oi.guard=none)(hgj:oj.guard=none)
  (h1: ∀K:Act→World→Prop,(∀a' w',A w'→wpG P md l.toArray Q n A f (L.setIfInBounds i true) a' w'→K a' w')→oi.wp P a w K Q)
  (h2: ∀K:Act→World→Prop,(∀a' w',A w'→wpG P md l.toArray Q n A f (L.setIfInBounds j true) a' w'→K a' w')→oj.wp P a w K Q):wpG P md l.toArray Q n A (f+1) L a w:=by
 have hi:l.toArray[i]?=some oi:=by simpa using hi'
 have hj:l.toArray[j]?=some oj:=by simpa using hj'
 refine⟨fun h0=>(by rw[hr] at h0;cases h0),fun k hk=>?_⟩
 rw[hr] at hk
 have a0:k=i∨k=j:=by simpa using hk
 unfold wpOp
 rcases a0 with rfl | rfl
 ·simp only[hi,Region.wanted,hgi,if_true]
  exact .inl (h1 _ (fun a' w' g1 g2=>⟨fun _=>g1,g2⟩))
 ·simp only[hj,Region.wanted,hgj,if_true]
  exact .inl (h2 _ (fun a' w' g1 g2=>⟨fun _=>g1,g2⟩))
section
variable {P:Program} {ops:Array Oper} {Q:Exit→Act→World→Prop} {md:Region.Mode} {A:World→Prop} {n:Nat}
theorem Znk {i:Nat}{oi:Oper}{v:Value}(hi:ops[i]?=some oi)(hsel: ∀(j:Nat) (o:Oper) cs b,ops[j]?=some o→o.op≠.select cs b)
  (hQ: ∀c a w,Q (.panic c) (a.put oi.dst v) w→Q (.panic c) a w) (hin:i≠n):
  ∀(f:Nat) (L:Array Bool) (a:Act) (w:World),
   (∀j oj,ops[j]?=some oj→j≠i→L.getD j true=false→(∀e∈oj.after,Region.binds md e=true→e.on≠i)→oi.apart ops oj=true)→
   i∈Region.ready md ops L→YieldsIf P ops (fun _=>True) oi v a→(L.getD n true=false→A w)→
   wpG P md ops Q n A f (L.setIfInBounds i true) (a.put oi.dst v) w→wpG P md ops Q n A (f+1) L a w:=by
 intro f
 induction f with
 |zero=>
  intro L a w _ hr hy hS H
  refine⟨fun h=>(by rw[h] at hr;cases hr),fun j hj=>?_⟩
  by_cases a0:j=i
  ·subst a0;exact hy.wpOp hi trivial ⟨fun hx=>hS (by rwa [getD_set_ne true hin] at hx),H⟩
  ·have:=ready_mono hj a0
   rw[H.1] at this
   cases this
 |succ f ih=>
  intro L a w a1 hr hy hS H
  refine⟨fun h=>(by rw[h] at hr;cases hr),fun j hj=>?_⟩
  by_cases a0:j=i
  ·subst a0;exact hy.wpOp hi trivial ⟨fun hx=>hS (by rwa [getD_set_ne true hin] at hx),H⟩
  ·have h1:=H.2 j (ready_mono hj a0)
   obtain⟨a3,oj,a4,a5⟩:=mem_ready.1 hj
   have a6:=(mem_ready.1 hr).1
   have a7: ∀e∈oj.after,Region.binds md e=true→e.on≠i:=fun e he hb heq=>by
    have h2:=a5 e he hb
    rw[heq,getD_both a6] at h2
    cases h2
   have h2:=wpOp_putIf a4 (a1 j oj a4 a0 a3 a7) (fun cs b=>hsel i oi cs b hi) (fun cs b=>hsel j oj cs b a4) hQ hy h1
   have a2: ∀k ok,ops[k]?=some ok→k≠i→(L.setIfInBounds j true).getD k true=false→
     (∀e∈ok.after,Region.binds md e=true→e.on≠i)→oi.apart ops ok=true:=fun k ok hk hki hun hno=>by
    refine a1 k ok hk hki ?_ hno
    by_cases a8:j=k
    ·subst a8;exact a3
    ·rw[getD_set_ne true a8] at hun;exact hun
   have hA: ∀w',(((L.setIfInBounds i true).setIfInBounds j true).getD n true=false→A w')→(L.setIfInBounds j true).getD n true=false→A w':=fun w' h hx=>h (by
    rw[Array.setIfInBounds_comm _ _ (Ne.symm a0),getD_set_ne true hin];exact hx)
   refine wpOp_mono (fun a' w' h3=>⟨hA w' h3.2.1,ih (L.setIfInBounds j true) a' w' a2 (ready_mono hr (Ne.symm a0)) h3.1 (hA w' h3.2.1) ?_⟩) h2
   rw[Array.setIfInBounds_comm _ _ a0]
   exact h3.2.2
theorem Zi0 {l:List Oper}{i:Nat}{oi:Oper}{v:Value}{f:Nat}{L:Array Bool}{a:Act}{w:World}(hi':l[i]?=some oi)
  (hB:(Region.noSelect l.toArray && Region.free md l.toArray L i && (Region.ready md l.toArray L).contains i && !(i == n))=true)
  (hQ: ∀c a w,Q (.panic c) (a.put oi.dst v) w→Q (.panic c) a w) (hA:A w) (hy:YieldsIf P l.toArray (fun _=>True) oi v a)
  (h:wpG P md l.toArray Q n A f (L.setIfInBounds i true) (a.put oi.dst v) w):wpG P md l.toArray Q n A (f+1) L a w:=by
 have hi:l.toArray[i]?=some oi:=by simpa using hi'
 simp only[Bool.and_eq_true,Bool.not_eq_true',beq_eq_false_iff_ne] at hB
 obtain⟨⟨⟨h1,h4⟩,h5⟩,h6⟩:=hB
 exact Znk hi (Region.noSelect_spec h1) hQ h6 f L a w (Region.free_spec hi h4) (by simpa using h5) hy (fun _=>hA) h
theorem tpY {l:List Oper}{oi:Oper}{f:Nat}{L:Array Bool}{a:Act}{w:World}(i:Nat)(v:Value)(hA:A w)(hy: ∀w,(execOp a.eval oi).run P w=.ok (.value v) w)
  (h:wpG P md l.toArray Q n A f (L.setIfInBounds i true) (a.put oi.dst v) w) (hi':l[i]?=some oi:=by rfl)
  (hB:(Region.noSelect l.toArray && Region.free md l.toArray L i && (Region.ready md l.toArray L).contains i && !(i == n))=true:=by kernel_rfl)
  (hQ: ∀c a w,Q (.panic c) (a.put oi.dst v) w→Q (.panic c) a w:=by exact fun _ _ _ h=>h) (hw:Region.wanted oi (yielded l.toArray a.tmps)=true:=by rfl):wpG P md l.toArray Q n A (f+1) L a w:=
 Zi0 hi' hB hQ hA (.inl ⟨hw,fun w _=>hy w⟩) h
theorem tpZ {l:List Oper}{oi:Oper}{f:Nat}{L:Array Bool}{a:Act}{w:World}(i:Nat)(v:Value)(hA:A w)
  (h:wpG P md l.toArray Q n A f (L.setIfInBounds i true) (a.put oi.dst v) w) (hi':l[i]?=some oi:=by rfl) (hy: ∀w,(execOp a.eval oi).run P w=.ok (.value v) w:=by intro w;go_simp)
  (hB:(Region.noSelect l.toArray && Region.free md l.toArray L i && (Region.ready md l.toArray L).contains i && !(i == n))=true:=by kernel_rfl)
  (hQ: ∀c a w,Q (.panic c) (a.put oi.dst v) w→Q (.panic c) a w:=by exact fun _ _ _ h=>h) (hw:Region.wanted oi (yielded l.toArray a.tmps)=true:=by rfl):wpG P md l.toArray Q n A (f+1) L a w:=
 Zi0 hi' hB hQ hA (.inl ⟨hw,fun w _=>hy w⟩) h
end
end
end Go.Proofs.YtbimkhdiplnbfaaGreat
