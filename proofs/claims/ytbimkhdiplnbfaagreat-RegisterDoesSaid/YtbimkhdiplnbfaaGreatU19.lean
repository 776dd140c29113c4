/- Walks. -/
import Derived.Test.YtbimkhdiplnbfaaGreatU18
import Derived.Laws.BytesArg
set_option linter.unusedVariables false
set_option linter.unusedSimpArgs false
namespace Go.Proofs.YtbimkhdiplnbfaaGreat
set_option maxRecDepth 1000000
set_option maxHeartbeats 16000000
section
open Go.RowKit
def numsOf (s:ByteArray):List Int:=s.data.toList.map fun c=>(c.toNat:Int)
theorem Zdc (s:ByteArray):Bytes (numsOf s):=by
 intro x hx
 simp only[numsOf,List.mem_map] at hx
 obtain⟨c,_,rfl⟩:=hx
 have:=c.toNat_lt
 omega
theorem Yz (s:ByteArray):(numsOf s).length=s.size:=by
 show(List.map _ s.data.toList).length=s.data.size
 rw[List.length_map,Array.length_toList]
theorem Za9 (s:ByteArray):strOfNums (numsOf s)=s:=by
 cases s with
 |mk d=>
  have h: ∀l:List UInt8,(l.map fun c=>(c.toNat:Int)).map (fun n:Int=>UInt8.ofNat n.toNat)=l:=by
   intro l
   induction l with
   |nil=>rfl
   |cons c l ih=>rw[List.map_cons,List.map_cons,ih];simp
  show ByteArray.mk ((numsOf ⟨d⟩).map fun n=>UInt8.ofNat n.toNat).toArray=_
  simp only[numsOf,h,Array.toArray_toList]
theorem Zdb {xs:List Int}(h:Bytes xs):numsOf (strOfNums xs)=xs:=by
 simp only[numsOf,strOfNums_data,List.map_map]
 conv=>rhs;rw[←List.map_id xs]
 refine List.map_congr_left fun x hx=>?_
 have:=h x hx
 simp
 omega
theorem Zn3 {s t:ByteArray}(h:numsOf s=numsOf t):s=t:=by rw[←Za9 s,h,Za9]
structure SetV where
 name:ByteArray
 was:Bool
 is:Bool
 old:List Int
 new:List Int
structure BatchV where
 epoch:Int
 large:Bool
 sets:List SetV
def SetV.zero:SetV:=⟨ByteArray.empty,false,false,[],[]⟩
def BatchV.zero:BatchV:=⟨0,false,[]⟩
def flagF (b:Bool):Int:=if b then 1 else 0
def Ye (f:Bool)(x:List Int):List Int:=flagF f :: (layF x.length 16++x)
def setF (x:SetV):List Int:=((x.name.size:Int) % 256) :: (numsOf x.name++(Ye x.was x.old++Ye x.is x.new))
def Yc (l:List SetV):List Int:=l.flatMap setF
def encF (b:BatchV):List Int:=layF b.epoch 64++([flagF b.large,(b.sets.length:Int) % 256]++Yc b.sets)
def SetV.right (x:SetV):Bool:=decide (1≤x.name.size∧x.name.size≤24∧x.old.length≤3000∧x.new.length≤3000∧(x.was=false→x.old=[])∧(x.is=false→x.new=[]))
def Zej:List SetV→Bool
 | []=>true
 |x :: l=>Zej l && !l.any (fun y=>decide (y.name=x.name))
def BatchV.right (b:BatchV):Bool:=decide (b.epoch≤4611686018427387904) && decide (b.sets.length≤48) && b.sets.all SetV.right && Zej b.sets
structure SetV.Ok (x:SetV):Prop where
 old:Bytes x.old
 new:Bytes x.new
structure BatchV.Ok (b:BatchV):Prop where
 epoch:0≤b.epoch∧b.epoch≤18446744073709551615
 sets: ∀x∈b.sets,x.Ok
/-! ### Readers -/
def Prs (α:Type):=List Int→Option (α×List Int)
def Prs.ret {α:Type}(v:α):Prs α:=fun l=>some (v,l)
def Prs.bind {α β:Type}(p:Prs α)(f:α→Prs β):Prs β:=fun l=>match p l with
 |none=>none
 |some (v,r)=>f v r
def Prs.take (n:Nat):Prs (List Int):=fun l=>if l.length<n then none else some (l.take n,l.drop n)
def numP (n:Nat):Prs Int:=(Prs.take n).bind fun b=>Prs.ret (beF b)
def maybeP:Prs (Int×List Int):=(numP 1).bind fun f=>(numP 2).bind fun n=>(Prs.take n.toNat).bind fun x=>Prs.ret (f,x)
def setP:Prs (SetV×Bool):=(numP 1).bind fun n=>(Prs.take n.toNat).bind fun nm=>maybeP.bind fun o=>maybeP.bind fun x=>
 Prs.ret (⟨strOfNums nm,decide (o.1=1),decide (x.1=1),o.2,x.2⟩,decide (1<o.1) || decide (1<x.1))
def Zbb:Nat→Prs (List SetV×Bool)
 | 0=>Prs.ret ([],false)
 |n+1=>setP.bind fun x=>(Zbb n).bind fun l=>Prs.ret (x.1 :: l.1,x.2 || l.2)
def Zdj:Prs (BatchV×Bool):=(numP 8).bind fun e=>(numP 1).bind fun f=>(numP 1).bind fun c=>(Zbb c.toNat).bind fun l=>
 Prs.ret (⟨e,decide (f=1),l.1⟩,decide (1<f) || l.2)
def decF (l:List Int):BatchV×Int:=match Zdj l with
 |none=>(BatchV.zero,7)
 |some (b,r)=>if b.2 || decide (0<r.length) || !b.1.right then(BatchV.zero,2) else(b.1,0)
/-! ### What is laid is read -/
theorem Zsb (x:Int)(bs:List Int):bs.foldl (fun x b=>x * 256+b) x=x * 256 ^ bs.length+beF bs:=by
 induction bs generalizing x with
 |nil=>simp[beF]
 |cons b bs ih=>
  simp only[List.foldl_cons,beF,List.length_cons]
  rw[ih (x * 256+b),ih (0 * 256+b),Int.pow_succ]
  simp only[Int.zero_mul,Int.zero_add,Int.add_mul]
  rw[Int.mul_assoc,Int.mul_comm 256]
  omega
theorem Zev (b:Int)(bs:List Int):beF (b :: bs)=b * 256 ^ bs.length+beF bs:=by
 have:=Zsb b bs
 simp only[beF,List.foldl_cons,Int.zero_mul,Int.zero_add] at this ⊢
 exact this
theorem Zca: ∀{bs:List Int},Bytes bs→0≤beF bs
 | [],_=>by simp[beF]
 |b :: bs,h=>by
  rw[Zev]
  have h1:=h b (by simp)
  have h2:=Zca (bs:=bs) fun x hx=>h x (by simp[hx])
  have h3:(0:Int)≤256 ^ bs.length:=Int.pow_nonneg (by omega)
  have:=Int.mul_nonneg h1.1 h3
  omega
theorem Zia: ∀{bs:List Int},Bytes bs→beF bs<256 ^ bs.length
 | [],_=>by simp[beF]
 |b :: bs,h=>by
  rw[Zev,List.length_cons,Int.pow_succ]
  have h1:=h b (by simp)
  have h2:=Zia (bs:=bs) fun x hx=>h x (by simp[hx])
  have h3:b * 256 ^ bs.length≤255 * 256 ^ bs.length:=Int.mul_le_mul_of_nonneg_right h1.2 (Int.pow_nonneg (by omega))
  omega
theorem Ziw (a b:Int):beF [a,b]=a * 256+b:=by simp[beF]
theorem Zk9 (x:Int):layF x 16=[x / 256 % 256,x % 256]:=by
 have:layF x 16=[x / 2 ^ 8 % 256,x / 2 ^ 0 % 256]:=rfl
 rw[this]
 simp
theorem Zeo (x:Int):layF x 64=[x / 2 ^ 56 % 256,x / 2 ^ 48 % 256,x / 2 ^ 40 % 256,x / 2 ^ 32 % 256,x / 2 ^ 24 % 256,x / 2 ^ 16 % 256,x / 2 ^ 8 % 256,x / 2 ^ 0 % 256]:=rfl
theorem Zoq {x:Int}(h:0≤x∧x≤65535):beF (layF x 16)=x:=by
 rw[Zk9,Ziw];omega
theorem Zop {x:Int}(h:0≤x∧x≤18446744073709551615):beF (layF x 64)=x:=by
 rw[Zeo]
 simp only[beF,List.foldl_cons,List.foldl_nil]
 omega
theorem Zn9 {a b:Int}(ha:0≤a∧a≤255)(hb:0≤b∧b≤255):layF (beF [a,b]) 16=[a,b]:=by
 rw[Zk9,Ziw]
 congr 1
 ·omega
 ·congr 1;omega
theorem Zn8 {a b c d e f g h:Int}(hb:Bytes [a,b,c,d,e,f,g,h]):layF (beF [a,b,c,d,e,f,g,h]) 64=[a,b,c,d,e,f,g,h]:=by
 have ha:=hb a (by simp);have h2:=hb b (by simp);have h3:=hb c (by simp);have h4:=hb d (by simp);have h5:=hb e (by simp);have h6:=hb f (by simp);have h7:=hb g (by simp);have h8:=hb h (by simp)
 rw[Zeo]
 simp only[beF,List.foldl_cons,List.foldl_nil]
 congr 1
 ·omega
 congr 1
 ·omega
 congr 1
 ·omega
 congr 1
 ·omega
 congr 1
 ·omega
 congr 1
 ·omega
 congr 1
 ·omega
 congr 1
 omega
theorem Zsq (c r:List Int):Prs.take c.length (c++r)=some (c,r):=by
 simp only[Prs.take]
 rw[if_neg (by simp)]
 simp
theorem Zgz {n:Nat}{c:List Int}(r:List Int)(h:c.length=n):Prs.take n (c++r)=some (c,r):=by rw[←h];exact Zsq c r
theorem Zk4 {n:Nat}{c:List Int}(r:List Int)(h:c.length=n):numP n (c++r)=some (beF c,r):=by
 simp only[numP,Prs.bind,Zgz r h,Prs.ret]
theorem Zil (x:Int)(r:List Int):numP 1 (x :: r)=some (x,r):=by
 have:=Zk4 (c:=[x]) r rfl
 simpa [beF] using this
theorem Zlh (b:Bool):decide (1<flagF b)=false:=by cases b<;> rfl
theorem Zjm (b:Bool):decide (flagF b=1)=b:=by cases b<;> rfl
theorem Zk7 (f:Bool){x:List Int}(r:List Int)(h:x.length≤65535):maybeP (Ye f x++r)=some ((flagF f,x),r):=by
 simp only[maybeP,Ye,Prs.bind,List.cons_append,List.append_assoc,Zil]
 rw[Zk4 _ (by simp[layF_length])]
 simp only[Zoq (x:=(x.length:Int)) (by omega),Zgz r (show x.length=(x.length:Int).toNat by omega),Prs.ret]
theorem Ztz {x:SetV}(r:List Int)(h:x.right=true):setP (setF x++r)=some ((x,false),r):=by
 simp only[SetV.right,decide_eq_true_eq] at h
 obtain⟨h1,h2,h3,h4,h5,h6⟩:=h
 simp only[setP,setF,Prs.bind,List.cons_append,List.append_assoc,Zil]
 rw[Zgz (c:=numsOf x.name) _ (by rw[Yz];omega)]
 simp only[Zk7 x.was _ (show x.old.length≤65535 by omega),Zk7 x.is _ (show x.new.length≤65535 by omega),Prs.ret,Zlh,Zjm,Za9,Bool.or_self]
theorem Zmy: ∀{l:List SetV} (r:List Int),(∀x∈l,x.right=true)→Zbb l.length (Yc l++r)=some ((l,false),r)
 | [],r,_=>by simp[Zbb,Yc,Prs.ret]
 |x :: l,r,h=>by
  have:=Zmy (l:=l) r fun y hy=>h y (by simp[hy])
  have e:Yc (x :: l)++r=setF x++(Yc l++r):=by simp[Yc]
  rw[e]
  show(setP.bind fun x=>(Zbb l.length).bind fun l=>Prs.ret (x.1 :: l.1,x.2 || l.2)) (setF x++(Yc l++r))=_
  simp only[Prs.bind,Ztz _ (h x (by simp)),this,Prs.ret,Bool.or_self]
theorem Zsc {b:BatchV}(r:List Int)(h:b.right=true)(hk:b.Ok):Zdj (encF b++r)=some ((b,false),r):=by
 simp only[BatchV.right,Bool.and_eq_true,decide_eq_true_eq,List.all_eq_true] at h
 obtain⟨⟨⟨h1,h2⟩,h3⟩,h4⟩:=h
 simp only[Zdj,encF,Prs.bind,List.append_assoc]
 rw[Zk4 _ (by simp[layF_length])]
 simp only[List.cons_append,List.nil_append,Zil,Zop hk.epoch]
 have e:((b.sets.length:Int) % 256).toNat=b.sets.length:=by omega
 simp only[e,Zmy r h3,Prs.ret,Zlh,Zjm,Bool.or_self]
theorem Zto {b:BatchV}(h:b.right=true)(hk:b.Ok):decF (encF b)=(b,0):=by
 have:=Zsc [] h hk
 rw[List.append_nil] at this
 simp only[decF,this,h]
 simp
/-! ### What is read was laid -/
theorem Zgy {n:Nat}{l c r:List Int}(h:Prs.take n l=some (c,r)):l=c++r∧c.length=n:=by
 simp only[Prs.take] at h
 split at h
 ·cases h
 ·simp only[Option.some.injEq,Prod.mk.injEq] at h
  obtain⟨rfl,rfl⟩:=h
  exact⟨(List.take_append_drop n l).symm,by simp;omega⟩
theorem Zim {n:Nat}{l r:List Int}{x:Int}(h:numP n l=some (x,r)): ∃c,l=c++r∧c.length=n∧x=beF c:=by
 simp only[numP,Prs.bind] at h
 split at h
 ·cases h
 ·rename_i c r1 h1
  simp only[Prs.ret,Option.some.injEq,Prod.mk.injEq] at h
  obtain⟨rfl,rfl⟩:=h
  obtain⟨k1,k2⟩:=Zgy h1
  exact⟨c,k1,k2,rfl⟩
theorem Zf6 {l r:List Int}{x:Int}(h:numP 1 l=some (x,r)):l=x :: r:=by
 obtain⟨c,rfl,h2,rfl⟩:=Zim h
 match c,h2 with
 | [y],_=>simp[beF]
theorem Bytes.left {a b:List Int}(h:Bytes (a++b)):Bytes a:=fun x hx=>h x (by simp[hx])
theorem Bytes.right {a b:List Int}(h:Bytes (a++b)):Bytes b:=fun x hx=>h x (by simp[hx])
theorem Bytes.tail' {a:Int}{b:List Int}(h:Bytes (a :: b)):Bytes b:=fun x hx=>h x (by simp[hx])
theorem Zjl {x:Int}(h:0≤x∧x≤255)(hb:decide (1<x)=false):flagF (decide (x=1))=x:=by
 have h1: ¬1<x:=by simpa using hb
 by_cases e:x=1
 ·rw[e];rfl
 ·have:x=0:=by omega
  rw[this];rfl
theorem Zjd {l r:List Int}{v:Int×List Int}(h:maybeP l=some (v,r))(hB:Bytes l)(hb:decide (1<v.1)=false):l=Ye (decide (v.1=1)) v.2++r∧v.2.length≤65535:=by
 simp only[maybeP,Prs.bind] at h
 split at h
 ·cases h
 rename_i f r1 h1
 split at h
 ·cases h
 rename_i n r2 h2
 split at h
 ·cases h
 rename_i x r3 h3
 simp only[Prs.ret,Option.some.injEq,Prod.mk.injEq] at h
 obtain⟨rfl,rfl⟩:=h
 have e1:=Zf6 h1
 obtain⟨c,e2,e3,e4⟩:=Zim h2
 obtain⟨e5,e6⟩:=Zgy h3
 match c,e3 with
 | [a,b],_=>
  subst e1 e2 e5
  have hf:=hB f (by simp)
  have ha:=hB a (by simp)
  have a0:=hB b (by simp)
  have hn:beF [a,b]=(x.length:Int):=by
   have:0≤beF [a,b]:=Zca (bs:=[a,b]) (fun y hy=>by simp at hy;rcases hy with rfl | rfl<;> assumption)
   rw[e4] at e6;omega
  refine⟨?_,?_⟩
  ·simp only[Ye,Zjl hf hb,←hn,Zn9 ha a0]
   simp
  ·rw[Ziw] at hn;simp only;omega
theorem Zsv {l r:List Int}{v:SetV×Bool}(h:setP l=some (v,r))(hB:Bytes l)(hb:v.2=false):l=setF v.1++r:=by
 simp only[setP,Prs.bind] at h
 split at h
 ·cases h
 rename_i n r1 h1
 split at h
 ·cases h
 rename_i nm r2 h2
 split at h
 ·cases h
 rename_i o r3 h3
 split at h
 ·cases h
 rename_i x r4 h4
 simp only[Prs.ret,Option.some.injEq,Prod.mk.injEq] at h
 obtain⟨rfl,rfl⟩:=h
 simp only[Bool.or_eq_false_iff] at hb
 have e1:=Zf6 h1
 obtain⟨e2,e3⟩:=Zgy h2
 subst e1 e2
 have hn:=hB n (by simp)
 have a0:Bytes (nm++r2):=hB.tail'
 obtain⟨e4,e5⟩:=Zjd h3 a0.right hb.1
 subst e4
 obtain⟨e6,e7⟩:=Zjd h4 a0.right.right hb.2
 subst e6
 simp only[setF,strOfNums_size,Zdb a0.left]
 rw[show((nm.length:Int) % 256)=n by omega]
 simp
theorem Zkq: ∀{n:Nat} {l r:List Int} {v:List SetV×Bool},Zbb n l=some (v,r)→Bytes l→v.2=false→l=Yc v.1++r∧v.1.length=n
 | 0,l,r,v,h,_,_=>by
  simp only[Zbb,Prs.ret,Option.some.injEq,Prod.mk.injEq] at h
  obtain⟨rfl,rfl⟩:=h
  simp[Yc]
 |n+1,l,r,v,h,hB,hb=>by
  simp only[Zbb,Prs.bind] at h
  split at h
  ·cases h
  rename_i x r1 h1
  split at h
  ·cases h
  rename_i y r2 h2
  simp only[Prs.ret,Option.some.injEq,Prod.mk.injEq] at h
  obtain⟨rfl,rfl⟩:=h
  simp only[Bool.or_eq_false_iff] at hb
  have e1:=Zsv h1 hB hb.1
  subst e1
  obtain⟨e2,e3⟩:=Zkq h2 hB.right hb.2
  subst e2
  exact⟨by simp[Yc],by simp[e3]⟩
theorem Zqs {l r:List Int}{v:BatchV×Bool}(h:Zdj l=some (v,r))(hB:Bytes l)(hb:v.2=false):l=encF v.1++r:=by
 simp only[Zdj,Prs.bind] at h
 split at h
 ·cases h
 rename_i e r1 h1
 split at h
 ·cases h
 rename_i f r2 h2
 split at h
 ·cases h
 rename_i c r3 h3
 split at h
 ·cases h
 rename_i y r4 h4
 simp only[Prs.ret,Option.some.injEq,Prod.mk.injEq] at h
 obtain⟨rfl,rfl⟩:=h
 simp only[Bool.or_eq_false_iff] at hb
 obtain⟨c8,e1,e2,e3⟩:=Zim h1
 have e4:=Zf6 h2
 have e5:=Zf6 h3
 subst e1 e4 e5
 have hf:=hB f (by simp)
 have hc:=hB c (by simp)
 have a0:Bytes r3:=fun x hx=>hB x (by simp[hx])
 obtain⟨e6,e7⟩:=Zkq h4 a0 hb.2
 subst e6
 have h8:=hB.left
 match c8,e2 with
 | [a,b,c',d,e',f',g,h'],_=>
  subst e3
  simp only[encF,Zjl hf hb.1,Zn8 h8,e7]
  rw[show((c.toNat:Int) % 256)=c by omega]
  simp
theorem Ziq {l:List Int}(hB:Bytes l)(h:(decF l).2=0):encF (decF l).1=l∧(decF l).1.right=true:=by
 cases hp:Zdj l with
 |none=>simp only[decF,hp] at h;cases h
 |some y=>
  obtain⟨b,r⟩:=y
  by_cases hc:(b.2 || decide (0<r.length) || !b.1.right)=true
  ·simp only[decF,hp,if_pos hc] at h;cases h
  ·simp only[decF,hp,if_neg hc]
   simp only[Bool.or_eq_true,decide_eq_true_eq,Bool.not_eq_true',not_or,Bool.not_eq_true,Bool.not_eq_false] at hc
   obtain⟨⟨k1,k2⟩,k3⟩:=hc
   have:=Zqs hp hB k1
   have hr:r=[]:=List.length_eq_zero_iff.1 (by omega)
   subst hr
   rw[List.append_nil] at this
   exact⟨this.symm,k3⟩
end
section
open Go.RowKit Go.Shelf
def BytesAt (w:World)(C:Nat→Prop)(v:Value)(bs:List Int):Prop:=
 (v=.slice none 0 0∧bs=[])∨ ∃g o c,C g∧v=.slice (some ⟨g,o,none⟩) bs.length c∧bs.length≤c∧c≤maxLen∧ ∀(i:Nat) u,(bcells bs)[i]?=some u→w.cell? ⟨g,o+i,none⟩=some u
theorem BytesAt.kept {F:Nat→Prop}{w w':World}{C:Nat→Prop}{v:Value}{bs:List Int}(h:BytesAt w C v bs)(hu:Upd F w w')(hg: ∀k,C k→ ¬F k):BytesAt w' C v bs:=by
 rcases h with h | ⟨g,o,c,h0,h1,h2,h3,h4⟩
 ·exact .inl h
 ·exact .inr ⟨g,o,c,h0,h1,h2,h3,fun i u hi=>Zo hu (hg g h0) (h4 i u hi)⟩
theorem BytesAt.mono {w:World}{C C':Nat→Prop}{v:Value}{bs:List Int}(h:BytesAt w C v bs)(hc: ∀k,C k→C' k):BytesAt w C' v bs:=by
 rcases h with h | ⟨g,o,c,h0,h1⟩
 ·exact .inl h
 ·exact .inr ⟨g,o,c,hc g h0,h1⟩
theorem BytesAt.bytesIn {w:World}{C:Nat→Prop}{v:Value}{bs:List Int}(h:BytesAt w C v bs):BytesIn w v bs:=by
 rcases h with h | ⟨g,o,c,h0,h1,h2,h3,h4⟩
 ·exact .inl h
 ·exact .inr ⟨⟨g,o,none⟩,c,h1,h2,h3,fun i u hi=>by rw[Addr.add_mid];exact h4 i u hi⟩
theorem BytesAt.slice {w:World}{C:Nat→Prop}{v:Value}{bs:List Int}(h:BytesAt w C v bs): ∃a c,v=.slice a bs.length c∧bs.length≤c∧c≤maxLen:=by
 rcases h with ⟨rfl,rfl⟩ | ⟨g,o,c,h0,h1,h2,h3,h4⟩
 ·exact⟨none,0,rfl,by simp,by unfold maxLen;omega⟩
 ·exact⟨_,c,h1,h2,h3⟩
theorem Za2 (W:World):(sizeOf (Tryz.prog.elem 39)).run Tryz.prog W=.ok 1 W:=by kernel_rfl
theorem Zbj:Tryz.prog.underlying 39=some (.slice (Tryz.prog.elem 39)):=by kernel_rfl
theorem BytesAt.front {w:World}{C:Nat→Prop}{v:Value}{bs:List Int}(h:BytesAt w C v bs){n:Nat}(hn:n≤bs.length):
  ∃u,(∀W,(Instr.slice 39 v none (some (.int .i64 n)) (some (.int .i64 n))).run Tryz.prog W=.ok u W)∧BytesAt w C u (bs.take n):=by
 have hl:(bs.take n).length=n:=by simp;omega
 rcases h with ⟨rfl,rfl⟩ | ⟨g,o,c,h0,rfl,h2,h3,h4⟩
 ·obtain rfl:n=0:=by simpa using hn
  refine⟨.slice none 0 0,fun W=>?_,.inl ⟨rfl,rfl⟩⟩
  have:=run_slice_hm W 39 none 0 0 Zbj .i64 .i64 0 0 (by omega) (by omega) (by omega)
  rw[show((0:Nat):Int)=0 from rfl,this,Za2]
  rfl
 ·refine⟨.slice (some ⟨g,o,none⟩) n n,fun W=>?_,.inr ⟨g,o,n,h0,by rw[hl],by rw[hl];omega,by omega,fun i u hi=>h4 i u ?_⟩⟩
  ·rw[run_slice_hm W 39 _ bs.length c Zbj .i64 .i64 n n (by omega) (by omega) (by omega),Za2]
   simp[Result.andThen,sliced]
   intro _
   rw[Addr.add_mid,Nat.add_zero]
  ·have a0:=(List.getElem?_eq_some_iff.1 hi).1
   simp only[bcells,List.length_map,hl] at a0
   simp only[bcells,List.getElem?_map,List.getElem?_take_of_lt a0] at hi ⊢
   exact hi
theorem BytesAt.rest {w:World}{C:Nat→Prop}{v:Value}{bs:List Int}(h:BytesAt w C v bs){n:Nat}(hn:n≤bs.length):
  ∃u,(∀W,(Instr.slice 39 v (some (.int .i64 n)) none none).run Tryz.prog W=.ok u W)∧BytesAt w C u (bs.drop n):=by
 have hl:(bs.drop n).length=bs.length - n:=by simp
 rcases h with ⟨rfl,rfl⟩ | ⟨g,o,c,h0,rfl,h2,h3,h4⟩
 ·obtain rfl:n=0:=by simpa using hn
  refine⟨.slice none 0 0,fun W=>?_,.inl ⟨rfl,rfl⟩⟩
  have:=run_slice_l W 39 none 0 0 Zbj .i64 0 (by omega) (by omega)
  rw[show((0:Nat):Int)=0 from rfl,this,Za2]
  rfl
 ·refine⟨.slice (some ⟨g,if c=n then o else o+n,none⟩) (bs.length - n) (c - n),fun W=>?_,.inr ⟨g,if c=n then o else o+n,c - n,h0,by rw[hl],by rw[hl];omega,by omega,fun i u hi=>?_⟩⟩
  ·rw[run_slice_l W 39 _ bs.length c Zbj .i64 n (by omega) (by omega),Za2]
   by_cases hc:c=n
   ·subst hc
    simp[Result.andThen,sliced]
   ·simp only[Result.andThen,sliced,if_neg hc]
    simp[hc,Addr.add_mid]
  ·have a0:=(List.getElem?_eq_some_iff.1 hi).1
   simp only[bcells,List.length_map,hl] at a0
   rw[if_neg (by omega),Nat.add_assoc]
   refine h4 (n+i) u ?_
   simp only[bcells,List.getElem?_map,List.getElem?_drop] at hi ⊢
   exact hi
def RdS (w:World)(r:Nat)(C:Nat→Prop)(st:Option (List Int)):Prop:=(¬C r∧ ∀k,C k→k<w.heap.size)∧
 match st with
 |some bs=> ∃v,w.heap[r]?=some (.cells #[v,.int .i64 0] 236 (0,0))∧BytesAt w C v bs∧Bytes bs
 |none=> ∃a n c,w.heap[r]?=some (.cells #[.slice a n c,.int .i64 7] 236 (0,0))
theorem RdS.kept {F:Nat→Prop}{w w':World}{r:Nat}{C:Nat→Prop}{st:Option (List Int)}(h:RdS w r C st)(hu:Upd F w w')(hr: ¬F r)(hg: ∀k,C k→ ¬F k):RdS w' r C st:=by
 obtain⟨h0,h⟩:=h
 refine⟨⟨h0.1,fun k hk=>Nat.lt_of_lt_of_le (h0.2 k hk) hu.size⟩,?_⟩
 cases st with
 |some bs=>
  obtain⟨v,h1,h3,h4⟩:=h
  exact⟨v,(hu.block _ (Za h1) hr).trans h1,h3.kept hu hg,h4⟩
 |none=>
  obtain⟨a,n,c,h1⟩:=h
  exact⟨a,n,c,(hu.block _ (Za h1) hr).trans h1⟩
theorem RdS.lt {w:World}{r:Nat}{C:Nat→Prop}{st:Option (List Int)}(h:RdS w r C st):r<w.heap.size:=by
 obtain⟨h0,h⟩:=h
 cases st with
 |some bs=>obtain⟨v,h1,_⟩:=h;exact Za h1
 |none=>obtain⟨a,n,c,h1⟩:=h;exact Za h1
def takeS (n:Nat):Option (List Int)→List Int×Option (List Int)
 |none=>([],none)
 |some bs=>if bs.length<n then([],none) else(bs.take n,some (bs.drop n))
def numS (n:Nat)(st:Option (List Int)):Int×Option (List Int):=(beF (takeS n st).1,(takeS n st).2)
theorem Zpm {x b:Int}(n:Nat)(hn:n≤56)(h0:0≤x)(h1:x<2 ^ n)(h2:0≤b)(h3:b≤255):bits .or .u64 x (b * 2 ^ n)=b * 2 ^ n+x:=by
 obtain⟨B,rfl⟩:=Int.eq_ofNat_of_zero_le h2
 obtain⟨X,rfl⟩:=Int.eq_ofNat_of_zero_le h0
 have e:(B:Int) * 2 ^ n=((2 ^ n * B:Nat):Int):=by rw[Int.mul_comm];push_cast;rfl
 have hX:X<2 ^ n:=by exact_mod_cast h1
 have a0:2 ^ n≤2 ^ 56:=Nat.pow_le_pow_right (by omega) hn
 have hm:2 ^ n * B≤2 ^ 56 * 255:=Nat.mul_le_mul a0 (by omega)
 rw[e,u64_or_nat _ _ (by omega) (by omega),Nat.or_comm,←Nat.two_pow_add_eq_or_of_lt hX]
 push_cast
 rfl
theorem Zqp {bx:Nat}{C:Nat→Prop}{v:Value}{bs:List Int}(w:World)(hv:BytesAt w C v bs)(hB:Bytes bs)(hl:bs.length≤8)(hx:w.heap[bx]?=some (.cells #[.int .u64 0] 53 (0,0)))(hne: ¬C bx):
  Calls Tryz.prog 181 #[v,.pointer (some ⟨bx,0,none⟩)] w fun e w'=>(∃v,e=.returned v)∧w'.heap[bx]?=some (.cells #[.int .u64 (beF bs)] 53 (0,0))∧Upd (fun k=>k=bx) w w':=by
 obtain⟨a,c,rfl,c0,a8⟩:=hv.slice
 have HV:=V hv;have HX:=V hx;have HB:=V hB;have HN:=V hne
 clear hv hB hx hne
 unfold maxLen at a8
 go_enter Tryz.func181,Tryz.ntmps181
 go_upto_region 1 with fail
 go_loopg [6] bs.length (fun gk i wr=> ∃k:Nat,k≤bs.length∧gk=bs.length - k∧i=.int .i64 k∧Upd (fun k=>k=bx) w wr∧wr.heap[bx]?=some (.cells #[.int .u64 (beF (bs.drop (bs.length - k)))] 53 (0,0)))
 case atStart=>exact⟨0,by omega,rfl,rfl,Upd.refl _ _,by simpa [beF] using HX.o⟩
 case round=>
  obtain⟨k,hk,rfl,rfl,hu,hc⟩:=hrel
  have a3:0≤beF (bs.drop (bs.length - k)):=Zca fun x hx=>HB.o x (List.mem_of_mem_drop hx)
  have a1:beF (bs.drop (bs.length - k))<2 ^ (8 * k):=by
   have:=Zia (bs:=bs.drop (bs.length - k)) fun x hx=>HB.o x (List.mem_of_mem_drop hx)
   rw[List.length_drop,show bs.length - (bs.length - k)=k by omega] at this
   rw[Int.pow_mul]
   exact this
  obtain⟨x,hx⟩: ∃x,x=beF (bs.drop (bs.length - k)):=⟨_,rfl⟩
  rw[←hx] at hc a3 a1
  have a4:=V hx;have a6:=V (And.intro a3 a1)
  clear hx a3 a1
  have c1:=Zf hc
  have f1:wr.frozen? ⟨bx,0,none⟩=false:=Zb hc
  have HU:=V hu;have HC:=V hc
  clear hu hc
  by_cases b2:k<bs.length
  ·have b0:(k:Int)<bs.length:=by omega
   obtain⟨j,hj⟩: ∃j,j=bs.length - 1 - k:=⟨_,rfl⟩
   have a2:j<bs.length:=by omega
   obtain⟨b,hb⟩: ∃b,bs[j]?=some b:=⟨_,List.getElem?_eq_getElem a2⟩
   have a0:=HB.o b (List.mem_of_getElem? hb)
   rcases HV.o with ⟨e,_⟩ | ⟨g,o,c',b1,e,_,_,a9⟩
   ·injection e with e1 e2 e3;omega
   injection e with e1 e2 e3
   subst e1 e3;clear e2
   have q:wr.cell? ⟨g,o+j,none⟩=some (.int .u8 b):=Zo HU.o (fun e=>HN.o (e ▸ b1)) (a9 _ _ (by simp[bcells,hb]))
   go_upto_region 3 with fail
   have b9:(bs.length:Int)≤8:=by omega
   have b7:IntKind.i64.wrap ((bs.length:Int) - 1)=((bs.length - 1:Nat):Int):=by rw[IntKind.wrap_i64];omega
   have b5:IntKind.i64.wrap (((bs.length - 1:Nat):Int) - k)=(j:Int):=by rw[IntKind.wrap_i64];omega
   have b4:IntKind.i64.wrap (8 * (k:Int))=((8 * k:Nat):Int):=by rw[IntKind.wrap_i64];omega
   have b3:IntKind.u64.wrap b=b:=by rw[IntKind.wrap_u64];omega
   have HJ:=V hj
   clear hj
   go_still_tail 14,(by kernel_rfl)
   go_wp2
   go_roundg (bs.length - (k+1))
   case measure=>omega
   case rel=>
    refine⟨k+1,by omega,rfl,congrArg _ (by omega),HU.o.trans (((Zd wr bx 0 _).drew)),?_⟩
    have a5:=a6.o
    have a7:(2:Int) ^ (8 * k)≤2 ^ 56:=by
     have:(2:Nat) ^ (8 * k)≤2 ^ 56:=Nat.pow_le_pow_right (by omega) (by omega)
     exact_mod_cast this
    have hp:(0:Int)≤2 ^ (8 * k):=Int.pow_nonneg (by omega)
    have b8:b * 2 ^ (8 * k)≤255 * 2 ^ 56:=Int.le_trans (Int.mul_le_mul_of_nonneg_right a0.2 hp) (Int.mul_le_mul_of_nonneg_left a7 (by omega))
    have b6:0≤b * 2 ^ (8 * k):=Int.mul_nonneg a0.1 hp
    have e1:IntKind.u64.wrap (b * 2 ^ (8 * k))=b * 2 ^ (8 * k):=by rw[IntKind.wrap_u64];omega
    have e2:bits .or .u64 x (b * 2 ^ (8 * k))=beF (bs.drop (bs.length - (k+1))):=by
     rw[Zpm (8 * k) (by omega) a5.1 a5.2 a0.1 a0.2]
     have hj:=HJ.o
     have:bs.drop (bs.length - (k+1))=b :: bs.drop (bs.length - k):=by
      rw[show bs.length - (k+1)=j by omega,List.drop_eq_getElem_cons a2,show j+1=bs.length - k by omega]
      rw[List.getElem?_eq_getElem a2] at hb
      injection hb with hb
      rw[hb]
     rw[this,Zev,←a4.o,List.length_drop,show bs.length - (bs.length - k)=k by omega,Int.pow_mul]
     rfl
    rw[e1,e2]
    have:=Ze (i:=0) (v:=.int .u64 (beF (bs.drop (bs.length - (k+1))))) HC.o
    simpa [World.drew] using this
  ·obtain rfl:k=bs.length:=by omega
   go_wp2
   refine bodyPost_end (results_none rfl _ _ _) rfl ?_
   have e:=a4.o
   rw[Nat.sub_self,List.drop_zero] at e
   exact⟨⟨_,rfl⟩,by rw[←e];exact HC.o,HU.o⟩
theorem BytesAt.slice' {w:World}{C:Nat→Prop}{v:Value}{bs:List Int}(h:BytesAt w C v bs): ∃a m c,v=.slice a m c:=by
 obtain⟨a,c,h1,_⟩:=h.slice
 exact⟨a,_,c,h1⟩
theorem Zm9 {r n:Nat}{C:Nat→Prop}{fv:Value}(w:World)(h:RdS w r C none):
  Calls Tryz.prog 149 #[.pointer (some ⟨r,0,none⟩),.int .i64 n,fv] w fun e w'=>(∃v,e=.returned v)∧w=w':=by
 obtain⟨h2,a,m,c,h1⟩:=h
 have c1:w.cell? ⟨r,1,none⟩=some (.int .i64 7):=by simp[World.cell?,h1]
 clear h1 h2
 go_enter Tryz.func149,Tryz.ntmps149
 go_wp2
 exact bodyPost_ret (v:=.tuple #[]) (by simp[results,Tryz.results149,go_sem]) rfl ⟨⟨_,rfl⟩,rfl⟩
theorem Zh1 {r n:Nat}{C:Nat→Prop}{bs:List Int}{fv:Value}(w:World)(h:RdS w r C (some bs))(hn:bs.length<n):
  Calls Tryz.prog 149 #[.pointer (some ⟨r,0,none⟩),.int .i64 n,fv] w fun e w'=>(∃v,e=.returned v)∧RdS w' r C none∧Upd (fun k=>k=r) w w':=by
 obtain⟨h2,v,h1,h3,h4⟩:=h
 obtain⟨a,c,rfl,a2,a1⟩:=h3.slice
 have c0:w.cell? ⟨r,0,none⟩=some (.slice a bs.length c):=by simp[World.cell?,h1]
 have c1:w.cell? ⟨r,1,none⟩=some (.int .i64 0):=by simp[World.cell?,h1]
 have f1:w.frozen? ⟨r,1,none⟩=false:=Zb h1
 have hz: ¬((n:Int)<0):=by omega
 have a0:(bs.length:Int)<n:=by omega
 have H1:=V h1;have H2:=V h2
 clear h1 h2 h3 h4
 go_enter Tryz.func149,Tryz.ntmps149
 go_wp2
 refine bodyPost_end (results_none rfl _ _ _) rfl ?_
 refine⟨⟨_,rfl⟩,⟨⟨H2.o.1,fun k hk=>Nat.lt_of_lt_of_le (H2.o.2 k hk) (Zd w r 1 _).size⟩,a,bs.length,c,?_⟩,Zd w r 1 _⟩
 have:=Ze (i:=1) (v:=.int .i64 7) H1.o
 simpa using this
theorem Zrx {r bx n:Nat}{C:Nat→Prop}{bs:List Int}(w:World)(h:RdS w r C (some bs))(hn:n≤bs.length)(h8:n≤8)(hx:w.heap[bx]?=some (.cells #[.int .u64 0] 53 (0,0)))(hgx: ¬C bx)(hrx:r≠bx):
  Calls Tryz.prog 149 #[.pointer (some ⟨r,0,none⟩),.int .i64 n,.func (.func 181) #[] #[.pointer (some ⟨bx,0,none⟩)]] w fun e w'=>(∃v,e=.returned v)∧w'.heap[bx]?=some (.cells #[.int .u64 (beF (bs.take n))] 53 (0,0))∧
   RdS w' r C (some (bs.drop n))∧Upd (fun k=>k=bx∨k=r) w w':=by
 obtain⟨h2,v,h1,h3,h4⟩:=h
 obtain⟨u1,a9,a5⟩:=h3.front hn
 obtain⟨u2,a4,a3⟩:=h3.rest hn
 obtain⟨a,c,rfl,b4,b3⟩:=h3.slice
 obtain⟨a2,m2,c2,rfl⟩:=a3.slice'
 have HC:=V (Zqp w a5 (fun x hx=>h4 x (List.mem_of_mem_take hx)) (by simp;omega) hx hgx)
 have c0:w.cell? ⟨r,0,none⟩=some (.slice a bs.length c):=by simp[World.cell?,h1]
 have c1:w.cell? ⟨r,1,none⟩=some (.int .i64 0):=by simp[World.cell?,h1]
 have hz: ¬((n:Int)<0):=by omega
 have b2: ¬((bs.length:Int)<n):=by omega
 have H1:=V h1;have H2:=V h2;have H4:=V h4;have b1:=V a3;have a7:=V a4;have a6:=V hrx;have b0:=V hgx
 clear h1 h2 h3 h4 a5 a3 a4 hrx hgx hx
 go_enter Tryz.func149,Tryz.ntmps149
 go_wp2_with (go_at_call 181;fail)
 refine HC.o.mono ?_
 rintro e w1 ⟨⟨v,rfl⟩,k1,k2⟩
 have a0:=(k2.block _ (Za H1.o) a6.o).trans H1.o
 have c0:w1.cell? ⟨r,0,none⟩=some (.slice a bs.length c):=by simp[World.cell?,a0]
 have f0:w1.frozen? ⟨r,0,none⟩=false:=Zb a0
 have a4:=a7.o
 have K1:=V k1;have K2:=V k2;have a8:=V a0
 clear k1 k2 a0 c1 a9 HC
 simp only[]
 go_wp2
 refine bodyPost_end (results_none rfl _ _ _) rfl ?_
 have a1:Upd (fun k=>k=r) w1 (w1.setCell ⟨r,0,none⟩ (.slice a2 m2 c2)):=Zd w1 r 0 _
 refine⟨⟨_,rfl⟩,?_,⟨⟨H2.o.1,fun k hk=>Nat.lt_of_lt_of_le (H2.o.2 k hk) (Nat.le_trans K2.out.size a1.size)⟩,_,?_,(b1.o.kept K2.out (fun k hk e=>b0.o (e ▸ hk))).kept a1 (fun k hk e=>H2.o.1 (e ▸ hk)),fun x hx=>H4.o x (List.mem_of_mem_drop hx)⟩,(K2.out.mono (fun _ _ e=>.inl e)).trans (a1.mono (fun _ _ e=>.inr e))⟩
 ·rw[Yd (by exact fun e=>a6.o e.symm)];exact K1.out
 ·have:=Ze (i:=0) (v:=.slice a2 m2 c2) a8.o
  simpa using this
theorem Zrg {bx m c:Nat}{a:Option Addr}{u:Value}(w:World)(hx:w.heap[bx]?=some (.cells #[u] 39 (0,0))):
  Calls Tryz.prog 150 #[.slice a m c,.pointer (some ⟨bx,0,none⟩)] w fun e w'=>(∃v,e=.returned v)∧w'.heap[bx]?=some (.cells #[.slice a m c] 39 (0,0))∧Upd (fun k=>k=bx) w w':=by
 have c1:=Zf hx
 have f1:w.frozen? ⟨bx,0,none⟩=false:=Zb hx
 have HX:=V hx
 clear hx
 go_enter Tryz.func150,Tryz.ntmps150
 go_wp2
 refine bodyPost_end (results_none rfl _ _ _) rfl ?_
 refine⟨⟨_,rfl⟩,?_,Zd w bx 0 _⟩
 have:=Ze (i:=0) (v:=.slice a m c) HX.o
 simpa using this
theorem Zrw {r bx n:Nat}{C:Nat→Prop}{bs:List Int}{x:Value}(w:World)(h:RdS w r C (some bs))(hn:n≤bs.length)(hx:w.heap[bx]?=some (.cells #[x] 39 (0,0)))(hgx: ¬C bx)(hrx:r≠bx):
  Calls Tryz.prog 149 #[.pointer (some ⟨r,0,none⟩),.int .i64 n,.func (.func 150) #[] #[.pointer (some ⟨bx,0,none⟩)]] w fun e w'=>(∃v,e=.returned v)∧(∃u,w'.heap[bx]?=some (.cells #[u] 39 (0,0))∧BytesAt w' C u (bs.take n))∧
   RdS w' r C (some (bs.drop n))∧Upd (fun k=>k=bx∨k=r) w w':=by
 obtain⟨h2,v,h1,h3,h4⟩:=h
 obtain⟨u1,b1,a4⟩:=h3.front hn
 obtain⟨u2,a6,a5⟩:=h3.rest hn
 obtain⟨a,c,rfl,b6,b5⟩:=h3.slice
 obtain⟨a2,m2,c2,rfl⟩:=a5.slice'
 obtain⟨a1,m1,c1,rfl⟩:=a4.slice'
 have HC:=V (Zrg (a:=a1) (m:=m1) (c:=c1) w hx)
 have c0:w.cell? ⟨r,0,none⟩=some (.slice a bs.length c):=by simp[World.cell?,h1]
 have c1:w.cell? ⟨r,1,none⟩=some (.int .i64 0):=by simp[World.cell?,h1]
 have hz: ¬((n:Int)<0):=by omega
 have b4: ¬((bs.length:Int)<n):=by omega
 have H1:=V h1;have H2:=V h2;have H4:=V h4;have b3:=V a4;have b2:=V a5;have a9:=V a6;have a7:=V hrx;have a8:=V hgx
 clear h1 h2 h3 h4 a4 a5 a6 hrx hgx hx
 go_enter Tryz.func149,Tryz.ntmps149
 go_wp2_with (go_at_call 150;fail)
 refine HC.o.mono ?_
 rintro e w1 ⟨⟨v,rfl⟩,k1,k2⟩
 have a3:=(k2.block _ (Za H1.o) a7.o).trans H1.o
 have c0:w1.cell? ⟨r,0,none⟩=some (.slice a bs.length c):=by simp[World.cell?,a3]
 have f0:w1.frozen? ⟨r,0,none⟩=false:=Zb a3
 have a6:=a9.o
 have K1:=V k1;have K2:=V k2;have b0:=V a3
 clear k1 k2 a3 c1 b1 HC
 simp only[]
 go_wp2
 refine bodyPost_end (results_none rfl _ _ _) rfl ?_
 have a0:Upd (fun k=>k=r) w1 (w1.setCell ⟨r,0,none⟩ (.slice a2 m2 c2)):=Zd w1 r 0 _
 refine⟨⟨_,rfl⟩,⟨_,?_,(b3.o.kept K2.out (fun k hk e=>a8.o (e ▸ hk))).kept a0 (fun k hk e=>H2.o.1 (e ▸ hk))⟩,⟨⟨H2.o.1,fun k hk=>Nat.lt_of_lt_of_le (H2.o.2 k hk) (Nat.le_trans K2.out.size a0.size)⟩,_,?_,(b2.o.kept K2.out (fun k hk e=>a8.o (e ▸ hk))).kept a0 (fun k hk e=>H2.o.1 (e ▸ hk)),fun x hx=>H4.o x (List.mem_of_mem_drop hx)⟩,(K2.out.mono (fun _ _ e=>.inl e)).trans (a0.mono (fun _ _ e=>.inr e))⟩
 ·rw[Yd (by exact fun e=>a7.o e.symm)];exact K1.out
 ·have:=Ze (i:=0) (v:=.slice a2 m2 c2) b0.o
  simpa using this
def Zul (w:World)(r:Nat)(C:Nat→Prop)(bx n:Nat)(st:Option (List Int))(w':World):Prop:=
 w'.heap[bx]?=some (.cells #[.int .u64 (numS n st).1] 53 (0,0))∧RdS w' r C (numS n st).2∧Upd (fun k=>k=bx∨k=r) w w'
theorem Zp9 {r bx n:Nat}{C:Nat→Prop}{st:Option (List Int)}(w:World)(h:RdS w r C st)(h8:n≤8)(hx:w.heap[bx]?=some (.cells #[.int .u64 0] 53 (0,0)))(hgx: ¬C bx)(hrx:r≠bx):
  Calls Tryz.prog 149 #[.pointer (some ⟨r,0,none⟩),.int .i64 n,.func (.func 181) #[] #[.pointer (some ⟨bx,0,none⟩)]] w fun e w'=>(∃v,e=.returned v)∧Zul w r C bx n st w':=by
 cases st with
 |none=>
  refine(Zm9 w h).mono ?_
  rintro e w' ⟨h1,rfl⟩
  exact⟨h1,by simpa [numS,takeS,beF] using hx,h,Upd.refl _ _⟩
 |some bs=>
  by_cases hn:bs.length<n
  ·refine(Zh1 w h hn).mono ?_
   rintro e w' ⟨h1,h2,h3⟩
   have e:numS n (some bs)=(0,none):=by simp[numS,takeS,hn,beF]
   exact⟨h1,by rw[e];exact(h3.block _ (Za hx) (fun e=>hrx e.symm)).trans hx,by rw[e];exact h2,h3.mono (fun _ _ e=>.inr e)⟩
  ·refine(Zrx w h (by omega) h8 hx hgx hrx).mono ?_
   rintro e w' ⟨h1,h2,h3,h4⟩
   have e:numS n (some bs)=(beF (bs.take n),some (bs.drop n)):=by simp[numS,takeS,hn]
   exact⟨h1,by rw[e];exact h2,by rw[e];exact h3,h4⟩
def rawQ (w:World)(r:Nat)(C:Nat→Prop)(bx n:Nat)(st:Option (List Int))(w':World):Prop:=
 (∃u,w'.heap[bx]?=some (.cells #[u] 39 (0,0))∧BytesAt w' C u (takeS n st).1)∧RdS w' r C (takeS n st).2∧Upd (fun k=>k=bx∨k=r) w w'
theorem Zp8 {r bx n:Nat}{C:Nat→Prop}{st:Option (List Int)}(w:World)(h:RdS w r C st)(hx:w.heap[bx]?=some (.cells #[.slice none 0 0] 39 (0,0)))(hgx: ¬C bx)(hrx:r≠bx):
  Calls Tryz.prog 149 #[.pointer (some ⟨r,0,none⟩),.int .i64 n,.func (.func 150) #[] #[.pointer (some ⟨bx,0,none⟩)]] w fun e w'=>(∃v,e=.returned v)∧rawQ w r C bx n st w':=by
 cases st with
 |none=>
  refine(Zm9 w h).mono ?_
  rintro e w' ⟨h1,rfl⟩
  exact⟨h1,⟨_,hx,.inl ⟨rfl,rfl⟩⟩,h,Upd.refl _ _⟩
 |some bs=>
  by_cases hn:bs.length<n
  ·refine(Zh1 w h hn).mono ?_
   rintro e w' ⟨h1,h2,h3⟩
   have e:takeS n (some bs)=([],none):=by simp[takeS,hn]
   exact⟨h1,⟨_,(h3.block _ (Za hx) (fun e=>hrx e.symm)).trans hx,by rw[e];exact .inl ⟨rfl,rfl⟩⟩,by rw[e];exact h2,h3.mono (fun _ _ e=>.inr e)⟩
  ·refine(Zrw w h (by omega) hx hgx hrx).mono ?_
   rintro e w' ⟨h1,h2,h3,h4⟩
   have e:takeS n (some bs)=(bs.take n,some (bs.drop n)):=by simp[takeS,hn]
   exact⟨h1,by rw[e];exact h2,by rw[e];exact h3,h4⟩
theorem Ym {n:Nat}{st:Option (List Int)}(hB: ∀bs,st=some bs→Bytes bs):0≤(numS n st).1∧(numS n st).1<256 ^ n:=by
 have hp:(0:Int)<256 ^ n:=Int.pow_pos (by omega)
 cases st with
 |none=>simp[numS,takeS,beF];exact hp
 |some bs=>
  have hb:=hB bs rfl
  simp only[numS,takeS]
  split
  ·simp[beF];exact hp
  ·have h1:=Zca (bs:=bs.take n) fun x hx=>hb x (List.mem_of_mem_take hx)
   have h2:=Zia (bs:=bs.take n) fun x hx=>hb x (List.mem_of_mem_take hx)
   rw[List.length_take,show min n bs.length=n by omega] at h2
   exact⟨h1,h2⟩
theorem RdS.bytes {w:World}{r:Nat}{C:Nat→Prop}{st:Option (List Int)}(h:RdS w r C st): ∀bs,st=some bs→Bytes bs:=by
 rintro bs rfl
 obtain⟨_,v,_,_,h4⟩:=h
 exact h4
theorem Zls {r n:Nat}{C:Nat→Prop}{st:Option (List Int)}{m:Int}(w:World)(h:RdS w r C st)(h8:n≤8)(hm:m.tdiv 8=n):
  Calls Tryz.prog 148 #[.pointer (some ⟨r,0,none⟩),.int .i64 m] w fun e w'=>e=.returned (.int .u64 (numS n st).1)∧RdS w' r C (numS n st).2∧Upd (fun k=>k=r) w w':=by
 obtain⟨w1,a2,a0,a3⟩:=nb w (.cells #[.int .u64 0] 53)
 have a1:=h.lt
 have hC:=h.1.2
 have h1:=h.kept a0 id n3Z
 have HG:=V (Zp9 w1 h1 h8 a3 (fun e=>by have:=hC _ e;omega) (by omega))
 have a4:=V a2;have a5:=V a0;have a6:=V a1;have HC:=V hC
 clear a2 a0 a3 a1 hC h1 h
 go_enter Tryz.func148,Tryz.ntmps148
 go_wp2_with (go_at_call 149;fail)
 rw[←a4.o]
 refine HG.o.mono ?_
 rintro e w2 ⟨⟨v,rfl⟩,h2,h3,h4⟩
 have c0:=Zf h2
 have H3:=V h3;have H4:=V h4
 clear h2 h3 h4 HG
 simp only[]
 go_wp2
 go_ret
 exact⟨rfl,H3.o,(a5.o.mono (F:=fun _=>False) (G:=fun k=>k=r) (fun _ _ e=>e.elim)).step H4.o (fun k hk e=>by rcases e with e | e;omega;exact e)⟩
theorem Ztx {r:Nat}{C:Nat→Prop}{st:Option (List Int)}(w:World)(h:RdS w r C st):
  Calls Tryz.prog 91 #[.pointer (some ⟨r,0,none⟩)] w fun e w'=>e=.returned (.int .u8 (numS 1 st).1)∧RdS w' r C (numS 1 st).2∧Upd (fun k=>k=r) w w':=by
 have HC:=V (Zls (n:=1) (m:=8) w h (by omega) rfl)
 have hb:=Ym (n:=1) h.bytes
 obtain⟨x,hx⟩: ∃x,x=(numS 1 st).1:=⟨_,rfl⟩
 rw[←hx] at HC hb ⊢
 have a0:IntKind.u8.wrap x=x:=by rw[IntKind.wrap_u8];omega
 clear h hb hx
 go_enter Tryz.func91,Tryz.ntmps91
 go_wp2_with (go_at_call 148;fail)
 refine HC.o.mono ?_
 rintro e w2 ⟨rfl,h1,h2⟩
 have H1:=V h1;have H2:=V h2
 clear h1 h2 HC
 simp only[]
 go_wp2
 go_ret
 exact⟨rfl,H1.o,H2.o⟩
theorem Zui {r:Nat}{C:Nat→Prop}{st:Option (List Int)}(w:World)(h:RdS w r C st):
  Calls Tryz.prog 151 #[.pointer (some ⟨r,0,none⟩)] w fun e w'=>e=.returned (.int .u16 (numS 2 st).1)∧RdS w' r C (numS 2 st).2∧Upd (fun k=>k=r) w w':=by
 have HC:=V (Zls (n:=2) (m:=16) w h (by omega) rfl)
 have hb:=Ym (n:=2) h.bytes
 obtain⟨x,hx⟩: ∃x,x=(numS 2 st).1:=⟨_,rfl⟩
 rw[←hx] at HC hb ⊢
 have a0:IntKind.u16.wrap x=x:=by rw[IntKind.wrap_u16];omega
 clear h hb hx
 go_enter Tryz.func151,Tryz.ntmps151
 go_wp2_with (go_at_call 148;fail)
 refine HC.o.mono ?_
 rintro e w2 ⟨rfl,h1,h2⟩
 have H1:=V h1;have H2:=V h2
 clear h1 h2 HC
 simp only[]
 go_wp2
 go_ret
 exact⟨rfl,H1.o,H2.o⟩
theorem Zug {r:Nat}{C:Nat→Prop}{st:Option (List Int)}(w:World)(h:RdS w r C st):
  Calls Tryz.prog 89 #[.pointer (some ⟨r,0,none⟩)] w fun e w'=>e=.returned (.int .u64 (numS 8 st).1)∧RdS w' r C (numS 8 st).2∧Upd (fun k=>k=r) w w':=by
 have HC:=V (Zls (n:=8) (m:=64) w h (by omega) rfl)
 clear h
 go_enter Tryz.func89,Tryz.ntmps89
 go_wp2_with (go_at_call 148;fail)
 refine HC.o.mono ?_
 rintro e w2 ⟨rfl,h1,h2⟩
 have H1:=V h1;have H2:=V h2
 clear h1 h2 HC
 simp only[]
 go_wp2
 go_ret
 exact⟨rfl,H1.o,H2.o⟩
theorem Znu {w:World}{b:Nat}{v:Value}(h:w.heap[b]?=some (.cells #[v] 39 (0,0))):(loadVar 39 ⟨b,0,none⟩).run Tryz.prog w=.ok v w:=by
 have:=Zf h
 go_simp
theorem Zsg {r n:Nat}{C:Nat→Prop}{st:Option (List Int)}(w:World)(h:RdS w r C st):
  Calls Tryz.prog 92 #[.pointer (some ⟨r,0,none⟩),.int .i64 n] w fun e w'=> ∃u,e=.returned u∧BytesAt w' C u (takeS n st).1∧RdS w' r C (takeS n st).2∧Upd (fun k=>k=r) w w':=by
 obtain⟨w1,a5,a0,a3⟩:=nb w (.cells #[.slice none 0 0] 39)
 have a4:=h.lt
 have hC:=h.1.2
 have h1:=h.kept a0 id n3Z
 have HG:=V (Zp8 (n:=n) w1 h1 a3 (fun e=>by have:=hC _ e;omega) (by omega))
 have a7:=V a5;have a8:=V a0;have a6:=V a4;have HC:=V hC
 clear a5 a0 a3 a4 hC h1 h
 go_enter Tryz.func92,Tryz.ntmps92
 go_wp2_with (go_at_call 149;fail)
 rw[←a7.o]
 refine HG.o.mono ?_
 rintro e w2 ⟨⟨v,rfl⟩,⟨u,h2,hb⟩,h3,h4⟩
 obtain⟨a,m,c,rfl⟩:=hb.slice'
 have c0:=Zf h2
 have f0:w2.frozen? ⟨w.heap.size,0,none⟩=false:=Zb h2
 have H2:=V h2;have H3:=V h3;have H4:=V h4;have HB:=V hb
 clear h2 h3 h4 hb HG
 simp only[]
 go_wp2
 have a1:Upd (fun k=>k=w.heap.size) w2 (w2.setCell ⟨w.heap.size,0,none⟩ (.slice a m c)):=Zd _ _ _ _
 have a2: ∀k,C k→ ¬k=w.heap.size:=fun k hk e=>by have:=HC.o k hk;omega
 refine bodyPost_ret (v:=.slice a m c) (Yt rfl rfl ?_) rfl ⟨_,rfl,HB.o.kept a1 a2,H3.o.kept a1 (fun e=>by have:=a6.o;omega) a2,(a8.o.mono (F:=fun _=>False) (G:=fun k=>k=r) (fun _ _ e=>e.elim)).step (H4.o.step a1 (fun k _ e=>.inl e)) (fun k hk e=>by rcases e with e | e;omega;exact e)⟩
 have:=Ze (i:=0) (v:=.slice a m c) H2.o
 have h9:(w2.setCell ⟨w.heap.size,0,none⟩ (.slice a m c)).heap[w.heap.size]?=some (.cells #[.slice a m c] 39 (0,0)):=by simpa using this
 exact Znu h9
def errS (st:Option (List Int)):Int:=if st.isSome then 0 else 7
theorem Zsi {r:Nat}{C:Nat→Prop}{st:Option (List Int)}(w:World)(h:RdS w r C st):
  Calls Tryz.prog 94 #[.pointer (some ⟨r,0,none⟩)] w fun e w'=>e=.returned (.int .i64 (errS st))∧w=w':=by
 have c1:w.cell? ⟨r,1,none⟩=some (.int .i64 (errS st)):=by
  cases st with
  |none=>obtain⟨_,a,n,c,h1⟩:=h;simp[World.cell?,h1,errS]
  |some bs=>obtain⟨_,v,h1,_⟩:=h;simp[World.cell?,h1,errS]
 clear h
 generalize errS st=x at *
 go_enter Tryz.func94,Tryz.ntmps94
 go_wp2
 go_ret
 exact⟨rfl,rfl⟩
theorem Zt0 {r:Nat}{C:Nat→Prop}{bs:List Int}(w:World)(h:RdS w r C (some bs))(hl:bs.length≤1099511627776):
  Calls Tryz.prog 152 #[.pointer (some ⟨r,0,none⟩)] w fun e w'=> ∃a c,e=.returned (.slice a bs.length c)∧U0 w w':=by
 obtain⟨_,v,h1,h3,h4⟩:=h
 have HC:=V (Y4 w hl h3.bytesIn)
 obtain⟨a,c,rfl,_,_⟩:=h3.slice
 have c0:w.cell? ⟨r,0,none⟩=some (.slice a bs.length c):=by simp[World.cell?,h1]
 clear h1 h3 h4
 go_enter Tryz.func152,Tryz.ntmps152
 go_wp2_with (go_at_call 99;fail)
 refine HC.o.mono ?_
 rintro e w1 ⟨u,rfl,ho,hu,hU⟩
 obtain⟨a2,c2,rfl⟩:=ho.slice'
 have HU:=V hU
 clear ho hu hU HC
 simp only[]
 go_wp2
 go_ret
 exact⟨_,_,rfl,HU.o⟩
theorem Zt6 {r:Nat}{C:Nat→Prop}{bs:List Int}(w:World)(h:RdS w r C (some bs))(hl:bs.length≤1099511627776):
  Calls Tryz.prog 95 #[.pointer (some ⟨r,0,none⟩)] w fun e w'=>e=.returned (.int .i64 bs.length)∧U0 w w':=by
 have HC:=V (Zt0 w h hl)
 clear h
 go_enter Tryz.func95,Tryz.ntmps95
 go_wp2_with (go_at_call 152;fail)
 refine HC.o.mono ?_
 rintro e w1 ⟨a,c,rfl,hU⟩
 have HU:=V hU
 clear hU HC
 simp only[]
 go_wp2
 go_ret
 exact⟨rfl,HU.o⟩
theorem Zg {w:World}{b:Nat}{x0 x1:Value}{t:TypeId}(h:w.heap[b]?=some (.cells #[x0,x1] t (0,0))):w.cell? ⟨b,0,none⟩=some x0∧w.cell? ⟨b,1,none⟩=some x1:=by simp[World.cell?,h]
def RbS (w:World)(rb r:Nat)(C:Nat→Prop)(st:Option (List Int))(bad:Bool):Prop:=
 w.heap[rb]?=some (.cells #[.pointer (some ⟨r,0,none⟩),.bool bad] 161 (0,0))∧r≠rb∧ ¬C rb∧RdS w r C st
theorem RbS.kept {F:Nat→Prop}{w w':World}{rb r:Nat}{C:Nat→Prop}{st:Option (List Int)}{bad:Bool}(h:RbS w rb r C st bad)(hu:Upd F w w')(hrb: ¬F rb)(hr: ¬F r)(hg: ∀k,C k→ ¬F k):RbS w' rb r C st bad:=
 ⟨(hu.block _ (Za h.1) hrb).trans h.1,h.2.1,h.2.2.1,h.2.2.2.kept hu hr hg⟩
theorem RbS.lt {w:World}{rb r:Nat}{C:Nat→Prop}{st:Option (List Int)}{bad:Bool}(h:RbS w rb r C st bad):rb<w.heap.size:=Za h.1
theorem Zqc {rb r:Nat}{C:Nat→Prop}{st:Option (List Int)}{bad:Bool}(w:World)(h:RbS w rb r C st bad):
  Calls Tryz.prog 90 #[.pointer (some ⟨rb,0,none⟩)] w fun e w'=>e=.returned (.bool ((numS 1 st).1 == 1))∧RbS w' rb r C (numS 1 st).2 (bad || decide (1<(numS 1 st).1))∧Upd (fun k=>k=r∨k=rb) w w':=by
 obtain⟨h1,h2,h3,h4⟩:=h
 have HC:=V (Ztx w h4)
 have hb:=Ym (n:=1) h4.bytes
 obtain⟨x,hx⟩: ∃x,x=(numS 1 st).1:=⟨_,rfl⟩
 rw[←hx] at HC hb ⊢
 have c0:=(Zg h1).1
 have H1:=V h1;have H2:=V h2;have H3:=V h3
 clear h1 h2 h3 h4 hx
 go_enter Tryz.func90,Tryz.ntmps90
 go_wp2_with (go_at_call 91;fail)
 refine HC.o.mono ?_
 rintro e w1 ⟨rfl,k1,k2⟩
 have a0:=(k2.block _ (Za H1.o) (fun e=>H2.o (show rb=r from e).symm)).trans H1.o
 have c1:=(Zg a0).2
 have f1:w1.frozen? ⟨rb,1,none⟩=false:=Zb a0
 have K1:=V k1;have K2:=V k2;have HM:=V a0
 clear k1 k2 a0 HC c0
 simp only[]
 have a1: ∀b':Bool,b'=(bad || decide (1<x))→RbS (w1.setCell ⟨rb,1,none⟩ (.bool b')) rb r C (numS 1 st).2 (bad || decide (1<x))∧Upd (fun k=>k=r∨k=rb) w (w1.setCell ⟨rb,1,none⟩ (.bool b')):=by
  rintro b' rfl
  have hu:Upd (fun k=>k=rb) w1 (w1.setCell ⟨rb,1,none⟩ (.bool (bad || decide (1<x)))):=Zd _ _ _ _
  refine⟨⟨?_,H2.o,H3.o,K1.out.kept hu H2.o (fun k hk e=>H3.o (e ▸ hk))⟩,(K2.out.mono (fun _ _ e=>.inl e)).trans (hu.mono (fun _ _ e=>.inr e))⟩
  have:=Ze (i:=1) (v:=.bool (bad || decide (1<x))) HM.o
  simpa using this
 have a2:=V a1
 clear a1
 cases bad with
 |true=>
  go_wp2
  go_ret
  exact⟨rfl,a2.out _ rfl⟩
 |false=>
  go_wp2
  go_ret
  exact⟨rfl,a2.out _ (by simp)⟩
theorem Yr {n:Nat}{st:Option (List Int)}(h: ∀bs,st=some bs→Bytes bs): ∀bs,(takeS n st).2=some bs→Bytes bs:=by
 intro bs hb
 cases st with
 |none=>simp[takeS] at hb
 |some l=>
  simp only[takeS] at hb
  split at hb
  ·cases hb
  ·injection hb with hb
   subst hb
   exact fun x hx=>h l rfl x (List.mem_of_mem_drop hx)
def Z8 (st:Option (List Int))(bad:Bool):Bool×List Int×Option (List Int)×Bool:=
 ((numS 1 st).1 == 1,(takeS (numS 2 (numS 1 st).2).1.toNat (numS 2 (numS 1 st).2).2).1,(takeS (numS 2 (numS 1 st).2).1.toNat (numS 2 (numS 1 st).2).2).2,bad || decide (1<(numS 1 st).1))
theorem Zm5 {rb r:Nat}{C:Nat→Prop}{st:Option (List Int)}{bad:Bool}(w:World)(h:RbS w rb r C st bad):
  Calls Tryz.prog 93 #[.pointer (some ⟨rb,0,none⟩)] w fun e w'=> ∃u,e=.returned (.tuple #[.bool (Z8 st bad).1,u])∧BytesAt w' C u (Z8 st bad).2.1∧RbS w' rb r C (Z8 st bad).2.2.1 (Z8 st bad).2.2.2∧Upd (fun k=>k=r∨k=rb) w w':=by
 have HC:=V (Zqc w h)
 simp only[Z8]
 obtain⟨fl,a7⟩: ∃fl,fl=((numS 1 st).1 == 1):=⟨_,rfl⟩
 obtain⟨b2,a8⟩: ∃b2,b2=(bad || decide (1<(numS 1 st).1)):=⟨_,rfl⟩
 obtain⟨s1,a3⟩: ∃s1,s1=(numS 1 st).2:=⟨_,rfl⟩
 rw[←a7,←a8,←a3] at HC ⊢
 have hb:=Ym (n:=2) (st:=s1) (by rw[a3];exact Yr h.2.2.2.bytes)
 obtain⟨n2,a1⟩: ∃n2,n2=(numS 2 s1).1:=⟨_,rfl⟩
 obtain⟨s2,a4⟩: ∃s2,s2=(numS 2 s1).2:=⟨_,rfl⟩
 have a2:RowKit.Hid (∀W,RdS W r C s1→Calls Tryz.prog 151 #[.pointer (some ⟨r,0,none⟩)] W fun e w'=>e=.returned (.int .u16 n2)∧RdS w' r C s2∧Upd (fun k=>k=r) W w'):=V (by
  intro W hW
  have q:=Zui W hW
  rw[←a1,←a4] at q
  exact q)
 rw[←a1] at hb
 rw[←a1,←a4]
 have a9:((n2.toNat:Nat):Int)=n2:=by omega
 have b1:IntKind.i64.wrap n2=n2:=by rw[IntKind.wrap_i64];omega
 have a5:RowKit.Hid (∀W,RdS W r C s2→Calls Tryz.prog 92 #[.pointer (some ⟨r,0,none⟩),.int .i64 n2] W fun e w'=> ∃u,e=.returned u∧BytesAt w' C u (takeS n2.toNat s2).1∧RdS w' r C (takeS n2.toNat s2).2∧Upd (fun k=>k=r) W w'):=V (by
  intro W hW
  have q:=Zsg (n:=n2.toNat) W hW
  rw[a9] at q
  exact q)
 clear h a7 a8 a3 a1 a4 hb a9
 go_enter Tryz.func93,Tryz.ntmps93
 go_wp2_with (go_at_call 90;fail)
 refine HC.o.mono ?_
 rintro e w1 ⟨rfl,h2,hu⟩
 have HU:=V hu;have HN:=V h2.2.1;have b0:=V h2.2.2.1
 have hA:w1.drew.heap[rb]?=some (.cells #[.pointer (some ⟨r,0,none⟩),.bool b2] 161 (0,0)):=h2.1
 have H2:=V h2.2.2.2
 clear h2
 clear hu HC
 go_upto_region 2 with fail
 refine Zj 12 (fun W=>W.heap[rb]?=some (.cells #[.pointer (some ⟨r,0,none⟩),.bool b2] 161 (0,0))) [false,false,false,false,false,false,false,false,false,false,false,false,false,false] rfl (by kernel_rfl) ?_
 refine tpZ 0 (.bool fl) hA ?_
 simp only[zz]
 refine tpZ 1 (.pointer (some ⟨rb,0,none⟩)) hA ?_
 simp only[zz]
 refine tpZ 2 (.pointer (some ⟨rb,0,none⟩)) hA ?_
 simp only[zz]
 refine tpZ 3 (.pointer (some ⟨rb,0,none⟩)) hA ?_
 simp only[zz]
 refine tqZ 4 (.pointer (some ⟨r,0,none⟩)) [11] hA (fun w5 q1=>?_) ?_
 ·have cc:=Zg q1
  have c0:=cc.1
  go_simp
 simp only[zz]
 refine tpZ 5 (.pointer (some ⟨rb,0,none⟩)) hA ?_
 simp only[zz]
 refine tpZ 6 (.pointer (some ⟨rb,0,none⟩)) hA ?_
 simp only[zz]
 refine tpZ 7 (.pointer (some ⟨rb,0,none⟩)) hA ?_
 simp only[zz]
 refine tqZ 8 (.pointer (some ⟨r,0,none⟩)) [11,9] hA (fun w5 q1=>?_) ?_
 ·have cc:=Zg q1
  have c0:=cc.1
  go_simp
 simp only[zz]
 refine diZ 9 (fun K HKK=>?_)
 go_step
 refine(a2.o _ (H2.o.kept ((Upd.refl (fun _=>False) w1).drew) id n3Z)).mono ?_
 rintro e w2 ⟨rfl,k1,k2⟩
 have a0:=(k2.block _ (Za hA) (fun e=>HN.o (show rb=r from e).symm)).trans hA
 have K1:=V k1;have K2:=V k2
 clear k1 k2
 simp only[]
 refine HKK.o _ _ a0 ?_
 clear HKK
 simp only[zz]
 refine tpZ 10 (.int .i64 n2) a0 ?_
 simp only[zz]
 refine diZ 11 (fun K HKK=>?_)
 go_step
 refine(a5.o _ K1.out).mono ?_
 rintro e w3 ⟨u,rfl,m1,m2,m3⟩
 obtain⟨ua,um,uc,rfl⟩:=m1.slice'
 have a6:=(m3.block _ (Za a0) (fun e=>HN.o (show rb=r from e).symm)).trans a0
 have M1:=V m1;have M2:=V m2;have M3:=V m3
 clear m1 m2 m3
 simp only[]
 refine HKK.o _ _ a6 ?_
 clear HKK
 simp only[zz]
 refine tlZ 12 ?_
 simp only[List.drop]
 go_wp2
 go_returns
 exact⟨_,rfl,M1.out,⟨a6,HN.o,b0.o,M2.out⟩,HU.o.trans (((Upd.refl (fun k=>k=r) w1).drew.trans (K2.out.trans M3.out)).mono (fun _ _ e=>.inl e))⟩
theorem Zj3 {o:Oper}{a:Act}{w:World}{x y:Operand}{rt:TypeId}{xs ys:List Int}(ho:o.op=.binOp .eql 48 x y rt)(hx:a.eval x=.agg (bcells xs).toArray)(hy:a.eval y=.agg (bcells ys).toArray)(h1:xs.length=64)(h2:ys.length=64):
  (execOp a.eval o).run Tryz.prog w=.ok (.value (.bool (xs == ys))) w:=by
 have hr:(binOp .eql 48 (.agg (bcells xs).toArray) (.agg (bcells ys).toArray)).run Tryz.prog w=.ok (.bool (xs == ys)) w:=by
  rw[run_eql_struct,Zlj w h1 h2];rfl
 have hg:=run_eqGuard_agg (P:=Tryz.prog) w .eql 48 x y (bcells xs).toArray (bcells ys).toArray (by kernel_rfl)
 simp[execOp,ho,hx,hy,hg,hr,Result.andThen]
def be (bs:List Int):Int:=match bs with
 |b0 :: b1 :: b2 :: b3 :: _=>be4 b0 b1 b2 b3 4
 | _=>0
def readF (bs:List Int):Hd:=⟨be (bs.drop 8),be (bs.drop 12),be (bs.drop 16),be (bs.drop 20)⟩
structure Hd.Says (h:Hd):Prop where
 turn:1≤h.turn∧h.turn≤1073741824
 area:4≤h.area∧h.area≤1000
 place:h.place<2 * h.area
 number:1≤h.number∧h.number≤1073741824
open Classical in
noncomputable def hOk (bs:List Int):Bool:=decide ((readF bs).Says∧headF (readF bs)=bs)
theorem Zci (bs:List Int):hOk bs=true↔(readF bs).Says∧headF (readF bs)=bs:=by simp[hOk]
theorem Zl5 (g:Nat)(W:World):(Instr.sliceAt 48 (.pointer (some ⟨g,0,none⟩)) (some (.int .i64 8)) none none).run Tryz.prog W=.ok (.slice (some ⟨g,8,none⟩) 56 56) W:=by
 have hz:(sizeOf (Tryz.prog.elem 48)).run Tryz.prog W=.ok 1 W:=by kernel_rfl
 have hu:Tryz.prog.underlying 48=some (.array (Tryz.prog.arrayLen 48) (Tryz.prog.elem 48)):=by kernel_rfl
 have hn:Tryz.prog.arrayLen 48=64:=by kernel_rfl
 rw[run_sliceAt_array_l W 48 _ hu .i64 8 (by omega) (by rw[hn];omega),hz,hn]
 rfl
theorem Zsr {bs:List Int}(h:bs.length=64): ∃p a0 a1 a2 a3 b0 b1 b2 b3 c0 c1 c2 c3 d0 d1 d2 d3 r,bs=p++a0 :: a1 :: a2 :: a3 :: b0 :: b1 :: b2 :: b3 :: c0 :: c1 :: c2 :: c3 :: d0 :: d1 :: d2 :: d3 :: r∧p.length=8:=by
 have e:bs=bs.take 8++bs.drop 8:=(List.take_append_drop 8 bs).symm
 have hd:(bs.drop 8).length=56:=by simp;omega
 have ht:(bs.take 8).length=8:=by simp;omega
 generalize bs.drop 8=y at e hd
 generalize bs.take 8=p at e ht
 match y,hd with
 |a0 :: a1 :: a2 :: a3 :: b0 :: b1 :: b2 :: b3 :: c0 :: c1 :: c2 :: c3 :: d0 :: d1 :: d2 :: d3 :: r,_=>exact⟨p,a0,a1,a2,a3,b0,b1,b2,b3,c0,c1,c2,c3,d0,d1,d2,d3,r,e,ht⟩
theorem Zmb {p:List Int}(hp:p.length=8)(a0 a1 a2 a3 b0 b1 b2 b3 c0 c1 c2 c3 d0 d1 d2 d3:Int)(r:List Int):
  readF (p++a0 :: a1 :: a2 :: a3 :: b0 :: b1 :: b2 :: b3 :: c0 :: c1 :: c2 :: c3 :: d0 :: d1 :: d2 :: d3 :: r)=⟨be4 a0 a1 a2 a3 4,be4 b0 b1 b2 b3 4,be4 c0 c1 c2 c3 4,be4 d0 d1 d2 d3 4⟩:=by
 match p,hp with
 | [p0,p1,p2,p3,p4,p5,p6,p7],_=>rfl
theorem Tryz.size107r:(Tryz.prog.info? 184).map (·.size)=some 4:=by kernel_rfl
theorem Zjj {bs:List Int}(w:World)(hl:bs.length=64)(hB:Bytes bs):
  Calls Tryz.prog 170 #[.agg (bcells bs).toArray] w fun e w'=>e=.returned (.tuple #[(readF bs).val,.bool (hOk bs)])∧U0 w w':=by
 obtain⟨p,a0,a1,a2,a3,b0,b1,b2,b3,c0,c1,c2,c3,d0,d1,d2,d3,r,d4,hp⟩:=Zsr hl
 have hh:=Zmb hp a0 a1 a2 a3 b0 b1 b2 b3 c0 c1 c2 c3 d0 d1 d2 d3 r
 rw[←d4] at hh
 have d8:(bcells bs).length=64:=by simp[bcells,hl]
 have i1:=V (all_oneCell_toArray (Z6 bs))
 have hi:(Tryz.prog.info? 48).map (·.size)=some (bcells bs).length:=by rw[Tryz.info56p,d8]
 have HI:=V hi;have i2:=V d8;have HH:=V hh;have HP:=V hp;have b5:=V d4;have HB:=V hB;have HL:=V hl
 clear hh hp d8 hi hl hB d4
 have hs:=Zl5 w.heap.size
 go_enter Tryz.func170,Tryz.ntmps170
 go_wp2_with (go_at_call 88;fail)
 obtain⟨W0,hW⟩: ∃W0,W0=(w.alloc (.cells (bcells bs).toArray 48)).alloc (.cells #[.int .i64 0,.int .i64 0,.int .i64 0,.int .i64 0] 184):=⟨_,rfl⟩
 rw[←hW]
 have g5:W0.heap.size=w.heap.size+2:=by rw[hW];simp
 have e8:W0.heap[w.heap.size]?=some (.cells (bcells bs).toArray 48 (0,0)):=by rw[hW];exact(Zm (by simp)).trans (Zc rfl)
 have h0:W0.heap[w.heap.size+1]?=some (.cells #[.int .i64 0,.int .i64 0,.int .i64 0,.int .i64 0] 184 (0,0)):=by rw[hW];exact Zc (by simp)
 have hu:U0 w W0:=by rw[hW];exact((Upd.refl _ w).alloc _).alloc _
 obtain⟨y,hy⟩: ∃y,y=a0 :: a1 :: a2 :: a3 :: b0 :: b1 :: b2 :: b3 :: c0 :: c1 :: c2 :: c3 :: d0 :: d1 :: d2 :: d3 :: r:=⟨_,rfl⟩
 have g9:y.length=56:=by
  have h1:=HL.o;have h2:=b5.o;have h3:=HP.o
  rw[h2,←hy] at h1
  simp only[List.length_append] at h1
  omega
 have h6:BytesIn W0 (.slice (some ⟨w.heap.size,8,none⟩) 56 56) y:=by
  refine .inr ⟨⟨w.heap.size,8,none⟩,56,by rw[g9],by omega,by unfold maxLen;omega,fun i u hi=>?_⟩
  rw[Addr.add_mid,Zr e8]
  have h2:=b5.o;have h3:=HP.o
  rw[h2,←hy,Y6]
  have h4:(bcells p++bcells y).toArray[8+i]?=(bcells y)[i]?:=by
   rw[List.getElem?_toArray,List.getElem?_append_right (by simp[bcells,h3])]
   simp[bcells,h3]
  rw[h4,hi]
 have f7:=V (Zfm W0 h6 (by rw[hy];simp) (by omega))
 have HW:=V g5;have g2:=V e8;have g8:=V h0;have HU:=V hu;have HY:=V hy
 clear g5 e8 h0 hu hy g9 h6 hW hs
 refine f7.o.mono ?_
 rintro e w1 ⟨rfl,h1,h2⟩
 rw[HY.o] at h1
 have H1:=V h1;have H2:=V h2
 clear h1 h2 f7
 simp only[]
 have d9:Bytes [a0,a1,a2,a3]:=fun x hx=>HB.o x (by rw[b5.o];simp at hx;rcases hx with rfl | rfl | rfl | rfl<;> simp)
 have e7:Bytes [b0,b1,b2,b3]:=fun x hx=>HB.o x (by rw[b5.o];simp at hx;rcases hx with rfl | rfl | rfl | rfl<;> simp)
 have d6:Bytes [c0,c1,c2,c3]:=fun x hx=>HB.o x (by rw[b5.o];simp at hx;rcases hx with rfl | rfl | rfl | rfl<;> simp)
 have e4:Bytes [d0,d1,d2,d3]:=fun x hx=>HB.o x (by rw[b5.o];simp at hx;rcases hx with rfl | rfl | rfl | rfl<;> simp)
 have K0: ∀W rest,Rd W W0.heap.size (a0 :: a1 :: a2 :: a3 :: rest)→Calls Tryz.prog 193 #[.pointer (some ⟨W0.heap.size,0,none⟩)] W fun e w'=>e=.returned (.int .u32 (be4 a0 a1 a2 a3 4))∧Rd w' W0.heap.size rest∧Upd (fun k=>k=W0.heap.size) W w':=fun W _ h=>Zc3 W h d9
 have K1: ∀W rest,Rd W W0.heap.size (b0 :: b1 :: b2 :: b3 :: rest)→Calls Tryz.prog 193 #[.pointer (some ⟨W0.heap.size,0,none⟩)] W fun e w'=>e=.returned (.int .u32 (be4 b0 b1 b2 b3 4))∧Rd w' W0.heap.size rest∧Upd (fun k=>k=W0.heap.size) W w':=fun W _ h=>Zc3 W h e7
 have K2: ∀W rest,Rd W W0.heap.size (c0 :: c1 :: c2 :: c3 :: rest)→Calls Tryz.prog 193 #[.pointer (some ⟨W0.heap.size,0,none⟩)] W fun e w'=>e=.returned (.int .u32 (be4 c0 c1 c2 c3 4))∧Rd w' W0.heap.size rest∧Upd (fun k=>k=W0.heap.size) W w':=fun W _ h=>Zc3 W h d6
 have K3: ∀W rest,Rd W W0.heap.size (d0 :: d1 :: d2 :: d3 :: rest)→Calls Tryz.prog 193 #[.pointer (some ⟨W0.heap.size,0,none⟩)] W fun e w'=>e=.returned (.int .u32 (be4 d0 d1 d2 d3 4))∧Rd w' W0.heap.size rest∧Upd (fun k=>k=W0.heap.size) W w':=fun W _ h=>Zc3 W h e4
 have n0:=Zaw d9;have n1:=Zaw e7;have n2:=Zaw d6;have n3:=Zaw e4
 have hh:=HH.o
 obtain⟨x0,f3⟩: ∃x,x=be4 a0 a1 a2 a3 4:=⟨_,rfl⟩
 obtain⟨x1,h5⟩: ∃x,x=be4 b0 b1 b2 b3 4:=⟨_,rfl⟩
 obtain⟨x2,e9⟩: ∃x,x=be4 c0 c1 c2 c3 4:=⟨_,rfl⟩
 obtain⟨x3,f4⟩: ∃x,x=be4 d0 d1 d2 d3 4:=⟨_,rfl⟩
 rw[←f3] at K0 n0 hh;rw[←h5] at K1 n1 hh;rw[←e9] at K2 n2 hh;rw[←f4] at K3 n3 hh
 have v0:IntKind.i64.wrap x0=x0:=by rw[IntKind.wrap_i64];omega
 have v1:IntKind.i64.wrap x1=x1:=by rw[IntKind.wrap_i64];omega
 have v2:IntKind.i64.wrap x2=x2:=by rw[IntKind.wrap_i64];omega
 have v3:IntKind.i64.wrap x3=x3:=by rw[IntKind.wrap_i64];omega
 have g3:=V K0;have f2:=V K1;have g1:=V K2;have g4:=V K3;have e5:=V hh
 have HN:=V (And.intro n0 (And.intro n1 (And.intro n2 n3)))
 clear d9 e7 d6 e4 K0 K1 K2 K3 n0 n1 n2 n3 f3 h5 e9 f4 hh HH
 go_wp2_with (go_at_call 193;fail)
 refine(g3.o _ _ H1.o).mono ?_
 rintro e w2 ⟨rfl,h1,h2⟩
 have HA:=V h1;have f8:=V h2
 clear h1 h2 H1
 simp only[]
 go_wp2_with (go_at_call 193;fail)
 refine(f2.o _ _ HA.o).mono ?_
 rintro e w3 ⟨rfl,h1,h2⟩
 have g0:=V h1;have f5:=V (f8.o.trans h2)
 clear h1 h2 HA f8
 simp only[]
 go_wp2_with (go_at_call 193;fail)
 refine(g1.o _ _ g0.o).mono ?_
 rintro e w4 ⟨rfl,h1,h2⟩
 have f9:=V h1;have g6:=V (f5.o.trans h2)
 clear h1 h2 g0 f5
 simp only[]
 go_wp2_with (go_at_call 193;fail)
 refine(g4.o _ _ f9.o).mono ?_
 rintro e w5 ⟨rfl,h1,h2⟩
 have c5:=V (g6.o.trans h2)
 clear h1 h2 f9 g6
 simp only[]
 have e6:U0 w w1:=HU.o.trans H2.o
 have d7:=e6.size
 have a9:=kb H2.o g2.o
 have a8:=kb H2.o g8.o
 have h9:=HW.o
 have g7:U0 w w5:=e6.step c5.o (fun k hk e=>by omega)
 have b9:=(c5.o.block _ (Za a9) (by omega)).trans a9
 have b4:=(c5.o.block _ (Za a8) (by omega)).trans a8
 obtain⟨w6,f1,c6,f6⟩:=nb w5 (.cells #[.int .i64 x0,.int .i64 x1,.int .i64 x2,.int .i64 x3] 184)
 have c9:=V (g7.trans c6);have H5:=V f6
 have b6:=V (kb c6 b9);have c8:=V (kb c6 b4)
 have c7:RowKit.Hid (w.heap.size+1<w5.heap.size):=V (Za b4)
 have hN:=HN.o
 have f0:(⟨x0,x1,x2,x3⟩:Hd).U32:=⟨hN.1,hN.2.1,hN.2.2.1,hN.2.2.2⟩
 have h7:RowKit.Hid (∀W,Calls Tryz.prog 164 #[.agg #[.int .i64 x0,.int .i64 x1,.int .i64 x2,.int .i64 x3]] W fun e w'=>e=.returned (.agg (bcells (headF ⟨x0,x1,x2,x3⟩)).toArray)∧U0 W w'):=V (fun W=>Zjt ⟨x0,x1,x2,x3⟩ W f0)
 have i0:RowKit.Hid ((headF ⟨x0,x1,x2,x3⟩).length=64):=V (Zlc ⟨x0,x1,x2,x3⟩).1
 have h8:=V f1
 clear e6 d7 a9 a8 h9 g7 b9 b4 f1 c6 f6 hN f0 g3 f2 g1 g4 HN HB b5 HP HY c5 H2 g8 g2 HU
 go_upto_region 4 with fail
 all_goals rw[←h8.o]
 all_goals (try (
   have hA:(Upd (fun k=>k=w.heap.size+1) w6 w6.drew∧ ∃e0 e1 e2 e3,w6.drew.heap[w.heap.size+1]?=some (.cells #[e0,e1,e2,e3] 184 (0,0))):=⟨(Upd.refl _ w6).drew,_,_,_,_,c8.o⟩
   refine Zj 9 (fun W=>Upd (fun k=>k=w.heap.size+1) w6 W∧ ∃e0 e1 e2 e3,W.heap[w.heap.size+1]?=some (.cells #[e0,e1,e2,e3] 184 (0,0))) [false,false,false,false,false,false,false,false,false,false] rfl (by kernel_rfl) ?_
   refine tqZ 0 (.agg #[.int .i64 x0,.int .i64 x1,.int .i64 x2,.int .i64 x3]) [8] hA (fun w5 q1=>?_) ?_
   ·exact Zv rfl rfl [.int .i64 x0,.int .i64 x1,.int .i64 x2,.int .i64 x3] (Zh (cs:=[.int .i64 x0,.int .i64 x1,.int .i64 x2,.int .i64 x3]) ((q1.1.block _ (Za H5.o) (by have:=c7.o;omega)).trans H5.o)) Tryz.underlying184 rfl Tryz.size107r
   simp only[zz]
   refine tpZ 1 (.bool false) hA ?_
   simp only[zz]
   refine tpZ 2 (.bool false) hA ?_
   simp only[zz]
   refine trZ 3 [8,4] hA ?_
   simp only[zz]
   refine trZ 4 [8] hA ?_
   simp only[zz]
   refine trZ 5 [7,6] hA ?_
   simp only[zz]
   refine trZ 6 [7] hA ?_
   simp only[zz]
   refine tpZ 7 (.bool false) hA ?_
   simp only[zz]
   refine Za0 (i:=8) rfl (by kernel_rfl) rfl (fun K hK=>?_)
   obtain⟨a7,e0,e1,e2,e3,a5⟩:=hA
   refine wp_store_mid 184 (.tmp 2) (.tmp 58) rfl (w.heap.size+1) 0 #[.int .i64 x0,.int .i64 x1,.int .i64 x2,.int .i64 x3] rfl rfl (by have q:=Zq a5;exact q) Tryz.size107r (by simp[Value.oneCell']) ?_
   have a6:=Upd.setCells (b:=w.heap.size+1) (F:=fun k=>k=w.heap.size+1) rfl [.int .i64 x0,.int .i64 x1,.int .i64 x2,.int .i64 x3] 0 a7
   have a4:=Zi (vs:=[.int .i64 x0,.int .i64 x1,.int .i64 x2,.int .i64 x3]) a5 rfl
   refine hK _ _ ⟨a6,_,_,_,_,a4⟩ ?_
   clear hK
   simp only[zz]
   refine tlZ 9 ?_
   simp only[List.drop]
   have c4:=V a6;have b7:=V a4
   clear a6 a4 a7 a5
   go_wp2
   have b8:=run_loadVar_mid (P:=Tryz.prog) _ (w.heap.size+1) 0 184 [.int .i64 x0,.int .i64 x1,.int .i64 x2,.int .i64 x3] _ (Zh b7.o) Tryz.underlying184 rfl Tryz.size107r
   refine bodyPost_ret (Zl Tryz.results170 rfl b8) rfl ?_
   have hx:=e5.o
   have ho:hOk bs=false:=by
    cases hq:hOk bs with
    |false=>rfl
    |true=>
     have:=(Zci bs).1 hq
     rw[hx] at this
     obtain⟨⟨s1,s2,s3,s4⟩,_⟩:=this
     simp only at s1 s2 s3 s4
     omega
   exact⟨by rw[hx,ho];rfl,c9.o.step c4.o (fun k hk e=>by omega)⟩
   ))
 by_cases hq:x3≤1073741824
 ·simp only[hq,decide_true]
  have hA:(Upd (fun k=>k=w.heap.size+1) w6 w6.drew∧ ∃e0 e1 e2 e3,w6.drew.heap[w.heap.size+1]?=some (.cells #[e0,e1,e2,e3] 184 (0,0))):=⟨(Upd.refl _ w6).drew,_,_,_,_,c8.o⟩
  refine Zj 9 (fun W=>Upd (fun k=>k=w.heap.size+1) w6 W∧ ∃e0 e1 e2 e3,W.heap[w.heap.size+1]?=some (.cells #[e0,e1,e2,e3] 184 (0,0))) [false,false,false,false,false,false,false,false,false,false] rfl (by kernel_rfl) ?_
  refine tqZ 0 (.agg #[.int .i64 x0,.int .i64 x1,.int .i64 x2,.int .i64 x3]) [8] hA (fun w5 q1=>?_) ?_
  ·exact Zv rfl rfl [.int .i64 x0,.int .i64 x1,.int .i64 x2,.int .i64 x3] (Zh (cs:=[.int .i64 x0,.int .i64 x1,.int .i64 x2,.int .i64 x3]) ((q1.1.block _ (Za H5.o) (by have:=c7.o;omega)).trans H5.o)) Tryz.underlying184 rfl Tryz.size107r
  simp only[zz]
  refine tpZ 1 (.bool true) hA ?_
  simp only[zz]
  refine tpZ 2 (.bool true) hA ?_
  simp only[zz]
  refine tqZ 3 (.agg #[.int .i64 x0,.int .i64 x1,.int .i64 x2,.int .i64 x3]) [8,4] hA (fun w5 q1=>?_) ?_
  ·exact Zv rfl rfl [.int .i64 x0,.int .i64 x1,.int .i64 x2,.int .i64 x3] (Zh (cs:=[.int .i64 x0,.int .i64 x1,.int .i64 x2,.int .i64 x3]) ((q1.1.block _ (Za H5.o) (by have:=c7.o;omega)).trans H5.o)) Tryz.underlying184 rfl Tryz.size107r
  simp only[zz]
  refine tqZ 5 (.agg (bcells bs).toArray) [7,6] hA (fun w5 q1=>?_) ?_
  ·exact Zv rfl rfl (bcells bs) (Zh ((q1.1.block _ (Za b6.o) (by omega)).trans b6.o)) Tryz.underlying48 rfl HI.o
  simp only[zz]
  refine diZ 4 (fun K HKK=>?_)
  go_step
  refine(h7.o _).mono ?_
  rintro e w7 ⟨rfl,d5⟩
  have hA:(Upd (fun k=>k=w.heap.size+1) w6 w7∧ ∃e0 e1 e2 e3,w7.heap[w.heap.size+1]?=some (.cells #[e0,e1,e2,e3] 184 (0,0))):=⟨hA.1.trans (d5.mono (fun _ _ e=>e.elim)),_,_,_,_,kb d5 c8.o⟩
  simp only[]
  refine HKK.o _ _ hA ?_
  clear HKK d5
  simp only[zz]
  refine tqZ 6 (.bool (headF ⟨x0,x1,x2,x3⟩ == bs)) [7] hA (fun w5 q1=>?_) ?_
  ·exact Zj3 rfl rfl rfl i0.o HL.o
  simp only[zz]
  refine tpZ 7 (.bool (headF ⟨x0,x1,x2,x3⟩ == bs)) hA ?_
  simp only[zz]
  refine Za0 (i:=8) rfl (by kernel_rfl) rfl (fun K hK=>?_)
  obtain⟨a7,e0,e1,e2,e3,a5⟩:=hA
  refine wp_store_mid 184 (.tmp 2) (.tmp 58) rfl (w.heap.size+1) 0 #[.int .i64 x0,.int .i64 x1,.int .i64 x2,.int .i64 x3] rfl rfl (by have q:=Zq a5;exact q) Tryz.size107r (by simp[Value.oneCell']) ?_
  have a6:=Upd.setCells (b:=w.heap.size+1) (F:=fun k=>k=w.heap.size+1) rfl [.int .i64 x0,.int .i64 x1,.int .i64 x2,.int .i64 x3] 0 a7
  have a4:=Zi (vs:=[.int .i64 x0,.int .i64 x1,.int .i64 x2,.int .i64 x3]) a5 rfl
  refine hK _ _ ⟨a6,_,_,_,_,a4⟩ ?_
  clear hK
  simp only[zz]
  refine tlZ 9 ?_
  simp only[List.drop]
  have c4:=V a6;have b7:=V a4
  clear a6 a4 a7 a5
  go_wp2
  have b8:=run_loadVar_mid (P:=Tryz.prog) _ (w.heap.size+1) 0 184 [.int .i64 x0,.int .i64 x1,.int .i64 x2,.int .i64 x3] _ (Zh b7.o) Tryz.underlying184 rfl Tryz.size107r
  refine bodyPost_ret (Zl Tryz.results170 rfl b8) rfl ?_
  have hx:=e5.o
  have ho:hOk bs=(headF ⟨x0,x1,x2,x3⟩ == bs):=by
   rw[Bool.eq_iff_iff,Zci,hx,beq_iff_eq]
   exact⟨fun h=>h.2,fun h=>⟨⟨⟨by assumption,by assumption⟩,⟨by assumption,by assumption⟩,by assumption,⟨by assumption,by assumption⟩⟩,h⟩⟩
  exact⟨by rw[hx,ho];rfl,c9.o.step c4.o (fun k hk e=>by omega)⟩
 ·simp only[hq,decide_false]
  have hA:(Upd (fun k=>k=w.heap.size+1) w6 w6.drew∧ ∃e0 e1 e2 e3,w6.drew.heap[w.heap.size+1]?=some (.cells #[e0,e1,e2,e3] 184 (0,0))):=⟨(Upd.refl _ w6).drew,_,_,_,_,c8.o⟩
  refine Zj 9 (fun W=>Upd (fun k=>k=w.heap.size+1) w6 W∧ ∃e0 e1 e2 e3,W.heap[w.heap.size+1]?=some (.cells #[e0,e1,e2,e3] 184 (0,0))) [false,false,false,false,false,false,false,false,false,false] rfl (by kernel_rfl) ?_
  refine tqZ 0 (.agg #[.int .i64 x0,.int .i64 x1,.int .i64 x2,.int .i64 x3]) [8] hA (fun w5 q1=>?_) ?_
  ·exact Zv rfl rfl [.int .i64 x0,.int .i64 x1,.int .i64 x2,.int .i64 x3] (Zh (cs:=[.int .i64 x0,.int .i64 x1,.int .i64 x2,.int .i64 x3]) ((q1.1.block _ (Za H5.o) (by have:=c7.o;omega)).trans H5.o)) Tryz.underlying184 rfl Tryz.size107r
  simp only[zz]
  refine tpZ 1 (.bool false) hA ?_
  simp only[zz]
  refine tpZ 2 (.bool false) hA ?_
  simp only[zz]
  refine trZ 3 [8,4] hA ?_
  simp only[zz]
  refine trZ 4 [8] hA ?_
  simp only[zz]
  refine trZ 5 [7,6] hA ?_
  simp only[zz]
  refine trZ 6 [7] hA ?_
  simp only[zz]
  refine tpZ 7 (.bool false) hA ?_
  simp only[zz]
  refine Za0 (i:=8) rfl (by kernel_rfl) rfl (fun K hK=>?_)
  obtain⟨a7,e0,e1,e2,e3,a5⟩:=hA
  refine wp_store_mid 184 (.tmp 2) (.tmp 58) rfl (w.heap.size+1) 0 #[.int .i64 x0,.int .i64 x1,.int .i64 x2,.int .i64 x3] rfl rfl (by have q:=Zq a5;exact q) Tryz.size107r (by simp[Value.oneCell']) ?_
  have a6:=Upd.setCells (b:=w.heap.size+1) (F:=fun k=>k=w.heap.size+1) rfl [.int .i64 x0,.int .i64 x1,.int .i64 x2,.int .i64 x3] 0 a7
  have a4:=Zi (vs:=[.int .i64 x0,.int .i64 x1,.int .i64 x2,.int .i64 x3]) a5 rfl
  refine hK _ _ ⟨a6,_,_,_,_,a4⟩ ?_
  clear hK
  simp only[zz]
  refine tlZ 9 ?_
  simp only[List.drop]
  have c4:=V a6;have b7:=V a4
  clear a6 a4 a7 a5
  go_wp2
  have b8:=run_loadVar_mid (P:=Tryz.prog) _ (w.heap.size+1) 0 184 [.int .i64 x0,.int .i64 x1,.int .i64 x2,.int .i64 x3] _ (Zh b7.o) Tryz.underlying184 rfl Tryz.size107r
  refine bodyPost_ret (Zl Tryz.results170 rfl b8) rfl ?_
  have hx:=e5.o
  have ho:hOk bs=false:=by
   cases hq:hOk bs with
   |false=>rfl
   |true=>
    have:=(Zci bs).1 hq
    rw[hx] at this
    obtain⟨⟨s1,s2,s3,s4⟩,_⟩:=this
    simp only at s1 s2 s3 s4
    omega
  exact⟨by rw[hx,ho];rfl,c9.o.step c4.o (fun k hk e=>by omega)⟩
noncomputable def Yx (a b:List Int):Hd×Bool:=
 if hOk a=true∧(hOk b=false∨(readF b).turn≤(readF a).turn) then(readF a,true) else(readF b,hOk b)
theorem Zok {a b:List Int}(w:World)(ha:a.length=64)(hb:b.length=64)(hA:Bytes a)(hB:Bytes b):
  Calls Tryz.prog 130 #[.agg (bcells a).toArray,.agg (bcells b).toArray] w fun e w'=>e=.returned (.tuple #[(Yx a b).1.val,.bool (Yx a b).2])∧U0 w w':=by
 obtain⟨cf,a0⟩: ∃cf,cf=Yx a b:=⟨_,rfl⟩
 have b4: ∀W,Calls Tryz.prog 170 #[.agg (bcells a).toArray] W fun e w'=>e=.returned (.tuple #[(readF a).val,.bool (hOk a)])∧U0 W w':=fun W=>Zjj W ha hA
 have b1: ∀W,Calls Tryz.prog 170 #[.agg (bcells b).toArray] W fun e w'=>e=.returned (.tuple #[(readF b).val,.bool (hOk b)])∧U0 W w':=fun W=>Zjj W hb hB
 unfold Yx at a0
 rw[show Yx a b=cf by rw[a0];rfl]
 have c7:(Tryz.prog.info? 48).map (·.size)=some (bcells a).length:=by rw[Tryz.info56p];simp[bcells,ha]
 have c3:(Tryz.prog.info? 48).map (·.size)=some (bcells b).length:=by rw[Tryz.info56p];simp[bcells,hb]
 have e5:=V c7;have e4:=V c3
 have e7:=V (all_oneCell_toArray (Z6 a));have e6:=V (all_oneCell_toArray (Z6 b))
 generalize readF a=x at a0 b4
 generalize readF b=y at a0 b1
 generalize hOk a=oa at a0 b4
 generalize hOk b=ob at a0 b1
 obtain⟨x0,x1,x2,x3⟩:=x
 obtain⟨y0,y1,y2,y3⟩:=y
 simp only[Hd.val] at b4 b1
 have d3:=V b4;have d8:=V b1;have a2:=V a0
 clear b4 b1 a0 c7 c3 ha hb hA hB
 generalize bcells a=av at *
 generalize bcells b=bv at *
 go_enter Tryz.func130,Tryz.ntmps130
 go_upto_region 1 with fail
 obtain⟨w1,a5⟩: ∃w1,w1=((w.alloc (.cells av.toArray 48)).alloc (.cells bv.toArray 48)).alloc (.cells #[.int .i64 0,.int .i64 0,.int .i64 0,.int .i64 0] 184):=⟨_,rfl⟩
 rw[←a5]
 have d4:w1.heap[w.heap.size]?=some (.cells av.toArray 48 (0,0)):=by rw[a5];exact(Zm (by simp<;> omega)).trans ((Zm (by simp)).trans (Zc rfl))
 have c5:w1.heap[w.heap.size+1]?=some (.cells bv.toArray 48 (0,0)):=by rw[a5];exact(Zm (by simp<;> omega)).trans (Zc (by simp))
 have c4:w1.heap[w.heap.size+1+1]?=some (.cells #[.int .i64 0,.int .i64 0,.int .i64 0,.int .i64 0] 184 (0,0)):=by rw[a5];exact Zc (by simp)
 have d1:U0 w w1:=by rw[a5];exact(((Upd.refl _ w).alloc _).alloc _).alloc _
 have c2:=V d4;have d7:=V c5;have d0:=V c4;have c6:=V d1
 clear d4 c5 c4 d1 a5
 go_step
 refine wpList_load_mid rfl 48 (.tmp 2) rfl w.heap.size 0 rfl av _ (Zh c2.o) Tryz.underlying48 rfl e5.o ?_
 go_wp2_with (go_at_call 170;fail)
 refine(d3.o _).mono ?_
 rintro e w2 ⟨rfl,hu⟩
 have a8:=V (kb hu d7.o);have a6:=V (kb hu d0.o);have d9:=V (c6.o.trans hu)
 clear hu d7 d0 c6 d3 c2
 simp only[]
 go_upto_region 2 with fail
 obtain⟨w3,c1,b6,c9⟩:=nb w2 (.cells #[.int .i64 x0,.int .i64 x1,.int .i64 x2,.int .i64 x3] 184)
 rw[←c1]
 have a7:=V (kb b6 a8.o);have a9:=V (kb b6 a6.o);have e2:=V (d9.o.trans b6);have c0:=V c9
 clear c1 b6 c9 a8 a6 d9
 go_step
 refine wpList_load_mid rfl 48 (.tmp 3) rfl (w.heap.size+1) 0 rfl bv _ (Zh a7.o) Tryz.underlying48 rfl e4.o ?_
 go_wp2_with (go_at_call 170;fail)
 refine(d8.o _).mono ?_
 rintro e w4 ⟨rfl,hu⟩
 have b3:=V (kb hu a9.o);have c8:=V (kb hu c0.o);have d5:=V (e2.o.trans hu)
 clear hu a9 c0 e2 d8 a7
 simp only[]
 go_upto_region 3 with fail
 obtain⟨w5,e1,b7,b8⟩:=nb w4 (.cells #[.int .i64 y0,.int .i64 y1,.int .i64 y2,.int .i64 y3] 184)
 rw[←e1]
 have b9:=kb b7 c8.o
 have b0:=kb b7 b3.o
 have cx:w5.cell? ⟨w2.heap.size,0,none⟩=some (.int .i64 x0):=by simp[World.cell?,b9]
 have cy:w5.cell? ⟨w4.heap.size,0,none⟩=some (.int .i64 y0):=by simp[World.cell?,b8]
 have e0:=V b9;have d6:=V b8;have b2:=V b0;have b5:=V (d5.o.trans b7)
 have a0:=a2.o
 clear e1 b7 b8 b9 b0 b3 c8 d5 a2
 have d2: ∀(z0 z1 z2 z3:Int),Upd (fun k=>k=w.heap.size+1+1) w5 (w5.setCells (w.heap.size+1+1) 0 [.int .i64 z0,.int .i64 z1,.int .i64 z2,.int .i64 z3])∧(w5.setCells (w.heap.size+1+1) 0 [.int .i64 z0,.int .i64 z1,.int .i64 z2,.int .i64 z3]).heap[w.heap.size+1+1]?=some (.cells #[.int .i64 z0,.int .i64 z1,.int .i64 z2,.int .i64 z3] 184 (0,0)):=fun z0 z1 z2 z3=>
  ⟨Upd.setCells (b:=w.heap.size+1+1) (F:=fun k=>k=w.heap.size+1+1) rfl _ 0 (Upd.refl _ w5),Zi (vs:=[.int .i64 z0,.int .i64 z1,.int .i64 z2,.int .i64 z3]) b2.o rfl⟩
 have a3:=V d2
 clear d2
 by_cases a1:oa=true∧(ob=false∨y0≤x0)
 ·rw[if_pos a1] at a0
  obtain⟨rfl,a1⟩:=a1
  have a2:=V a0
  clear a0
  cases ob with
  |false=>
   clear a1
   go_upto_region 4 with fail
   go_step
   refine wpList_load_mid rfl 184 (.tmp 6) rfl w2.heap.size 0 rfl [.int .i64 x0,.int .i64 x1,.int .i64 x2,.int .i64 x3] _ (Zh (cs:=[.int .i64 x0,.int .i64 x1,.int .i64 x2,.int .i64 x3]) e0.o) Tryz.underlying184 rfl Tryz.size107r ?_
   refine wpList_store_mid rfl 184 (.tmp 4) (.tmp 32) rfl (w.heap.size+1+1) 0 #[.int .i64 x0,.int .i64 x1,.int .i64 x2,.int .i64 x3] rfl rfl (by have q:=Zq b2.o;exact q) Tryz.size107r (by simp[Value.oneCell']) ?_
   go_wp2
   have a4:=run_loadVar_mid (P:=Tryz.prog) _ (w.heap.size+1+1) 0 184 [.int .i64 x0,.int .i64 x1,.int .i64 x2,.int .i64 x3] _ (Zh (a3.out x0 x1 x2 x3).2) Tryz.underlying184 rfl Tryz.size107r
   refine bodyPost_ret (Zl Tryz.results130 rfl a4) rfl ⟨by rw[a2.o];rfl,b5.o.step (a3.out x0 x1 x2 x3).1 (fun k hk e=>by omega)⟩
  |true=>
   have e3:x0≥y0:=by rcases a1 with h | h;cases h;exact h
   clear a1
   go_upto_region 4 with fail
   go_step
   refine wpList_load_mid rfl 184 (.tmp 6) rfl w2.heap.size 0 rfl [.int .i64 x0,.int .i64 x1,.int .i64 x2,.int .i64 x3] _ (Zh (cs:=[.int .i64 x0,.int .i64 x1,.int .i64 x2,.int .i64 x3]) e0.o) Tryz.underlying184 rfl Tryz.size107r ?_
   refine wpList_store_mid rfl 184 (.tmp 4) (.tmp 32) rfl (w.heap.size+1+1) 0 #[.int .i64 x0,.int .i64 x1,.int .i64 x2,.int .i64 x3] rfl rfl (by have q:=Zq b2.o;exact q) Tryz.size107r (by simp[Value.oneCell']) ?_
   go_wp2
   have a4:=run_loadVar_mid (P:=Tryz.prog) _ (w.heap.size+1+1) 0 184 [.int .i64 x0,.int .i64 x1,.int .i64 x2,.int .i64 x3] _ (Zh (a3.out x0 x1 x2 x3).2) Tryz.underlying184 rfl Tryz.size107r
   refine bodyPost_ret (Zl Tryz.results130 rfl a4) rfl ⟨by rw[a2.o];rfl,b5.o.step (a3.out x0 x1 x2 x3).1 (fun k hk e=>by omega)⟩
 ·rw[if_neg a1] at a0
  have a2:=V a0
  clear a0
  cases oa with
  |false=>
   clear a1
   go_upto_region 5 with fail
   go_step
   refine wpList_load_mid rfl 184 (.tmp 8) rfl w4.heap.size 0 rfl [.int .i64 y0,.int .i64 y1,.int .i64 y2,.int .i64 y3] _ (Zh (cs:=[.int .i64 y0,.int .i64 y1,.int .i64 y2,.int .i64 y3]) d6.o) Tryz.underlying184 rfl Tryz.size107r ?_
   iterate 3 go_step
   refine wpList_store_mid rfl 184 (.tmp 4) (.tmp 33) rfl (w.heap.size+1+1) 0 #[.int .i64 y0,.int .i64 y1,.int .i64 y2,.int .i64 y3] rfl rfl (by have q:=Zq b2.o;exact q) Tryz.size107r (by simp[Value.oneCell']) ?_
   go_wp2
   have a4:=run_loadVar_mid (P:=Tryz.prog) _ (w.heap.size+1+1) 0 184 [.int .i64 y0,.int .i64 y1,.int .i64 y2,.int .i64 y3] _ (Zh (a3.out y0 y1 y2 y3).2) Tryz.underlying184 rfl Tryz.size107r
   refine bodyPost_ret (Zl Tryz.results130 rfl a4) rfl ⟨by rw[a2.o];rfl,b5.o.step (a3.out y0 y1 y2 y3).1 (fun k hk e=>by omega)⟩
  |true=>
   cases ob with
   |false=>exact absurd ⟨rfl,.inl rfl⟩ a1
   |true=>
    have e3: ¬x0≥y0:=fun h=>a1 ⟨rfl,.inr h⟩
    clear a1
    go_upto_region 5 with fail
    go_step
    refine wpList_load_mid rfl 184 (.tmp 8) rfl w4.heap.size 0 rfl [.int .i64 y0,.int .i64 y1,.int .i64 y2,.int .i64 y3] _ (Zh (cs:=[.int .i64 y0,.int .i64 y1,.int .i64 y2,.int .i64 y3]) d6.o) Tryz.underlying184 rfl Tryz.size107r ?_
    iterate 3 go_step
    refine wpList_store_mid rfl 184 (.tmp 4) (.tmp 33) rfl (w.heap.size+1+1) 0 #[.int .i64 y0,.int .i64 y1,.int .i64 y2,.int .i64 y3] rfl rfl (by have q:=Zq b2.o;exact q) Tryz.size107r (by simp[Value.oneCell']) ?_
    go_wp2
    have a4:=run_loadVar_mid (P:=Tryz.prog) _ (w.heap.size+1+1) 0 184 [.int .i64 y0,.int .i64 y1,.int .i64 y2,.int .i64 y3] _ (Zh (a3.out y0 y1 y2 y3).2) Tryz.underlying184 rfl Tryz.size107r
    refine bodyPost_ret (Zl Tryz.results130 rfl a4) rfl ⟨by rw[a2.o];rfl,b5.o.step (a3.out y0 y1 y2 y3).1 (fun k hk e=>by omega)⟩
end
section
open Go.RowKit
section
variable {F:Fence} {n:Nat} {P:Program}
end
end
section
open Go.RowKit
section
variable {F:Fence} {n:Nat} {P:Program}
theorem Zbw {α:Type}{g:Operand}{ps:Array Tmp}{assign body:Code}{Q:Exit→Act→World→Prop}{a:Act}{w:World}
  (hro:F.round=none) (h1:1≤n) {gf:Nat} {lb:Array Value} (hg:a.eval g=.func (.func gf) #[] lb) (hFg:F.fn gf) (eg: ∀args w,(callFunc gf args).run P w=.ok (.enter gf args) w)
  {encs:α→Array Value} (hps: ∀x,(encs x).size=ps.size) (T:List α→α→World→World→Prop) (S:List α→Prop) (I:List α→World→Prop) (Kp:Nat→Prop) (hKp: ∀k,Kp k→k<w.heap.size)
  (hIU: ∀pre W W',I pre W→U0 W W'→I pre W') (hIP: ∀pre W l (o:Loop) o',I pre W→w.heap.size≤l→W.heap[l]?=some (.loop o)→I pre (W.putObj l o')) (h0:I [] w)
  (hseq: ∀(l:Nat) (J:List α→World→Prop) (W:World),J [] W→(∀k,k<w.heap.size→W.heap[k]?=w.heap[k]?)→(∀pre W W',J pre W→U0 W W'→J pre W')→
   (∀pre x W0 W1,J pre W0→U0 W0 W1→T pre x W0 W1→YieldAt F (n - 1 - 1) P l (encs x) W1 fun e W'=>e=.returned (.bool true)∧J (pre++[x]) W'∧ ∀k,Kp k→W'.heap[k]?=W1.heap[k]?)→
   CallsIn F (n - 1) P gf (#[.func (.yield l) #[] #[]]++lb) W fun e W'=>(∃v,e=.returned v)∧ ∃xs,S xs∧J xs W')
  (a₁:α→Act) (hassign: ∀(l:Nat) (x:α) (W:World) (K:Act→World→Prop),K (a₁ x) W→
   assign.wpIn (F.inRound l) (n - 1 - 1) P (Exit.then K (fun _ _ _=>False)) {tmps:=(ps.zip (encs x)).foldl (fun t (p,v)=>t.setIfInBounds p v) a.tmps,defers:=[]} W)
  (hbody: ∀(l:Nat) (pre:List α) (x:α) (W0 W1 W:World) (r r':Loop),w.heap.size≤l→I pre W0→U0 W0 W1→T pre x W0 W1→W1.heap[l]?=some (.loop r)→W=W1.putObj l (.loop r')→
   body.wpIn (F.inRound l) (n - 1 - 1) P (fun e _ W3=>e=.normal∧I (pre++[x]) W3∧KeepsFrom w.heap.size W W3∧ ∀k,Kp k→W3.heap[k]?=W.heap[k]?) (a₁ x) W)
  (hdone: ∀(xs:List α) (W:World),S xs→I xs W→W.heap[w.heap.size]?=some (.deferred (some []))→Q .normal {a with defers:={target:=.collected w.heap.size,args:=#[]} :: a.defers} W):
  (Code.rangeFunc g ps assign body).wpIn F n P Q a w:=by
 refine wpIn_rangeFunc ?_
 intro fn b6
 rw[hro]
 obtain⟨m,hm⟩: ∃m,m=w.heap.size:=⟨_,rfl⟩
 obtain⟨W1,a5⟩: ∃W1,W1=(w.alloc (.deferred (some []))).alloc (.loop {state:=.ready,pending:=none,fn,tmps:=a.tmps,params:=ps,assign,body,defers:=w.heap.size}):=⟨_,rfl⟩
 have b0:U0 w W1:=by rw[a5];exact((Upd.refl _ w).alloc _).alloc _
 have b4:W1.heap[m]?=some (.deferred (some [])):=by rw[a5,hm];exact(Zm (by simp)).trans (Zc rfl)
 obtain⟨a4,a0⟩: ∃a4:LoopState→Option Code→Loop,a4=fun st pe=>{state:=st,pending:=pe,fn,tmps:=a.tmps,params:=ps,assign,body,defers:=w.heap.size}:=⟨_,rfl⟩
 have b8:W1.heap[m+1]?=some (.loop (a4 .ready none)):=by rw[a5,hm,a0];exact Zc (by simp)
 refine⟨m+1,[{target:=.collected m,args:=#[]}],W1,{target:=.fn (.func gf) lb,args:=#[.func (.yield (m+1)) #[] #[]]},W1,gf,#[.func (.yield (m+1)) #[] #[]]++lb,W1,?_,?_,?_,?_,fun _=>h1,?_⟩
 ·rw[a5,hm];exact run_enterLoop_outer _ _ _ _ _
 ·simp only[resolve,hg]
  simp[go_sem]
 ·intro f' a9;simp[Target.leads] at a9;subst a9;exact hFg
 ·simp[invoke,go_sem,eg]
 ·have a1: ∀{W W':World} {k:Nat} {o:Obj},U0 W W'→W.heap[k]?=some o→W'.heap[k]?=some o:=fun hu h=>kb hu h
  refine(hseq (m+1) (fun pre W=>I pre W∧W.heap[m+1]?=some (.loop (a4 .ready none))∧W.heap[m]?=some (.deferred (some []))) W1 ⟨hIU _ _ _ h0 b0,b8,b4⟩ (fun k hk=>b0.block k hk id) (fun pre W W' hJ hu=>⟨hIU _ _ _ hJ.1 hu,a1 hu hJ.2.1,a1 hu hJ.2.2⟩) ?_).mono ?_
  ·rintro pre x W0 Wy ⟨hi,hl,hd⟩ hu hT
   have a6:=a1 hu hl
   have b5:=a1 hu hd
   have hy:=run_yield (P:=P) (args:=encs x) a6 (by rw[a0];exact hps x)
   rw[a0] at hy
   refine⟨fn,_,assign,body,hy,roundIn_of_wpIn b6 (hassign _ x Wy _ ?_)⟩
   refine⟨_,run_beginRound a6 (by rw[a0]),?_⟩
   refine wpIn_mono (hbody (m+1) pre x W0 Wy _ _ _ (by omega) hi hu hT a6 rfl) ?_
   rintro e a3 W3 ⟨rfl,b7,b1,a7⟩
   have b2:(Wy.putObj (m+1) (.loop {a4 .ready none with state:=.busy})).heap[m+1]?=some (.loop {a4 .ready none with state:=.busy}):=World.putObj_heap_same (Za a6)
   have a8:=b1.same _ _ (by omega) b2 rfl
   have b3:=b1.same m (.deferred (some [])) (by omega) ((World.putObj_heap_other (by omega)).trans b5) rfl
   have a2:=run_endRound (P:=P) none a8
   rw[a0] at a2
   refine⟨_,_,a2,rfl,⟨hIP _ _ _ _ _ b7 (by omega) a8,?_,(World.putObj_heap_other (by omega)).trans b3⟩,fun k hk=>?_⟩
   ·rw[a0];exact World.putObj_heap_same (Za a8)
   ·have:=hKp k hk
    rw[World.putObj_heap_other (by omega),a7 k hk,World.putObj_heap_other (by omega)]
  ·rintro e W2 ⟨⟨v,rfl⟩,xs,hS,hi,hl,hd⟩
   have a2:=run_endLoop (P:=P) hl (by rw[a0];simp)
   rw[a0] at a2
   refine⟨none,_,a2,?_⟩
   have:=hdone xs _ hS (hIP _ _ _ _ (.loop {a4 .ready none with state:=.exhausted}) hi (by omega) hl) (by rw[←hm];exact(World.putObj_heap_other (by omega)).trans hd)
   rw[hm]
   rw[a0,hm] at this
   exact this
end
end
section
open Go.RowKit
def Yo (b:List Int)(off:Nat)(src:List Int):List Int:=b.take off++(src.take (b.length - off)++b.drop (off+src.length))
theorem Y3 (b:List Int)(off:Nat)(src:List Int)(h:off≤b.length):(Yo b off src).length=b.length:=by
 simp only[Yo,List.length_append,List.length_take,List.length_drop];omega
theorem Zfl (b:List Int)(off:Nat)(src:List Int)(h:off≤b.length)(j:Nat):(Yo b off src)[j]?=if off≤j∧j<off+src.length∧j<b.length then src[j - off]? else b[j]?:=by
 unfold Yo
 by_cases h1:j<off
 ·rw[if_neg (by omega),List.getElem?_append_left (by simp;omega),List.getElem?_take_of_lt h1]
 ·rw[List.getElem?_append_right (by simp;omega)]
  have e:(b.take off).length=off:=by simp;omega
  rw[e]
  by_cases h2:j - off<(src.take (b.length - off)).length
  ·rw[List.getElem?_append_left h2]
   simp only[List.length_take] at h2
   rw[if_pos (by omega),List.getElem?_take_of_lt (by omega)]
  ·rw[List.getElem?_append_right (by omega)]
   simp only[List.length_take] at h2 ⊢
   by_cases h3:j<b.length
   ·rw[if_neg (by omega),List.getElem?_drop]
    congr 1
    omega
   ·rw[if_neg (by omega),List.getElem?_drop,List.getElem?_eq_none (by omega),List.getElem?_eq_none (by omega)]
theorem Ztt {x:Int}(h:0≤x∧x≤4294967295):be4 (x / 2 ^ 24 % 256) (x / 2 ^ 16 % 256) (x / 2 ^ 8 % 256) (x / 2 ^ 0 % 256) 4=x:=by
 show x / 2 ^ 24 % 256 * 16777216+(x / 2 ^ 16 % 256 * 65536+(x / 2 ^ 8 % 256 * 256+x / 2 ^ 0 % 256))=x
 omega
theorem Zt7 (x:Int):layF x 32=[x / 2 ^ 24 % 256,x / 2 ^ 16 % 256,x / 2 ^ 8 % 256,x / 2 ^ 0 % 256]:=rfl
theorem Zp5 (x:Int):layF x 16=[x / 2 ^ 8 % 256,x / 2 ^ 0 % 256]:=rfl
theorem Zcs {x:Int}(h:0≤x∧x≤4294967295)(r:List Int):be (layF x 32++r)=x:=by
 rw[Zt7];exact Ztt h
theorem Zhx {x y:Int}(hx:0≤x∧x≤4294967295)(hy:0≤y∧y≤4294967295)(h:layF x 32=layF y 32):x=y:=by
 have h1:=Zcs hx [];have h2:=Zcs hy []
 rw[h] at h1
 exact h1.symm.trans h2
theorem Zhy {x y:Int}(hx:0≤x∧x≤65535)(hy:0≤y∧y≤65535)(h:layF x 16=layF y 16):x=y:=by
 rw[Zp5,Zp5] at h
 injection h with h1 h2
 injection h2 with h2 _
 omega
theorem Zb7 (turn number:Int)(snap:Bool)(n k:Nat):(Zf7 turn number snap n k).length=12:=by simp[Zf7,layF_length]
theorem Zmr {turn number:Int}{snap:Bool}{b:List Int}{k:Nat}:(cutF turn number snap b k).length=16+(allF b k).length:=by simp[cutF,Zb7,layF_length];omega
theorem Zfz {turn number:Int}(ht:0≤turn∧turn≤4294967295)(snap:Bool)(b:List Int)(k:Nat):be (cutF turn number snap b k)=turn:=by
 unfold cutF Zf7
 rw[List.append_assoc,List.append_assoc,List.append_assoc,List.append_assoc]
 exact Zcs ht _
theorem Zbu (turn number:Int)(snap:Bool)(b:List Int)(k:Nat):(cutF turn number snap b k).drop 16=allF b k:=by
 unfold cutF
 exact List.drop_left' (by simp[Zb7,layF_length])
theorem Zqv (b:List Int): ∃r,allF b 0=layF b.length 32++r:=by
 unfold allF
 simp only[if_true]
 exact⟨_,by rw[List.append_assoc]⟩
theorem Zr7 {turn number:Int}{snap:Bool}{b:List Int}(h:b.length≤40000):be ((cutF turn number snap b 0).drop 16)=b.length:=by
 rw[Zbu]
 obtain⟨r,hr⟩:=Zqv b
 rw[hr]
 exact Zcs (by omega) r
theorem Zf9 {a b c d:List Int}(h:a++b=c++d)(hl:a.length=c.length):a=c∧b=d:=List.append_inj h hl
theorem Zes {t n t' n':Int}{s s':Bool}{b b':List Int}{k k':Nat}(ht:0≤t∧t≤4294967295)(ht':0≤t'∧t'≤4294967295)(hn:0≤n∧n≤4294967295)(hn':0≤n'∧n'≤4294967295)(hk:k≤65535)(hk':k'≤65535)(hb:b.length≤40000)(hb':b'.length≤40000)
  (h:cutF t n s b k=cutF t' n' s' b' k'):t=t'∧n=n'∧k=k'∧Zal b.length s=Zal b'.length s'∧allF b k=allF b' k':=by
 have hA:allF b k=allF b' k':=by rw[←Zbu t n s b k,←Zbu t' n' s' b' k',h]
 unfold cutF at h
 rw[List.append_assoc,List.append_assoc] at h
 obtain⟨h1,_⟩:=Zf9 h (by rw[Zb7,Zb7])
 unfold Zf7 at h1
 obtain⟨h1,hm⟩:=Zf9 h1 (by simp[layF_length])
 obtain⟨h1,a1⟩:=Zf9 h1 (by simp[layF_length])
 obtain⟨h1,a0⟩:=Zf9 h1 (by simp[layF_length])
 have m1: ∀(m:Nat) (s:Bool),m≤40000→0≤Zal m s∧Zal m s≤65535:=by
  intro m s hm
  unfold Zal secsN
  cases s<;> simp<;> omega
 refine⟨Zhx ht ht' h1,Zhx hn hn' a0,?_,Zhy (m1 _ _ hb) (m1 _ _ hb') hm,hA⟩
 have:=Zhy (x:=(k:Int)) (y:=(k':Int)) (by omega) (by omega) a1
 omega
theorem Zjp {t n t' n':Int}{s s':Bool}{b b':List Int}{k k':Nat}(ht:0≤t∧t≤4294967295)(ht':0≤t'∧t'≤4294967295)(hn:0≤n∧n≤4294967295)(hn':0≤n'∧n'≤4294967295)(hk:k≤65535)(hk':k'≤65535)(hb:b.length≤40000)(hb':b'.length≤40000)
  (h:cutF t n s b k=cutF t' n' s' b' k'):s=s':=by
 obtain⟨_,_,_,hm,_⟩:=Zes ht ht' hn hn' hk hk' hb hb' h
 unfold Zal secsN at hm
 cases s<;> cases s'<;> simp at hm ⊢ <;> omega
theorem Zos {b c:List Int}{k:Nat}(hl:b.length=c.length)(h: ∀j,48 * k - 4≤j→j<48 * k+44→b[j]?=c[j]?):allF b k=allF c k:=by
 have e:(b.drop (48 * k - 4)).take (min (48 * k+44) b.length - (48 * k - 4))=(c.drop (48 * k - 4)).take (min (48 * k+44) c.length - (48 * k - 4)):=by
  apply List.ext_getElem?
  intro j
  rw[hl]
  by_cases hj:j<min (48 * k+44) c.length - (48 * k - 4)
  ·rw[List.getElem?_take_of_lt hj,List.getElem?_take_of_lt hj,List.getElem?_drop,List.getElem?_drop]
   exact h _ (by omega) (by omega)
  ·rw[List.getElem?_eq_none (by simp;omega),List.getElem?_eq_none (by simp;omega)]
 unfold allF
 rw[e,hl]
theorem Zc1 {t n:Int}{s:Bool}{b c:List Int}{k:Nat}(hl:b.length=c.length)(h: ∀j,48 * k - 4≤j→j<48 * k+44→b[j]?=c[j]?):cutF t n s b k=cutF t n s c k:=by
 unfold cutF
 rw[Zos hl h,hl]
theorem Zsd {b:List Int}{k j:Nat}(hk:0<k)(hj:j<48)(hb:48 * k - 4+j<b.length):(allF b k)[j]?=b[48 * k - 4+j]?:=by
 unfold allF
 simp only[show¬k=0 by omega,if_false,List.nil_append]
 rw[List.getElem?_append_left (by simp;omega),List.getElem?_take_of_lt (by omega),List.getElem?_drop]
theorem Zqw {b:List Int}{j:Nat}(hj:j<44)(hb:j<b.length):(allF b 0)[4+j]?=b[j]?:=by
 unfold allF
 simp only[if_true,List.append_assoc]
 rw[List.getElem?_append_right (by simp[layF_length])]
 simp only[layF_length]
 rw[show 4+j - 32 / 8=j by omega,List.getElem?_append_left (by simp;omega),List.getElem?_take_of_lt (by omega),List.getElem?_drop]
 congr 1
 omega
theorem Zc2 {b:List Int}{k:Nat}:(allF b k).length=48:=by
 unfold allF
 split<;> simp[layF_length]<;> omega
/-! ### What is found -/
noncomputable def goS (S:Int→List Int)(h:Hd)(number place turn:Int)(snap:Bool):Nat→Nat→List Int→Option (List Int)
 | 0,_,b=>some b
 |m+1,k,b=>open Classical in if cutF turn number snap (Yo b (48 * k - 4) ((S (atF h.area (place+k))).drop 16)) k=S (atF h.area (place+k)) then goS S h number place turn snap m (k+1) (Yo b (48 * k - 4) ((S (atF h.area (place+k))).drop 16)) else none
def Zai (s:List Int):Int:=be s
def startN (s:List Int):Int:=be (s.drop 16)
def Zab (s:List Int):List Int:=Yo (List.replicate (startN s).toNat 0) 0 (s.drop 20)
def Starts (h:Hd)(left:Int)(s:List Int):Prop:=1≤Zai s∧Zai s≤h.turn∧startN s≤40000∧(secsN (startN s).toNat:Int)≤left
open Classical in
noncomputable def wholeS (S:Int→List Int)(h:Hd)(number place:Int)(snap:Bool)(left:Int):Option (List Int):=
 if left=0 then none else
 if Starts h left (S (atF h.area place))∧cutF (Zai (S (atF h.area place))) number snap (Zab (S (atF h.area place))) 0=S (atF h.area place) then
  goS S h number place (Zai (S (atF h.area place))) snap (secsN (startN (S (atF h.area place))).toNat - 1) 1 (Zab (S (atF h.area place)))
 else none
def LiesAt (S:Int→List Int)(h:Hd)(number place t:Int)(snap:Bool)(b:List Int):Prop:= ∀k:Nat,k<secsN b.length→S (atF h.area (place+k))=cutF t number snap b k
theorem Yu (n:Nat):1≤secsN n:=by unfold secsN;omega
theorem Zjk {S:Int→List Int}{h:Hd}{number place t:Int}{snap:Bool}{b:List Int}(hl:LiesAt S h number place t snap b): ∀(m k:Nat) (c:List Int),0<k→k+m=secsN b.length→c.length=b.length→(∀j,j<48 * k - 4→c[j]?=b[j]?)→goS S h number place t snap m k c=some b
 | 0,k,c,hk,hm,hc,hp=>by
  unfold goS
  congr 1
  apply List.ext_getElem?
  intro j
  by_cases hj:j<b.length
  ·exact hp j (by unfold secsN at hm;omega)
  ·rw[List.getElem?_eq_none (by omega),List.getElem?_eq_none (by omega)]
 |m+1,k,c,hk,hm,hc,hp=>by
  have hs:=hl k (by omega)
  have hoff:48 * k - 4≤c.length:=by unfold secsN at hm;omega
  have hd:((cutF t number snap b k).drop 16)=allF b k:=Zbu ..
  have hg: ∀j,j<48 * (k+1) - 4→(Yo c (48 * k - 4) (allF b k))[j]?=b[j]?:=by
   intro j hj
   rw[Zfl _ _ _ hoff,Zc2]
   split
   ·rename_i h1
    rw[Zsd hk (by omega) (by omega)]
    congr 1;omega
   ·by_cases h2:j<b.length
    ·exact hp j (by omega)
    ·rw[List.getElem?_eq_none (by omega),List.getElem?_eq_none (by omega)]
  have a0:(Yo c (48 * k - 4) (allF b k)).length=b.length:=by rw[Y3 _ _ _ hoff,hc]
  unfold goS
  rw[hs,hd,if_pos (Zc1 a0 (fun j _ h2=>hg j (by omega)))]
  exact Zjk hl m (k+1) _ (by omega) (by omega) a0 hg
theorem Zkg {S:Int→List Int}{h:Hd}{number place t left:Int}{snap:Bool}{b:List Int}(hl:LiesAt S h number place t snap b)(ht:1≤t∧t≤h.turn)(ht2:h.turn≤4294967295)(hb:b.length≤40000)(hs:(secsN b.length:Int)≤left):wholeS S h number place snap left=some b:=by
 have h0:=Yu b.length
 have e:=hl 0 (by omega)
 rw[show place+((0:Nat):Int)=place by omega] at e
 have eT:Zai (cutF t number snap b 0)=t:=Zfz (by omega) ..
 have eN:startN (cutF t number snap b 0)=b.length:=Zr7 hb
 have hd:(cutF t number snap b 0).drop 20=(allF b 0).drop 4:=by rw[←Zbu t number snap b 0,List.drop_drop]
 have hg: ∀j,j<44→(Zab (cutF t number snap b 0))[j]?=b[j]?:=by
  intro j hj
  unfold Zab
  rw[eN,hd,Zfl _ _ _ (by omega)]
  simp only[List.length_drop,Zc2,List.length_replicate,Int.toNat_natCast]
  split
  ·rename_i h1
   rw[List.getElem?_drop,show 4+(j - 0)=4+j by omega]
   exact Zqw hj h1.2.2
  ·rename_i h1
   rw[List.getElem?_eq_none (by simp;omega),List.getElem?_eq_none (by omega)]
 have a0:(Zab (cutF t number snap b 0)).length=b.length:=by
  unfold Zab
  rw[Y3 _ _ _ (by omega),eN];simp
 unfold wholeS
 rw[if_neg (by omega),e,eT,eN,if_pos ⟨⟨by rw[eT];omega,by rw[eT];omega,by rw[eN];omega,by rw[eN];simpa using hs⟩,Zc1 a0 (fun j _ h2=>hg j (by omega))⟩,Int.toNat_natCast]
 exact Zjk hl _ 1 _ (by omega) (by omega) a0 hg
theorem Zle {S:Int→List Int}{h:Hd}{number place t:Int}{snap:Bool}{b:List Int}: ∀(m k:Nat) (c:List Int),0<k→k+m=secsN c.length→goS S h number place t snap m k c=some b→
  b.length=c.length∧(∀j,j<48 * k - 4→b[j]?=c[j]?)∧ ∀i:Nat,k≤i→i<k+m→S (atF h.area (place+i))=cutF t number snap b i
 | 0,k,c,hk,hm,hf=>by
  unfold goS at hf
  injection hf with hf
  subst hf
  exact⟨rfl,fun _ _=>rfl,fun i h1 h2=>by omega⟩
 |m+1,k,c,hk,hm,hf=>by
  unfold goS at hf
  have hoff:48 * k - 4≤c.length:=by unfold secsN at hm;omega
  generalize hsrc:(S (atF h.area (place+k))).drop 16=src at hf
  split at hf
  ·rename_i hc
   have a0:(Yo c (48 * k - 4) src).length=c.length:=Y3 _ _ _ hoff
   obtain⟨g1,g2,g3⟩:=Zle m (k+1) _ (by omega) (by rw[a0];omega) hf
   have a1:src.length=48:=by rw[←hsrc,←hc,Zbu,Zc2]
   refine⟨by omega,fun j hj=>?_,fun i h1 h2=>?_⟩
   ·rw[g2 j (by omega),Zfl _ _ _ hoff,if_neg (by omega)]
   ·by_cases hi:i=k
    ·subst hi
     rw[←hc]
     exact Zc1 g1.symm (fun j _ h4=>(g2 j (by omega)).symm)
    ·exact g3 i (by omega) (by omega)
  ·cases hf
theorem Zl0 {S:Int→List Int}{h:Hd}{number place left:Int}{snap:Bool}{b:List Int}(hf:wholeS S h number place snap left=some b)(hby: ∀i,0≤startN (S i)):
  ∃t,(1≤t∧t≤h.turn)∧b.length≤40000∧(secsN b.length:Int)≤left∧LiesAt S h number place t snap b:=by
 unfold wholeS at hf
 split at hf
 ·cases hf
 ·split at hf
  ·rename_i h0 hc
   obtain⟨⟨h1,h2,h3,h4⟩,hc⟩:=hc
   have hn:=hby (atF h.area place)
   have a0:(Zab (S (atF h.area place))).length=(startN (S (atF h.area place))).toNat:=by
    unfold Zab;rw[Y3 _ _ _ (by omega)];simp
   have hp:=Yu (startN (S (atF h.area place))).toNat
   obtain⟨g1,g2,g3⟩:=Zle _ 1 _ (by omega) (by rw[a0];omega) hf
   refine⟨_,⟨h1,h2⟩,by omega,by rw[g1,a0];exact h4,fun k hk=>?_⟩
   rw[g1,a0] at hk
   by_cases h0:k=0
   ·subst h0
    rw[show place+((0:Nat):Int)=place by omega]
    rw (occs:=.pos [1]) [←hc]
    exact Zc1 g1.symm (fun j _ h6=>(g2 j (by omega)).symm)
   ·exact g3 k (by omega) (by omega)
  ·cases hf
def Zx (l:List (List Int)):Int:=(l.map fun b=>(secsN b.length:Int)).sum
theorem Zay:Zx []=0:=rfl
theorem Yj (b:List Int)(l:List (List Int)):Zx (b :: l)=secsN b.length+Zx l:=by simp[Zx]
theorem Zbl (k l:List (List Int)):Zx (k++l)=Zx k+Zx l:=by simp[Zx]
theorem Zed (l:List (List Int)):0≤Zx l:=by
 induction l with
 |nil=>simp[Zx]
 |cons b l ih=>rw[Yj];omega
noncomputable def Zcr (S:Int→List Int)(h:Hd):Nat→List (List Int)→Int→List (List Int)
 | 0,ps,_=>ps
 |f+1,ps,u=>match wholeS S h (h.number+ps.length) (h.place+u) (decide (ps=[])) (h.area - u) with
  |none=>ps
  |some b=>Zcr S h f (ps++[b]) (u+secsN b.length)
def PartsAt (S:Int→List Int)(h:Hd):Nat→Int→List (List Int)→Prop
 | _,_,[]=>True
 |j,u,b :: l=>(∃t,(1≤t∧t≤h.turn)∧LiesAt S h (h.number+j) (h.place+u) t (decide (j=0)) b)∧b.length≤40000∧PartsAt S h (j+1) (u+secsN b.length) l
theorem PartsAt.congr {S S':Int→List Int}{h:Hd}: ∀(l:List (List Int)) (j:Nat) (u:Int),(∀v,u≤v→v<u+Zx l→S' (atF h.area (h.place+v))=S (atF h.area (h.place+v)))→PartsAt S h j u l→PartsAt S' h j u l
 | [],_,_,_,_=>trivial
 |b :: l,j,u,hS,⟨⟨t,ht,hl⟩,hb,hr⟩=>by
  have h0:=Zed l
  have h1:=Yu b.length
  rw[Yj] at hS
  refine⟨⟨t,ht,fun k hk=>?_⟩,hb,PartsAt.congr l _ _ (fun v h1 h2=>hS v (by omega) (by omega)) hr⟩
  rw[←hl k hk,show h.place+u+(k:Int)=h.place+(u+k) by omega]
  exact hS _ (by omega) (by omega)
theorem PartsAt.turn {S:Int→List Int}{h h':Hd}(h1:h'.area=h.area)(h2:h'.place=h.place)(h3:h'.number=h.number)(h4:h.turn≤h'.turn): ∀(l:List (List Int)) (j:Nat) (u:Int),PartsAt S h j u l→PartsAt S h' j u l
 | [],_,_,_=>trivial
 |b :: l,j,u,⟨⟨t,ht,hl⟩,hb,hr⟩=>by
  refine⟨⟨t,by omega,fun k hk=>?_⟩,hb,PartsAt.turn h1 h2 h3 h4 l _ _ hr⟩
  rw[h1,h2,h3]
  exact hl k hk
theorem PartsAt.snoc {S:Int→List Int}{h:Hd}{b:List Int}: ∀(l:List (List Int)) (j:Nat) (u:Int),PartsAt S h j u l→(∃t,(1≤t∧t≤h.turn)∧LiesAt S h (h.number+(j+l.length:Nat)) (h.place+(u+Zx l)) t (decide (j+l.length=0)) b)→b.length≤40000→PartsAt S h j u (l++[b])
 | [],j,u,_,⟨t,ht,hl⟩,hb=>by
  simp only[Zay,List.length_nil,Nat.add_zero,Int.add_zero] at hl
  exact⟨⟨t,ht,hl⟩,hb,trivial⟩
 |c :: l,j,u,⟨hc,hcl,hr⟩,⟨t,ht,hl⟩,hb=>by
  refine⟨hc,hcl,PartsAt.snoc l _ _ hr ⟨t,ht,?_⟩ hb⟩
  rw[Yj] at hl
  rw[show j+1+l.length=j+(c :: l).length by simp;omega,show u+(secsN c.length:Int)+Zx l=u+(secsN c.length+Zx l) by omega]
  exact hl
theorem Zfx {S:Int→List Int}{h:Hd}(ht:h.turn≤4294967295): ∀(l:List (List Int)) (f:Nat) (ps:List (List Int)) (u:Int),PartsAt S h ps.length u l→u+Zx l≤h.area→l.length<f→
  wholeS S h (h.number+(ps++l).length) (h.place+(u+Zx l)) (decide (ps++l=[])) (h.area - (u+Zx l))=none→Zcr S h f ps u=ps++l
 | [],0,_,_,_,_,hf,_=>by simp at hf
 | [],f+1,ps,u,_,_,_,hn=>by
  simp only[List.append_nil,Zay,Int.add_zero] at hn ⊢
  unfold Zcr
  rw[hn]
 |b :: l,0,_,_,_,_,hf,_=>by simp at hf
 |b :: l,f+1,ps,u,⟨⟨t,h1,h2⟩,hb,hr⟩,hu,hf,hn=>by
  have h0:=Zed l
  rw[Yj] at hu hn
  have hw:wholeS S h (h.number+ps.length) (h.place+u) (decide (ps=[])) (h.area - u)=some b:=by
   have e:decide (ps=[])=decide (ps.length=0):=by simp
   rw[e]
   exact Zkg h2 h1 ht hb (by omega)
  unfold Zcr
  rw[hw]
  show Zcr S h f (ps++[b]) (u+secsN b.length)=ps++b :: l
  rw[show ps++b :: l=(ps++[b])++l by simp]
  refine Zfx ht l f (ps++[b]) _ (by simpa using hr) (by omega) (by simp at hf;omega) ?_
  rw[show ps++[b]++l=ps++b :: l by simp,show u+(secsN b.length:Int)+Zx l=u+(secsN b.length+Zx l) by omega]
  exact hn
/-! ### Sectors laid -/
def layS (S:Int→List Int):List (Int×List Int)→Int→List Int
 | []=>S
 |x :: l=>layS (fun i=>if i=x.1 then x.2 else S i) l
theorem Zbd {i:Int}: ∀(l:List (Int×List Int)) (S:Int→List Int),(∀x∈l,x.1≠i)→layS S l i=S i
 | [],_,_=>rfl
 |x :: l,S,h=>by
  unfold layS
  rw[Zbd l _ (fun y hy=>h y (List.mem_cons_of_mem _ hy))]
  simp[Ne.symm (h x (List.mem_cons_self ..))]
theorem Zde {i:Int}{b:List Int}: ∀(l:List (Int×List Int)) (S:Int→List Int),l.Pairwise (fun x y=>x.1≠y.1)→(i,b)∈l→layS S l i=b
 |x :: l,S,hp,h=>by
  unfold layS
  rw[List.pairwise_cons] at hp
  rcases List.mem_cons.1 h with rfl | h
  ·rw[Zbd l _ (fun y hy=>(hp.1 y hy).symm)]
   simp
  ·exact Zde l _ hp.2 h
theorem Zni {area p a b:Int}(ha:1≤area)(h:atF area (p+a)=atF area (p+b))(h1:a≤b)(h2:b<a+2 * area):a=b:=by
 unfold atF at h
 have e:(p+b) % (2 * area)=(p+a) % (2 * area):=by omega
 have:=Int.emod_emod_of_dvd (p+b) (Int.dvd_refl (2 * area))
 have h3:=Int.emod_add_mul_ediv (p+a) (2 * area)
 have h4:=Int.emod_add_mul_ediv (p+b) (2 * area)
 have h5:2 * area * ((p+b) / (2 * area)) - 2 * area * ((p+a) / (2 * area))=b - a:=by omega
 rw[←Int.mul_sub] at h5
 generalize (p+b) / (2 * area) - (p+a) / (2 * area)=q at h5
 rcases Int.lt_trichotomy q 0 with hq | hq | hq
 ·have:2 * area * q≤2 * area * (-1):=Int.mul_le_mul_of_nonneg_left (by omega) (by omega)
  omega
 ·subst hq;omega
 ·have:2 * area * 1≤2 * area * q:=Int.mul_le_mul_of_nonneg_left (by omega) (by omega)
  omega
def Za6 (h:Hd)(number place:Int)(snap:Bool)(b:List Int):List (Int×List Int):=(List.range (secsN b.length)).map fun(k:Nat)=>(atF h.area (place+k),cutF h.turn number snap b k)
theorem Zik {h:Hd}{number place:Int}{snap:Bool}{b:List Int}(ha:1≤h.area)(hs:(secsN b.length:Int)≤2 * h.area):(Za6 h number place snap b).Pairwise (fun x y=>x.1≠y.1):=by
 unfold Za6
 rw[List.pairwise_map]
 have hp:(List.range (secsN b.length)).Pairwise (fun i j=>i<j∧j<secsN b.length):=by
  rw[List.pairwise_iff_getElem]
  intro i j hi hj a0
  simp at hi hj ⊢
  omega
 refine hp.imp (fun {x y} hx e=>?_)
 have:=Zni ha e (by omega) (by omega)
 omega
theorem Zfu {S:Int→List Int}{h:Hd}{number place:Int}{snap:Bool}{b:List Int}(ha:1≤h.area)(hs:(secsN b.length:Int)≤2 * h.area):LiesAt (layS S (Za6 h number place snap b)) h number place h.turn snap b:=fun k hk=>
 Zde _ _ (Zik ha hs) (List.mem_map.2 ⟨k,by simpa using hk,rfl⟩)
theorem Zam {S:Int→List Int}{h:Hd}{number place i:Int}{snap:Bool}{b:List Int}(hi: ∀k:Nat,k<secsN b.length→atF h.area (place+k)≠i):layS S (Za6 h number place snap b) i=S i:=by
 refine Zbd _ _ (fun x hx=>?_)
 unfold Za6 at hx
 rw[List.mem_map] at hx
 obtain⟨k,hk,rfl⟩:=hx
 exact hi k (by simpa using hk)
end
end Go.Proofs.YtbimkhdiplnbfaaGreat
