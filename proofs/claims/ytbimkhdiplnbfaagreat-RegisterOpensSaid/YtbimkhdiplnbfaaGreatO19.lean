/- The register as a value: batches, and batches as bytes; readers of bytes. -/
import Derived.Test.YtbimkhdiplnbfaaGreatO2
import Derived.Test.YtbimkhdiplnbfaaGreatO3
import Derived.Test.YtbimkhdiplnbfaaGreatO16
import Derived.Test.YtbimkhdiplnbfaaGreatO17
import Derived.Test.YtbimkhdiplnbfaaGreatO18
import Derived.Laws.BytesArg
open Go.Lib (hid)
set_option linter.unusedVariables false
set_option linter.unusedSimpArgs false
namespace Go.Proofs.YtbimkhdiplnbfaaGreat
set_option maxRecDepth 1000000
set_option maxHeartbeats 16000000
section
open Go.RowKit
def numsOf (s:ByteArray):List Int:=s.data.toList.map fun c=>(c.toNat:Int)
theorem numsOf_bytes (s:ByteArray):Bytes (numsOf s):=by
 intro x hx
 simp only[numsOf,List.mem_map] at hx
 obtain⟨c,_,rfl⟩:=hx
 have:=c.toNat_lt
 omega
theorem numsOf_length (s:ByteArray):(numsOf s).length=s.size:=by
 show(List.map _ s.data.toList).length=s.data.size
 rw[List.length_map,Array.length_toList]
theorem strOf_numsOf (s:ByteArray):strOfNums (numsOf s)=s:=by
 cases s with
 |mk d=>
  have h: ∀l:List UInt8,(l.map fun c=>(c.toNat:Int)).map (fun n:Int=>UInt8.ofNat n.toNat)=l:=by
   intro l
   induction l with
   |nil=>rfl
   |cons c l ih=>rw[List.map_cons,List.map_cons,ih];simp
  show ByteArray.mk ((numsOf ⟨d⟩).map fun n=>UInt8.ofNat n.toNat).toArray=_
  simp only[numsOf,h,Array.toArray_toList]
theorem numsOf_strOf {xs:List Int}(h:Bytes xs):numsOf (strOfNums xs)=xs:=by
 simp only[numsOf,strOfNums_data,List.map_map]
 conv=>rhs;rw[←List.map_id xs]
 refine List.map_congr_left fun x hx=>?_
 have:=h x hx
 simp
 omega
theorem numsOf_inj {s t:ByteArray}(h:numsOf s=numsOf t):s=t:=by rw[←strOf_numsOf s,h,strOf_numsOf]
structure SetV where
 name:ByteArray
 was:Bool
 is:Bool
 old:List Int
 new:List Int
structure BatchV where
 epoch:Int
 large:Bool
 sets:List SetV
def BatchV.zero:BatchV:=⟨0,false,[]⟩
def flagF (b:Bool):Int:=if b then 1 else 0
def maybeF (f:Bool)(x:List Int):List Int:=flagF f :: (layF x.length 16++x)
def setF (x:SetV):List Int:=((x.name.size:Int) % 256) :: (numsOf x.name++(maybeF x.was x.old++maybeF x.is x.new))
def setsF (l:List SetV):List Int:=l.flatMap setF
def encF (b:BatchV):List Int:=layF b.epoch 64++([flagF b.large,(b.sets.length:Int) % 256]++setsF b.sets)
def SetV.right (x:SetV):Bool:=decide (1≤x.name.size∧x.name.size≤24∧x.old.length≤3000∧x.new.length≤3000∧(x.was=false→x.old=[])∧(x.is=false→x.new=[]))
def onceF:List SetV→Bool
 | []=>true
 |x :: l=>onceF l && !l.any (fun y=>decide (y.name=x.name))
def BatchV.right (b:BatchV):Bool:=decide (b.epoch≤4611686018427387904) && decide (b.sets.length≤48) && b.sets.all SetV.right && onceF b.sets
structure SetV.Ok (x:SetV):Prop where
 old:Bytes x.old
 new:Bytes x.new
structure BatchV.Ok (b:BatchV):Prop where
 epoch:0≤b.epoch∧b.epoch≤18446744073709551615
 sets: ∀x∈b.sets,x.Ok
/-! ### Readers -/
def Prs (α:Type):=List Int→Option (α×List Int)
def Prs.ret {α:Type}(v:α):Prs α:=fun l=>some (v,l)
def Prs.bind {α β:Type}(p:Prs α)(f:α→Prs β):Prs β:=fun l=>match p l with
 |none=>none
 |some (v,r)=>f v r
def Prs.take (n:Nat):Prs (List Int):=fun l=>if l.length<n then none else some (l.take n,l.drop n)
def numP (n:Nat):Prs Int:=(Prs.take n).bind fun b=>Prs.ret (beF b)
def maybeP:Prs (Int×List Int):=(numP 1).bind fun f=>(numP 2).bind fun n=>(Prs.take n.toNat).bind fun x=>Prs.ret (f,x)
def setP:Prs (SetV×Bool):=(numP 1).bind fun n=>(Prs.take n.toNat).bind fun nm=>maybeP.bind fun o=>maybeP.bind fun x=>
 Prs.ret (⟨strOfNums nm,decide (o.1=1),decide (x.1=1),o.2,x.2⟩,decide (1<o.1) || decide (1<x.1))
def setsP:Nat→Prs (List SetV×Bool)
 | 0=>Prs.ret ([],false)
 |n+1=>setP.bind fun x=>(setsP n).bind fun l=>Prs.ret (x.1 :: l.1,x.2 || l.2)
def batchP:Prs (BatchV×Bool):=(numP 8).bind fun e=>(numP 1).bind fun f=>(numP 1).bind fun c=>(setsP c.toNat).bind fun l=>
 Prs.ret (⟨e,decide (f=1),l.1⟩,decide (1<f) || l.2)
def decF (l:List Int):BatchV×Int:=match batchP l with
 |none=>(BatchV.zero,7)
 |some (b,r)=>if b.2 || decide (0<r.length) || !b.1.right then(BatchV.zero,2) else(b.1,0)
/-! ### What is laid is read -/
theorem beF_step (x:Int)(bs:List Int):bs.foldl (fun x b=>x * 256+b) x=x * 256 ^ bs.length+beF bs:=by
 induction bs generalizing x with
 |nil=>simp[beF]
 |cons b bs ih=>
  simp only[List.foldl_cons,beF,List.length_cons]
  rw[ih (x * 256+b),ih (0 * 256+b),Int.pow_succ]
  simp only[Int.zero_mul,Int.zero_add,Int.add_mul]
  rw[Int.mul_assoc,Int.mul_comm 256]
  omega
theorem beF_cons (b:Int)(bs:List Int):beF (b :: bs)=b * 256 ^ bs.length+beF bs:=by
 have:=beF_step b bs
 simp only[beF,List.foldl_cons,Int.zero_mul,Int.zero_add] at this ⊢
 exact this
theorem beF_nonneg: ∀{bs:List Int},Bytes bs→0≤beF bs
 | [],_=>by simp[beF]
 |b :: bs,h=>by
  rw[beF_cons]
  have h1:=h b (by simp)
  have h2:=beF_nonneg (bs:=bs) fun x hx=>h x (by simp[hx])
  have h3:(0:Int)≤256 ^ bs.length:=Int.pow_nonneg (by omega)
  have:=Int.mul_nonneg h1.1 h3
  omega
theorem beF_lt: ∀{bs:List Int},Bytes bs→beF bs<256 ^ bs.length
 | [],_=>by simp[beF]
 |b :: bs,h=>by
  rw[beF_cons,List.length_cons,Int.pow_succ]
  have h1:=h b (by simp)
  have h2:=beF_lt (bs:=bs) fun x hx=>h x (by simp[hx])
  have h3:b * 256 ^ bs.length≤255 * 256 ^ bs.length:=Int.mul_le_mul_of_nonneg_right h1.2 (Int.pow_nonneg (by omega))
  omega
theorem beF_two (a b:Int):beF [a,b]=a * 256+b:=by simp[beF]
theorem layF_two (x:Int):layF x 16=[x / 256 % 256,x % 256]:=by
 have:layF x 16=[x / 2 ^ 8 % 256,x / 2 ^ 0 % 256]:=rfl
 rw[this]
 simp
theorem layF_eight (x:Int):layF x 64=[x / 2 ^ 56 % 256,x / 2 ^ 48 % 256,x / 2 ^ 40 % 256,x / 2 ^ 32 % 256,x / 2 ^ 24 % 256,x / 2 ^ 16 % 256,x / 2 ^ 8 % 256,x / 2 ^ 0 % 256]:=rfl
theorem beF_layF16 {x:Int}(h:0≤x∧x≤65535):beF (layF x 16)=x:=by
 rw[layF_two,beF_two];omega
theorem beF_layF64 {x:Int}(h:0≤x∧x≤18446744073709551615):beF (layF x 64)=x:=by
 rw[layF_eight]
 simp only[beF,List.foldl_cons,List.foldl_nil]
 omega
theorem layF16_beF {a b:Int}(ha:0≤a∧a≤255)(hb:0≤b∧b≤255):layF (beF [a,b]) 16=[a,b]:=by
 rw[layF_two,beF_two]
 congr 1
 ·omega
 ·congr 1;omega
theorem layF64_beF {a b c d e f g h:Int}(hb:Bytes [a,b,c,d,e,f,g,h]):layF (beF [a,b,c,d,e,f,g,h]) 64=[a,b,c,d,e,f,g,h]:=by
 have ha:=hb a (by simp);have h2:=hb b (by simp);have h3:=hb c (by simp);have h4:=hb d (by simp);have h5:=hb e (by simp);have h6:=hb f (by simp);have h7:=hb g (by simp);have h8:=hb h (by simp)
 rw[layF_eight]
 simp only[beF,List.foldl_cons,List.foldl_nil]
 congr 1
 ·omega
 congr 1
 ·omega
 congr 1
 ·omega
 congr 1
 ·omega
 congr 1
 ·omega
 congr 1
 ·omega
 congr 1
 ·omega
 congr 1
 omega
theorem take_at (c r:List Int):Prs.take c.length (c++r)=some (c,r):=by
 simp only[Prs.take]
 rw[if_neg (by simp)]
 simp
theorem take_at' {n:Nat}{c:List Int}(r:List Int)(h:c.length=n):Prs.take n (c++r)=some (c,r):=by rw[←h];exact take_at c r
theorem num_at {n:Nat}{c:List Int}(r:List Int)(h:c.length=n):numP n (c++r)=some (beF c,r):=by
 simp only[numP,Prs.bind,take_at' r h,Prs.ret]
theorem num_one (x:Int)(r:List Int):numP 1 (x :: r)=some (x,r):=by
 have:=num_at (c:=[x]) r rfl
 simpa [beF] using this
theorem flagF_le (b:Bool):decide (1<flagF b)=false:=by cases b<;> rfl
theorem flagF_one (b:Bool):decide (flagF b=1)=b:=by cases b<;> rfl
theorem maybe_at (f:Bool){x:List Int}(r:List Int)(h:x.length≤65535):maybeP (maybeF f x++r)=some ((flagF f,x),r):=by
 simp only[maybeP,maybeF,Prs.bind,List.cons_append,List.append_assoc,num_one]
 rw[num_at _ (by simp[layF_length])]
 simp only[beF_layF16 (x:=(x.length:Int)) (by omega),take_at' r (show x.length=(x.length:Int).toNat by omega),Prs.ret]
theorem set_at {x:SetV}(r:List Int)(h:x.right=true):setP (setF x++r)=some ((x,false),r):=by
 simp only[SetV.right,decide_eq_true_eq] at h
 obtain⟨h1,h2,h3,h4,h5,h6⟩:=h
 simp only[setP,setF,Prs.bind,List.cons_append,List.append_assoc,num_one]
 rw[take_at' (c:=numsOf x.name) _ (by rw[numsOf_length];omega)]
 simp only[maybe_at x.was _ (show x.old.length≤65535 by omega),maybe_at x.is _ (show x.new.length≤65535 by omega),Prs.ret,flagF_le,flagF_one,strOf_numsOf,Bool.or_self]
theorem sets_at: ∀{l:List SetV} (r:List Int),(∀x∈l,x.right=true)→setsP l.length (setsF l++r)=some ((l,false),r)
 | [],r,_=>by simp[setsP,setsF,Prs.ret]
 |x :: l,r,h=>by
  have:=sets_at (l:=l) r fun y hy=>h y (by simp[hy])
  have e:setsF (x :: l)++r=setF x++(setsF l++r):=by simp[setsF]
  rw[e]
  show(setP.bind fun x=>(setsP l.length).bind fun l=>Prs.ret (x.1 :: l.1,x.2 || l.2)) (setF x++(setsF l++r))=_
  simp only[Prs.bind,set_at _ (h x (by simp)),this,Prs.ret,Bool.or_self]
theorem batch_at {b:BatchV}(r:List Int)(h:b.right=true)(hk:b.Ok):batchP (encF b++r)=some ((b,false),r):=by
 simp only[BatchV.right,Bool.and_eq_true,decide_eq_true_eq,List.all_eq_true] at h
 obtain⟨⟨⟨h1,h2⟩,h3⟩,h4⟩:=h
 simp only[batchP,encF,Prs.bind,List.append_assoc]
 rw[num_at _ (by simp[layF_length])]
 simp only[List.cons_append,List.nil_append,num_one,beF_layF64 hk.epoch]
 have e:((b.sets.length:Int) % 256).toNat=b.sets.length:=by omega
 simp only[e,sets_at r h3,Prs.ret,flagF_le,flagF_one,Bool.or_self]
theorem dec_enc {b:BatchV}(h:b.right=true)(hk:b.Ok):decF (encF b)=(b,0):=by
 have:=batch_at [] h hk
 rw[List.append_nil] at this
 simp only[decF,this,h]
 simp
/-! ### What is read was laid -/
theorem take_inv {n:Nat}{l c r:List Int}(h:Prs.take n l=some (c,r)):l=c++r∧c.length=n:=by
 simp only[Prs.take] at h
 split at h
 ·cases h
 ·simp only[Option.some.injEq,Prod.mk.injEq] at h
  obtain⟨rfl,rfl⟩:=h
  exact⟨(List.take_append_drop n l).symm,by simp;omega⟩
theorem num_inv {n:Nat}{l r:List Int}{x:Int}(h:numP n l=some (x,r)): ∃c,l=c++r∧c.length=n∧x=beF c:=by
 simp only[numP,Prs.bind] at h
 split at h
 ·cases h
 ·rename_i c r1 h1
  simp only[Prs.ret,Option.some.injEq,Prod.mk.injEq] at h
  obtain⟨rfl,rfl⟩:=h
  obtain⟨k1,k2⟩:=take_inv h1
  exact⟨c,k1,k2,rfl⟩
theorem one_inv {l r:List Int}{x:Int}(h:numP 1 l=some (x,r)):l=x :: r:=by
 obtain⟨c,rfl,h2,rfl⟩:=num_inv h
 match c,h2 with
 | [y],_=>simp[beF]
theorem Bytes.left {a b:List Int}(h:Bytes (a++b)):Bytes a:=fun x hx=>h x (by simp[hx])
theorem Bytes.right {a b:List Int}(h:Bytes (a++b)):Bytes b:=fun x hx=>h x (by simp[hx])
theorem Bytes.tail' {a:Int}{b:List Int}(h:Bytes (a :: b)):Bytes b:=fun x hx=>h x (by simp[hx])
theorem flag_back {x:Int}(h:0≤x∧x≤255)(hb:decide (1<x)=false):flagF (decide (x=1))=x:=by
 have h1: ¬1<x:=by simpa using hb
 by_cases e:x=1
 ·rw[e];rfl
 ·have:x=0:=by omega
  rw[this];rfl
theorem maybe_inv {l r:List Int}{v:Int×List Int}(h:maybeP l=some (v,r))(hB:Bytes l)(hb:decide (1<v.1)=false):l=maybeF (decide (v.1=1)) v.2++r∧v.2.length≤65535:=by
 simp only[maybeP,Prs.bind] at h
 split at h
 ·cases h
 rename_i f r1 h1
 split at h
 ·cases h
 rename_i n r2 h2
 split at h
 ·cases h
 rename_i x r3 h3
 simp only[Prs.ret,Option.some.injEq,Prod.mk.injEq] at h
 obtain⟨rfl,rfl⟩:=h
 have e1:=one_inv h1
 obtain⟨c,e2,e3,e4⟩:=num_inv h2
 obtain⟨e5,e6⟩:=take_inv h3
 match c,e3 with
 | [a,b],_=>
  subst e1 e2 e5
  have hf:=hB f (by simp)
  have ha:=hB a (by simp)
  have hb':=hB b (by simp)
  have hn:beF [a,b]=(x.length:Int):=by
   have:0≤beF [a,b]:=beF_nonneg (bs:=[a,b]) (fun y hy=>by simp at hy;rcases hy with rfl | rfl<;> assumption)
   rw[e4] at e6;omega
  refine⟨?_,?_⟩
  ·simp only[maybeF,flag_back hf hb,←hn,layF16_beF ha hb']
   simp
  ·rw[beF_two] at hn;simp only;omega
theorem set_inv {l r:List Int}{v:SetV×Bool}(h:setP l=some (v,r))(hB:Bytes l)(hb:v.2=false):l=setF v.1++r:=by
 simp only[setP,Prs.bind] at h
 split at h
 ·cases h
 rename_i n r1 h1
 split at h
 ·cases h
 rename_i nm r2 h2
 split at h
 ·cases h
 rename_i o r3 h3
 split at h
 ·cases h
 rename_i x r4 h4
 simp only[Prs.ret,Option.some.injEq,Prod.mk.injEq] at h
 obtain⟨rfl,rfl⟩:=h
 simp only[Bool.or_eq_false_iff] at hb
 have e1:=one_inv h1
 obtain⟨e2,e3⟩:=take_inv h2
 subst e1 e2
 have hn:=hB n (by simp)
 have hB2:Bytes (nm++r2):=hB.tail'
 obtain⟨e4,e5⟩:=maybe_inv h3 hB2.right hb.1
 subst e4
 obtain⟨e6,e7⟩:=maybe_inv h4 hB2.right.right hb.2
 subst e6
 simp only[setF,strOfNums_size,numsOf_strOf hB2.left]
 rw[show((nm.length:Int) % 256)=n by omega]
 simp
theorem sets_inv: ∀{n:Nat} {l r:List Int} {v:List SetV×Bool},setsP n l=some (v,r)→Bytes l→v.2=false→l=setsF v.1++r∧v.1.length=n
 | 0,l,r,v,h,_,_=>by
  simp only[setsP,Prs.ret,Option.some.injEq,Prod.mk.injEq] at h
  obtain⟨rfl,rfl⟩:=h
  simp[setsF]
 |n+1,l,r,v,h,hB,hb=>by
  simp only[setsP,Prs.bind] at h
  split at h
  ·cases h
  rename_i x r1 h1
  split at h
  ·cases h
  rename_i y r2 h2
  simp only[Prs.ret,Option.some.injEq,Prod.mk.injEq] at h
  obtain⟨rfl,rfl⟩:=h
  simp only[Bool.or_eq_false_iff] at hb
  have e1:=set_inv h1 hB hb.1
  subst e1
  obtain⟨e2,e3⟩:=sets_inv h2 hB.right hb.2
  subst e2
  exact⟨by simp[setsF],by simp[e3]⟩
theorem batch_inv {l r:List Int}{v:BatchV×Bool}(h:batchP l=some (v,r))(hB:Bytes l)(hb:v.2=false):l=encF v.1++r:=by
 simp only[batchP,Prs.bind] at h
 split at h
 ·cases h
 rename_i e r1 h1
 split at h
 ·cases h
 rename_i f r2 h2
 split at h
 ·cases h
 rename_i c r3 h3
 split at h
 ·cases h
 rename_i y r4 h4
 simp only[Prs.ret,Option.some.injEq,Prod.mk.injEq] at h
 obtain⟨rfl,rfl⟩:=h
 simp only[Bool.or_eq_false_iff] at hb
 obtain⟨c8,e1,e2,e3⟩:=num_inv h1
 have e4:=one_inv h2
 have e5:=one_inv h3
 subst e1 e4 e5
 have hf:=hB f (by simp)
 have hc:=hB c (by simp)
 have hB2:Bytes r3:=fun x hx=>hB x (by simp[hx])
 obtain⟨e6,e7⟩:=sets_inv h4 hB2 hb.2
 subst e6
 have h8:=hB.left
 match c8,e2 with
 | [a,b,c',d,e',f',g,h'],_=>
  subst e3
  simp only[encF,flag_back hf hb.1,layF64_beF h8,e7]
  rw[show((c.toNat:Int) % 256)=c by omega]
  simp
theorem enc_dec {l:List Int}(hB:Bytes l)(h:(decF l).2=0):encF (decF l).1=l∧(decF l).1.right=true:=by
 cases hp:batchP l with
 |none=>simp only[decF,hp] at h;cases h
 |some y=>
  obtain⟨b,r⟩:=y
  by_cases hc:(b.2 || decide (0<r.length) || !b.1.right)=true
  ·simp only[decF,hp,if_pos hc] at h;cases h
  ·simp only[decF,hp,if_neg hc]
   simp only[Bool.or_eq_true,decide_eq_true_eq,Bool.not_eq_true',not_or,Bool.not_eq_true,Bool.not_eq_false] at hc
   obtain⟨⟨k1,k2⟩,k3⟩:=hc
   have:=batch_inv hp hB k1
   have hr:r=[]:=List.length_eq_zero_iff.1 (by omega)
   subst hr
   rw[List.append_nil] at this
   exact⟨this.symm,k3⟩
end
section
open Go.RowKit Go.Shelf
def BytesAt (w:World)(C:Nat→Prop)(v:Value)(bs:List Int):Prop:=
 (v=.slice none 0 0∧bs=[])∨ ∃g o c,C g∧v=.slice (some ⟨g,o,none⟩) bs.length c∧bs.length≤c∧c≤maxLen∧ ∀(i:Nat) u,(bcells bs)[i]?=some u→w.cell? ⟨g,o+i,none⟩=some u
theorem BytesAt.kept {F:Nat→Prop}{w w':World}{C:Nat→Prop}{v:Value}{bs:List Int}(h:BytesAt w C v bs)(hu:Upd F w w')(hg: ∀k,C k→ ¬F k):BytesAt w' C v bs:=by
 rcases h with h | ⟨g,o,c,h0,h1,h2,h3,h4⟩
 ·exact .inl h
 ·exact .inr ⟨g,o,c,h0,h1,h2,h3,fun i u hi=>cell_keptF hu (hg g h0) (h4 i u hi)⟩
theorem BytesAt.mono {w:World}{C C':Nat→Prop}{v:Value}{bs:List Int}(h:BytesAt w C v bs)(hc: ∀k,C k→C' k):BytesAt w C' v bs:=by
 rcases h with h | ⟨g,o,c,h0,h1⟩
 ·exact .inl h
 ·exact .inr ⟨g,o,c,hc g h0,h1⟩
theorem BytesAt.bytesIn {w:World}{C:Nat→Prop}{v:Value}{bs:List Int}(h:BytesAt w C v bs):BytesIn w v bs:=by
 rcases h with h | ⟨g,o,c,h0,h1,h2,h3,h4⟩
 ·exact .inl h
 ·exact .inr ⟨⟨g,o,none⟩,c,h1,h2,h3,fun i u hi=>by rw[Addr.add_mid];exact h4 i u hi⟩
theorem BytesAt.slice {w:World}{C:Nat→Prop}{v:Value}{bs:List Int}(h:BytesAt w C v bs): ∃a c,v=.slice a bs.length c∧bs.length≤c∧c≤maxLen:=by
 rcases h with ⟨rfl,rfl⟩ | ⟨g,o,c,h0,h1,h2,h3,h4⟩
 ·exact⟨none,0,rfl,by simp,by unfold maxLen;omega⟩
 ·exact⟨_,c,h1,h2,h3⟩
theorem size39e (W:World):(sizeOf (Tryz.prog.elem 39)).run Tryz.prog W=.ok 1 W:=by kernel_rfl
theorem elem39:Tryz.prog.underlying 39=some (.slice (Tryz.prog.elem 39)):=by kernel_rfl
theorem BytesAt.front {w:World}{C:Nat→Prop}{v:Value}{bs:List Int}(h:BytesAt w C v bs){n:Nat}(hn:n≤bs.length):
  ∃u,(∀W,(Instr.slice 39 v none (some (.int .i64 n)) (some (.int .i64 n))).run Tryz.prog W=.ok u W)∧BytesAt w C u (bs.take n):=by
 have hl:(bs.take n).length=n:=by simp;omega
 rcases h with ⟨rfl,rfl⟩ | ⟨g,o,c,h0,rfl,h2,h3,h4⟩
 ·obtain rfl:n=0:=by simpa using hn
  refine⟨.slice none 0 0,fun W=>?_,.inl ⟨rfl,rfl⟩⟩
  have:=run_slice_hm W 39 none 0 0 elem39 .i64 .i64 0 0 (by omega) (by omega) (by omega)
  rw[show((0:Nat):Int)=0 from rfl,this,size39e]
  rfl
 ·refine⟨.slice (some ⟨g,o,none⟩) n n,fun W=>?_,.inr ⟨g,o,n,h0,by rw[hl],by rw[hl];omega,by omega,fun i u hi=>h4 i u ?_⟩⟩
  ·rw[run_slice_hm W 39 _ bs.length c elem39 .i64 .i64 n n (by omega) (by omega) (by omega),size39e]
   simp[Result.andThen,sliced]
   intro _
   rw[Addr.add_mid,Nat.add_zero]
  ·have hi2:=(List.getElem?_eq_some_iff.1 hi).1
   simp only[bcells,List.length_map,hl] at hi2
   simp only[bcells,List.getElem?_map,List.getElem?_take_of_lt hi2] at hi ⊢
   exact hi
theorem BytesAt.rest {w:World}{C:Nat→Prop}{v:Value}{bs:List Int}(h:BytesAt w C v bs){n:Nat}(hn:n≤bs.length):
  ∃u,(∀W,(Instr.slice 39 v (some (.int .i64 n)) none none).run Tryz.prog W=.ok u W)∧BytesAt w C u (bs.drop n):=by
 have hl:(bs.drop n).length=bs.length - n:=by simp
 rcases h with ⟨rfl,rfl⟩ | ⟨g,o,c,h0,rfl,h2,h3,h4⟩
 ·obtain rfl:n=0:=by simpa using hn
  refine⟨.slice none 0 0,fun W=>?_,.inl ⟨rfl,rfl⟩⟩
  have:=run_slice_l W 39 none 0 0 elem39 .i64 0 (by omega) (by omega)
  rw[show((0:Nat):Int)=0 from rfl,this,size39e]
  rfl
 ·refine⟨.slice (some ⟨g,if c=n then o else o+n,none⟩) (bs.length - n) (c - n),fun W=>?_,.inr ⟨g,if c=n then o else o+n,c - n,h0,by rw[hl],by rw[hl];omega,by omega,fun i u hi=>?_⟩⟩
  ·rw[run_slice_l W 39 _ bs.length c elem39 .i64 n (by omega) (by omega),size39e]
   by_cases hc:c=n
   ·subst hc
    simp[Result.andThen,sliced]
   ·simp only[Result.andThen,sliced,if_neg hc]
    simp[hc,Addr.add_mid]
  ·have hi2:=(List.getElem?_eq_some_iff.1 hi).1
   simp only[bcells,List.length_map,hl] at hi2
   rw[if_neg (by omega),Nat.add_assoc]
   refine h4 (n+i) u ?_
   simp only[bcells,List.getElem?_map,List.getElem?_drop] at hi ⊢
   exact hi
def RdS (w:World)(r:Nat)(C:Nat→Prop)(st:Option (List Int)):Prop:=(¬C r∧ ∀k,C k→k<w.heap.size)∧
 match st with
 |some bs=> ∃v,w.heap[r]?=some (.cells #[v,.int .i64 0] 236 (0,0))∧BytesAt w C v bs∧Bytes bs
 |none=> ∃a n c,w.heap[r]?=some (.cells #[.slice a n c,.int .i64 7] 236 (0,0))
theorem RdS.kept {F:Nat→Prop}{w w':World}{r:Nat}{C:Nat→Prop}{st:Option (List Int)}(h:RdS w r C st)(hu:Upd F w w')(hr: ¬F r)(hg: ∀k,C k→ ¬F k):RdS w' r C st:=by
 obtain⟨h0,h⟩:=h
 refine⟨⟨h0.1,fun k hk=>Nat.lt_of_lt_of_le (h0.2 k hk) hu.size⟩,?_⟩
 cases st with
 |some bs=>
  obtain⟨v,h1,h3,h4⟩:=h
  exact⟨v,(hu.block _ (lt_of_heap h1) hr).trans h1,h3.kept hu hg,h4⟩
 |none=>
  obtain⟨a,n,c,h1⟩:=h
  exact⟨a,n,c,(hu.block _ (lt_of_heap h1) hr).trans h1⟩
theorem RdS.lt {w:World}{r:Nat}{C:Nat→Prop}{st:Option (List Int)}(h:RdS w r C st):r<w.heap.size:=by
 obtain⟨h0,h⟩:=h
 cases st with
 |some bs=>obtain⟨v,h1,_⟩:=h;exact lt_of_heap h1
 |none=>obtain⟨a,n,c,h1⟩:=h;exact lt_of_heap h1
def takeS (n:Nat):Option (List Int)→List Int×Option (List Int)
 |none=>([],none)
 |some bs=>if bs.length<n then([],none) else(bs.take n,some (bs.drop n))
def numS (n:Nat)(st:Option (List Int)):Int×Option (List Int):=(beF (takeS n st).1,(takeS n st).2)
theorem or_shift' {x b:Int}(n:Nat)(hn:n≤56)(h0:0≤x)(h1:x<2 ^ n)(h2:0≤b)(h3:b≤255):bits .or .u64 x (b * 2 ^ n)=b * 2 ^ n+x:=by
 obtain⟨B,rfl⟩:=Int.eq_ofNat_of_zero_le h2
 obtain⟨X,rfl⟩:=Int.eq_ofNat_of_zero_le h0
 have e:(B:Int) * 2 ^ n=((2 ^ n * B:Nat):Int):=by rw[Int.mul_comm];push_cast;rfl
 have hX:X<2 ^ n:=by exact_mod_cast h1
 have h24:2 ^ n≤2 ^ 56:=Nat.pow_le_pow_right (by omega) hn
 have hm:2 ^ n * B≤2 ^ 56 * 255:=Nat.mul_le_mul h24 (by omega)
 rw[e,u64_or_nat _ _ (by omega) (by omega),Nat.or_comm,←Nat.two_pow_add_eq_or_of_lt hX]
 push_cast
 rfl
theorem bitsK_any {bx:Nat}{C:Nat→Prop}{v:Value}{bs:List Int}(w:World)(hv:BytesAt w C v bs)(hB:Bytes bs)(hl:bs.length≤8)(hx:w.heap[bx]?=some (.cells #[.int .u64 0] 53 (0,0)))(hne: ¬C bx):
  Calls Tryz.prog 181 #[v,.pointer (some ⟨bx,0,none⟩)] w fun e w'=>(∃v,e=.returned v)∧w'.heap[bx]?=some (.cells #[.int .u64 (beF bs)] 53 (0,0))∧Upd (fun k=>k=bx) w w':=by
 obtain⟨a,c,rfl,hc1,hc2⟩:=hv.slice
 have HV:=hid hv;have HX:=hid hx;have HB:=hid hB;have HN:=hid hne
 clear hv hB hx hne
 unfold maxLen at hc2
 go_enter Tryz.func181,Tryz.ntmps181
 go_upto_region 1 with fail
 go_loopg [6] bs.length (fun gk i wr=> ∃k:Nat,k≤bs.length∧gk=bs.length - k∧i=.int .i64 k∧Upd (fun k=>k=bx) w wr∧wr.heap[bx]?=some (.cells #[.int .u64 (beF (bs.drop (bs.length - k)))] 53 (0,0)))
 case atStart=>exact⟨0,by omega,rfl,rfl,Upd.refl _ _,by simpa [beF] using HX.out⟩
 case round=>
  obtain⟨k,hk,rfl,rfl,hu,hc⟩:=hrel
  have hxb:0≤beF (bs.drop (bs.length - k)):=beF_nonneg fun x hx=>HB.out x (List.mem_of_mem_drop hx)
  have hxl:beF (bs.drop (bs.length - k))<2 ^ (8 * k):=by
   have:=beF_lt (bs:=bs.drop (bs.length - k)) fun x hx=>HB.out x (List.mem_of_mem_drop hx)
   rw[List.length_drop,show bs.length - (bs.length - k)=k by omega] at this
   rw[Int.pow_mul]
   exact this
  obtain⟨x,hx⟩: ∃x,x=beF (bs.drop (bs.length - k)):=⟨_,rfl⟩
  rw[←hx] at hc hxb hxl
  have HX0:=hid hx;have HXL:=hid (And.intro hxb hxl)
  clear hx hxb hxl
  have c1:=cells1_of hc
  have f1:wr.frozen? ⟨bx,0,none⟩=false:=frozen_of_heap hc
  have HU:=hid hu;have HC:=hid hc
  clear hu hc
  by_cases hkn:k<bs.length
  ·have hkni:(k:Int)<bs.length:=by omega
   obtain⟨j,hj⟩: ∃j,j=bs.length - 1 - k:=⟨_,rfl⟩
   have hjl:j<bs.length:=by omega
   obtain⟨b,hb⟩: ∃b,bs[j]?=some b:=⟨_,List.getElem?_eq_getElem hjl⟩
   have hbb:=HB.out b (List.mem_of_getElem? hb)
   rcases HV.out with ⟨e,_⟩ | ⟨g,o,c',hCg,e,_,_,hcs⟩
   ·injection e with e1 e2 e3;omega
   injection e with e1 e2 e3
   subst e1 e3;clear e2
   have q:wr.cell? ⟨g,o+j,none⟩=some (.int .u8 b):=cell_keptF HU.out (fun e=>HN.out (e ▸ hCg)) (hcs _ _ (by simp[bcells,hb]))
   go_upto_region 3 with fail
   have hlI:(bs.length:Int)≤8:=by omega
   have hw1:IntKind.i64.wrap ((bs.length:Int) - 1)=((bs.length - 1:Nat):Int):=by rw[IntKind.wrap_i64];omega
   have hw2:IntKind.i64.wrap (((bs.length - 1:Nat):Int) - k)=(j:Int):=by rw[IntKind.wrap_i64];omega
   have hw3:IntKind.i64.wrap (8 * (k:Int))=((8 * k:Nat):Int):=by rw[IntKind.wrap_i64];omega
   have hw4:IntKind.u64.wrap b=b:=by rw[IntKind.wrap_u64];omega
   have HJ:=hid hj
   clear hj
   go_still_tail 14,(by kernel_rfl)
   go_wp2
   go_roundg (bs.length - (k+1))
   case measure=>omega
   case rel=>
    refine⟨k+1,by omega,rfl,congrArg _ (by omega),HU.out.trans (((upd_own wr bx 0 _).drew)),?_⟩
    have hx1:=HXL.out
    have h56:(2:Int) ^ (8 * k)≤2 ^ 56:=by
     have:(2:Nat) ^ (8 * k)≤2 ^ 56:=Nat.pow_le_pow_right (by omega) (by omega)
     exact_mod_cast this
    have hp:(0:Int)≤2 ^ (8 * k):=Int.pow_nonneg (by omega)
    have hb1:b * 2 ^ (8 * k)≤255 * 2 ^ 56:=Int.le_trans (Int.mul_le_mul_of_nonneg_right hbb.2 hp) (Int.mul_le_mul_of_nonneg_left h56 (by omega))
    have hb0:0≤b * 2 ^ (8 * k):=Int.mul_nonneg hbb.1 hp
    have e1:IntKind.u64.wrap (b * 2 ^ (8 * k))=b * 2 ^ (8 * k):=by rw[IntKind.wrap_u64];omega
    have e2:bits .or .u64 x (b * 2 ^ (8 * k))=beF (bs.drop (bs.length - (k+1))):=by
     rw[or_shift' (8 * k) (by omega) hx1.1 hx1.2 hbb.1 hbb.2]
     have hj:=HJ.out
     have:bs.drop (bs.length - (k+1))=b :: bs.drop (bs.length - k):=by
      rw[show bs.length - (k+1)=j by omega,List.drop_eq_getElem_cons hjl,show j+1=bs.length - k by omega]
      rw[List.getElem?_eq_getElem hjl] at hb
      injection hb with hb
      rw[hb]
     rw[this,beF_cons,←HX0.out,List.length_drop,show bs.length - (bs.length - k)=k by omega,Int.pow_mul]
     rfl
    rw[e1,e2]
    have:=blk_set (i:=0) (v:=.int .u64 (beF (bs.drop (bs.length - (k+1))))) HC.out
    simpa [World.drew] using this
  ·obtain rfl:k=bs.length:=by omega
   go_wp2
   refine bodyPost_end (results_none rfl _ _ _) rfl ?_
   have e:=HX0.out
   rw[Nat.sub_self,List.drop_zero] at e
   exact⟨⟨_,rfl⟩,by rw[←e];exact HC.out,HU.out⟩
theorem BytesAt.slice' {w:World}{C:Nat→Prop}{v:Value}{bs:List Int}(h:BytesAt w C v bs): ∃a m c,v=.slice a m c:=by
 obtain⟨a,c,h1,_⟩:=h.slice
 exact⟨a,_,c,h1⟩
theorem give_no {r n:Nat}{C:Nat→Prop}{fv:Value}(w:World)(h:RdS w r C none):
  Calls Tryz.prog 149 #[.pointer (some ⟨r,0,none⟩),.int .i64 n,fv] w fun e w'=>(∃v,e=.returned v)∧w=w':=by
 obtain⟨h2,a,m,c,h1⟩:=h
 have c1:w.cell? ⟨r,1,none⟩=some (.int .i64 7):=by simp[World.cell?,h1]
 clear h1 h2
 go_enter Tryz.func149,Tryz.ntmps149
 go_wp2
 exact bodyPost_ret (v:=.tuple #[]) (by simp[results,Tryz.results149,go_sem]) rfl ⟨⟨_,rfl⟩,rfl⟩
theorem give_short {r n:Nat}{C:Nat→Prop}{bs:List Int}{fv:Value}(w:World)(h:RdS w r C (some bs))(hn:bs.length<n):
  Calls Tryz.prog 149 #[.pointer (some ⟨r,0,none⟩),.int .i64 n,fv] w fun e w'=>(∃v,e=.returned v)∧RdS w' r C none∧Upd (fun k=>k=r) w w':=by
 obtain⟨h2,v,h1,h3,h4⟩:=h
 obtain⟨a,c,rfl,hc1,hc2⟩:=h3.slice
 have c0:w.cell? ⟨r,0,none⟩=some (.slice a bs.length c):=by simp[World.cell?,h1]
 have c1:w.cell? ⟨r,1,none⟩=some (.int .i64 0):=by simp[World.cell?,h1]
 have f1:w.frozen? ⟨r,1,none⟩=false:=frozen_of_heap h1
 have hz: ¬((n:Int)<0):=by omega
 have hlt:(bs.length:Int)<n:=by omega
 have H1:=hid h1;have H2:=hid h2
 clear h1 h2 h3 h4
 go_enter Tryz.func149,Tryz.ntmps149
 go_wp2
 refine bodyPost_end (results_none rfl _ _ _) rfl ?_
 refine⟨⟨_,rfl⟩,⟨⟨H2.out.1,fun k hk=>Nat.lt_of_lt_of_le (H2.out.2 k hk) (upd_own w r 1 _).size⟩,a,bs.length,c,?_⟩,upd_own w r 1 _⟩
 have:=blk_set (i:=1) (v:=.int .i64 7) H1.out
 simpa using this
theorem give_num {r bx n:Nat}{C:Nat→Prop}{bs:List Int}(w:World)(h:RdS w r C (some bs))(hn:n≤bs.length)(h8:n≤8)(hx:w.heap[bx]?=some (.cells #[.int .u64 0] 53 (0,0)))(hgx: ¬C bx)(hrx:r≠bx):
  Calls Tryz.prog 149 #[.pointer (some ⟨r,0,none⟩),.int .i64 n,.func (.func 181) #[] #[.pointer (some ⟨bx,0,none⟩)]] w fun e w'=>(∃v,e=.returned v)∧w'.heap[bx]?=some (.cells #[.int .u64 (beF (bs.take n))] 53 (0,0))∧
   RdS w' r C (some (bs.drop n))∧Upd (fun k=>k=bx∨k=r) w w':=by
 obtain⟨h2,v,h1,h3,h4⟩:=h
 obtain⟨u1,hs1,hu1⟩:=h3.front hn
 obtain⟨u2,hs2,hu2⟩:=h3.rest hn
 obtain⟨a,c,rfl,hc1,hc2⟩:=h3.slice
 obtain⟨a2,m2,c2,rfl⟩:=hu2.slice'
 have HC:=hid (bitsK_any w hu1 (fun x hx=>h4 x (List.mem_of_mem_take hx)) (by simp;omega) hx hgx)
 have c0:w.cell? ⟨r,0,none⟩=some (.slice a bs.length c):=by simp[World.cell?,h1]
 have c1:w.cell? ⟨r,1,none⟩=some (.int .i64 0):=by simp[World.cell?,h1]
 have hz: ¬((n:Int)<0):=by omega
 have hlt: ¬((bs.length:Int)<n):=by omega
 have H1:=hid h1;have H2:=hid h2;have H4:=hid h4;have HU2:=hid hu2;have HS2:=hid hs2;have HRX:=hid hrx;have HGX:=hid hgx
 clear h1 h2 h3 h4 hu1 hu2 hs2 hrx hgx hx
 go_enter Tryz.func149,Tryz.ntmps149
 go_wp2_with (go_at_call 181;fail)
 refine HC.out.mono ?_
 rintro e w1 ⟨⟨v,rfl⟩,k1,k2⟩
 have hr1:=(k2.block _ (lt_of_heap H1.out) HRX.out).trans H1.out
 have c0:w1.cell? ⟨r,0,none⟩=some (.slice a bs.length c):=by simp[World.cell?,hr1]
 have f0:w1.frozen? ⟨r,0,none⟩=false:=frozen_of_heap hr1
 have hs2:=HS2.out
 have K1:=hid k1;have K2:=hid k2;have HR1:=hid hr1
 clear k1 k2 hr1 c1 hs1 HC
 simp only[]
 go_wp2
 refine bodyPost_end (results_none rfl _ _ _) rfl ?_
 have hu3:Upd (fun k=>k=r) w1 (w1.setCell ⟨r,0,none⟩ (.slice a2 m2 c2)):=upd_own w1 r 0 _
 refine⟨⟨_,rfl⟩,?_,⟨⟨H2.out.1,fun k hk=>Nat.lt_of_lt_of_le (H2.out.2 k hk) (Nat.le_trans K2.out.size hu3.size)⟩,_,?_,(HU2.out.kept K2.out (fun k hk e=>HGX.out (e ▸ hk))).kept hu3 (fun k hk e=>H2.out.1 (e ▸ hk)),fun x hx=>H4.out x (List.mem_of_mem_drop hx)⟩,(K2.out.mono (fun _ _ e=>.inl e)).trans (hu3.mono (fun _ _ e=>.inr e))⟩
 ·rw[set_ne (by exact fun e=>HRX.out e.symm)];exact K1.out
 ·have:=blk_set (i:=0) (v:=.slice a2 m2 c2) HR1.out
  simpa using this
theorem raw1_any {bx m c:Nat}{a:Option Addr}{u:Value}(w:World)(hx:w.heap[bx]?=some (.cells #[u] 39 (0,0))):
  Calls Tryz.prog 150 #[.slice a m c,.pointer (some ⟨bx,0,none⟩)] w fun e w'=>(∃v,e=.returned v)∧w'.heap[bx]?=some (.cells #[.slice a m c] 39 (0,0))∧Upd (fun k=>k=bx) w w':=by
 have c1:=cells1_of hx
 have f1:w.frozen? ⟨bx,0,none⟩=false:=frozen_of_heap hx
 have HX:=hid hx
 clear hx
 go_enter Tryz.func150,Tryz.ntmps150
 go_wp2
 refine bodyPost_end (results_none rfl _ _ _) rfl ?_
 refine⟨⟨_,rfl⟩,?_,upd_own w bx 0 _⟩
 have:=blk_set (i:=0) (v:=.slice a m c) HX.out
 simpa using this
theorem give_raw {r bx n:Nat}{C:Nat→Prop}{bs:List Int}{x:Value}(w:World)(h:RdS w r C (some bs))(hn:n≤bs.length)(hx:w.heap[bx]?=some (.cells #[x] 39 (0,0)))(hgx: ¬C bx)(hrx:r≠bx):
  Calls Tryz.prog 149 #[.pointer (some ⟨r,0,none⟩),.int .i64 n,.func (.func 150) #[] #[.pointer (some ⟨bx,0,none⟩)]] w fun e w'=>(∃v,e=.returned v)∧(∃u,w'.heap[bx]?=some (.cells #[u] 39 (0,0))∧BytesAt w' C u (bs.take n))∧
   RdS w' r C (some (bs.drop n))∧Upd (fun k=>k=bx∨k=r) w w':=by
 obtain⟨h2,v,h1,h3,h4⟩:=h
 obtain⟨u1,hs1,hu1⟩:=h3.front hn
 obtain⟨u2,hs2,hu2⟩:=h3.rest hn
 obtain⟨a,c,rfl,hc1,hc2⟩:=h3.slice
 obtain⟨a2,m2,c2,rfl⟩:=hu2.slice'
 obtain⟨a1,m1,c1,rfl⟩:=hu1.slice'
 have HC:=hid (raw1_any (a:=a1) (m:=m1) (c:=c1) w hx)
 have c0:w.cell? ⟨r,0,none⟩=some (.slice a bs.length c):=by simp[World.cell?,h1]
 have c1:w.cell? ⟨r,1,none⟩=some (.int .i64 0):=by simp[World.cell?,h1]
 have hz: ¬((n:Int)<0):=by omega
 have hlt: ¬((bs.length:Int)<n):=by omega
 have H1:=hid h1;have H2:=hid h2;have H4:=hid h4;have HU1:=hid hu1;have HU2:=hid hu2;have HS2:=hid hs2;have HRX:=hid hrx;have HGX:=hid hgx
 clear h1 h2 h3 h4 hu1 hu2 hs2 hrx hgx hx
 go_enter Tryz.func149,Tryz.ntmps149
 go_wp2_with (go_at_call 150;fail)
 refine HC.out.mono ?_
 rintro e w1 ⟨⟨v,rfl⟩,k1,k2⟩
 have hr1:=(k2.block _ (lt_of_heap H1.out) HRX.out).trans H1.out
 have c0:w1.cell? ⟨r,0,none⟩=some (.slice a bs.length c):=by simp[World.cell?,hr1]
 have f0:w1.frozen? ⟨r,0,none⟩=false:=frozen_of_heap hr1
 have hs2:=HS2.out
 have K1:=hid k1;have K2:=hid k2;have HR1:=hid hr1
 clear k1 k2 hr1 c1 hs1 HC
 simp only[]
 go_wp2
 refine bodyPost_end (results_none rfl _ _ _) rfl ?_
 have hu3:Upd (fun k=>k=r) w1 (w1.setCell ⟨r,0,none⟩ (.slice a2 m2 c2)):=upd_own w1 r 0 _
 refine⟨⟨_,rfl⟩,⟨_,?_,(HU1.out.kept K2.out (fun k hk e=>HGX.out (e ▸ hk))).kept hu3 (fun k hk e=>H2.out.1 (e ▸ hk))⟩,⟨⟨H2.out.1,fun k hk=>Nat.lt_of_lt_of_le (H2.out.2 k hk) (Nat.le_trans K2.out.size hu3.size)⟩,_,?_,(HU2.out.kept K2.out (fun k hk e=>HGX.out (e ▸ hk))).kept hu3 (fun k hk e=>H2.out.1 (e ▸ hk)),fun x hx=>H4.out x (List.mem_of_mem_drop hx)⟩,(K2.out.mono (fun _ _ e=>.inl e)).trans (hu3.mono (fun _ _ e=>.inr e))⟩
 ·rw[set_ne (by exact fun e=>HRX.out e.symm)];exact K1.out
 ·have:=blk_set (i:=0) (v:=.slice a2 m2 c2) HR1.out
  simpa using this
def giveQ (w:World)(r:Nat)(C:Nat→Prop)(bx n:Nat)(st:Option (List Int))(w':World):Prop:=
 w'.heap[bx]?=some (.cells #[.int .u64 (numS n st).1] 53 (0,0))∧RdS w' r C (numS n st).2∧Upd (fun k=>k=bx∨k=r) w w'
theorem give_numS {r bx n:Nat}{C:Nat→Prop}{st:Option (List Int)}(w:World)(h:RdS w r C st)(h8:n≤8)(hx:w.heap[bx]?=some (.cells #[.int .u64 0] 53 (0,0)))(hgx: ¬C bx)(hrx:r≠bx):
  Calls Tryz.prog 149 #[.pointer (some ⟨r,0,none⟩),.int .i64 n,.func (.func 181) #[] #[.pointer (some ⟨bx,0,none⟩)]] w fun e w'=>(∃v,e=.returned v)∧giveQ w r C bx n st w':=by
 cases st with
 |none=>
  refine(give_no w h).mono ?_
  rintro e w' ⟨h1,rfl⟩
  exact⟨h1,by simpa [numS,takeS,beF] using hx,h,Upd.refl _ _⟩
 |some bs=>
  by_cases hn:bs.length<n
  ·refine(give_short w h hn).mono ?_
   rintro e w' ⟨h1,h2,h3⟩
   have e:numS n (some bs)=(0,none):=by simp[numS,takeS,hn,beF]
   exact⟨h1,by rw[e];exact(h3.block _ (lt_of_heap hx) (fun e=>hrx e.symm)).trans hx,by rw[e];exact h2,h3.mono (fun _ _ e=>.inr e)⟩
  ·refine(give_num w h (by omega) h8 hx hgx hrx).mono ?_
   rintro e w' ⟨h1,h2,h3,h4⟩
   have e:numS n (some bs)=(beF (bs.take n),some (bs.drop n)):=by simp[numS,takeS,hn]
   exact⟨h1,by rw[e];exact h2,by rw[e];exact h3,h4⟩
def rawQ (w:World)(r:Nat)(C:Nat→Prop)(bx n:Nat)(st:Option (List Int))(w':World):Prop:=
 (∃u,w'.heap[bx]?=some (.cells #[u] 39 (0,0))∧BytesAt w' C u (takeS n st).1)∧RdS w' r C (takeS n st).2∧Upd (fun k=>k=bx∨k=r) w w'
theorem give_rawS {r bx n:Nat}{C:Nat→Prop}{st:Option (List Int)}(w:World)(h:RdS w r C st)(hx:w.heap[bx]?=some (.cells #[.slice none 0 0] 39 (0,0)))(hgx: ¬C bx)(hrx:r≠bx):
  Calls Tryz.prog 149 #[.pointer (some ⟨r,0,none⟩),.int .i64 n,.func (.func 150) #[] #[.pointer (some ⟨bx,0,none⟩)]] w fun e w'=>(∃v,e=.returned v)∧rawQ w r C bx n st w':=by
 cases st with
 |none=>
  refine(give_no w h).mono ?_
  rintro e w' ⟨h1,rfl⟩
  exact⟨h1,⟨_,hx,.inl ⟨rfl,rfl⟩⟩,h,Upd.refl _ _⟩
 |some bs=>
  by_cases hn:bs.length<n
  ·refine(give_short w h hn).mono ?_
   rintro e w' ⟨h1,h2,h3⟩
   have e:takeS n (some bs)=([],none):=by simp[takeS,hn]
   exact⟨h1,⟨_,(h3.block _ (lt_of_heap hx) (fun e=>hrx e.symm)).trans hx,by rw[e];exact .inl ⟨rfl,rfl⟩⟩,by rw[e];exact h2,h3.mono (fun _ _ e=>.inr e)⟩
  ·refine(give_raw w h (by omega) hx hgx hrx).mono ?_
   rintro e w' ⟨h1,h2,h3,h4⟩
   have e:takeS n (some bs)=(bs.take n,some (bs.drop n)):=by simp[takeS,hn]
   exact⟨h1,by rw[e];exact h2,by rw[e];exact h3,h4⟩
theorem numS_bound {n:Nat}{st:Option (List Int)}(hB: ∀bs,st=some bs→Bytes bs):0≤(numS n st).1∧(numS n st).1<256 ^ n:=by
 have hp:(0:Int)<256 ^ n:=Int.pow_pos (by omega)
 cases st with
 |none=>simp[numS,takeS,beF];exact hp
 |some bs=>
  have hb:=hB bs rfl
  simp only[numS,takeS]
  split
  ·simp[beF];exact hp
  ·have h1:=beF_nonneg (bs:=bs.take n) fun x hx=>hb x (List.mem_of_mem_take hx)
   have h2:=beF_lt (bs:=bs.take n) fun x hx=>hb x (List.mem_of_mem_take hx)
   rw[List.length_take,show min n bs.length=n by omega] at h2
   exact⟨h1,h2⟩
theorem RdS.bytes {w:World}{r:Nat}{C:Nat→Prop}{st:Option (List Int)}(h:RdS w r C st): ∀bs,st=some bs→Bytes bs:=by
 rintro bs rfl
 obtain⟨_,v,_,_,h4⟩:=h
 exact h4
theorem bits_S {r n:Nat}{C:Nat→Prop}{st:Option (List Int)}{m:Int}(w:World)(h:RdS w r C st)(h8:n≤8)(hm:m.tdiv 8=n):
  Calls Tryz.prog 148 #[.pointer (some ⟨r,0,none⟩),.int .i64 m] w fun e w'=>e=.returned (.int .u64 (numS n st).1)∧RdS w' r C (numS n st).2∧Upd (fun k=>k=r) w w':=by
 obtain⟨w1,hw1⟩: ∃w1,w1=w.alloc (.cells #[.int .u64 0] 53):=⟨_,rfl⟩
 have hu1:Upd (fun _=>False) w w1:=by rw[hw1];exact(Upd.refl _ w).alloc _
 have hx1:w1.heap[w.heap.size]?=some (.cells #[.int .u64 0] 53 (0,0)):=by rw[hw1];exact alloc_at rfl
 have hrl:=h.lt
 have hC:=h.1.2
 have h1:=h.kept hu1 (fun e=>e) (fun _ _ e=>e)
 have HG:=hid (give_numS w1 h1 h8 hx1 (fun e=>by have:=hC _ e;omega) (by omega))
 have HW1:=hid hw1;have HU1:=hid hu1;have HRL:=hid hrl;have HC:=hid hC
 clear hw1 hu1 hx1 hrl hC h1 h
 go_enter Tryz.func148,Tryz.ntmps148
 go_wp2_with (go_at_call 149;fail)
 rw[←HW1.out]
 refine HG.out.mono ?_
 rintro e w2 ⟨⟨v,rfl⟩,h2,h3,h4⟩
 have c0:=cells1_of h2
 have H3:=hid h3;have H4:=hid h4
 clear h2 h3 h4 HG
 simp only[]
 go_wp2
 go_ret
 exact⟨rfl,H3.out,(HU1.out.mono (F:=fun _=>False) (G:=fun k=>k=r) (fun _ _ e=>e.elim)).step H4.out (fun k hk e=>by rcases e with e | e;omega;exact e)⟩
theorem u8_S {r:Nat}{C:Nat→Prop}{st:Option (List Int)}(w:World)(h:RdS w r C st):
  Calls Tryz.prog 91 #[.pointer (some ⟨r,0,none⟩)] w fun e w'=>e=.returned (.int .u8 (numS 1 st).1)∧RdS w' r C (numS 1 st).2∧Upd (fun k=>k=r) w w':=by
 have HC:=hid (bits_S (n:=1) (m:=8) w h (by omega) rfl)
 have hb:=numS_bound (n:=1) h.bytes
 obtain⟨x,hx⟩: ∃x,x=(numS 1 st).1:=⟨_,rfl⟩
 rw[←hx] at HC hb ⊢
 have hcv:IntKind.u8.wrap x=x:=by rw[IntKind.wrap_u8];omega
 clear h hb hx
 go_enter Tryz.func91,Tryz.ntmps91
 go_wp2_with (go_at_call 148;fail)
 refine HC.out.mono ?_
 rintro e w2 ⟨rfl,h1,h2⟩
 have H1:=hid h1;have H2:=hid h2
 clear h1 h2 HC
 simp only[]
 go_wp2
 go_ret
 exact⟨rfl,H1.out,H2.out⟩
theorem u16_S {r:Nat}{C:Nat→Prop}{st:Option (List Int)}(w:World)(h:RdS w r C st):
  Calls Tryz.prog 151 #[.pointer (some ⟨r,0,none⟩)] w fun e w'=>e=.returned (.int .u16 (numS 2 st).1)∧RdS w' r C (numS 2 st).2∧Upd (fun k=>k=r) w w':=by
 have HC:=hid (bits_S (n:=2) (m:=16) w h (by omega) rfl)
 have hb:=numS_bound (n:=2) h.bytes
 obtain⟨x,hx⟩: ∃x,x=(numS 2 st).1:=⟨_,rfl⟩
 rw[←hx] at HC hb ⊢
 have hcv:IntKind.u16.wrap x=x:=by rw[IntKind.wrap_u16];omega
 clear h hb hx
 go_enter Tryz.func151,Tryz.ntmps151
 go_wp2_with (go_at_call 148;fail)
 refine HC.out.mono ?_
 rintro e w2 ⟨rfl,h1,h2⟩
 have H1:=hid h1;have H2:=hid h2
 clear h1 h2 HC
 simp only[]
 go_wp2
 go_ret
 exact⟨rfl,H1.out,H2.out⟩
theorem u64_S {r:Nat}{C:Nat→Prop}{st:Option (List Int)}(w:World)(h:RdS w r C st):
  Calls Tryz.prog 89 #[.pointer (some ⟨r,0,none⟩)] w fun e w'=>e=.returned (.int .u64 (numS 8 st).1)∧RdS w' r C (numS 8 st).2∧Upd (fun k=>k=r) w w':=by
 have HC:=hid (bits_S (n:=8) (m:=64) w h (by omega) rfl)
 clear h
 go_enter Tryz.func89,Tryz.ntmps89
 go_wp2_with (go_at_call 148;fail)
 refine HC.out.mono ?_
 rintro e w2 ⟨rfl,h1,h2⟩
 have H1:=hid h1;have H2:=hid h2
 clear h1 h2 HC
 simp only[]
 go_wp2
 go_ret
 exact⟨rfl,H1.out,H2.out⟩
theorem run_load39 {w:World}{b:Nat}{v:Value}(h:w.heap[b]?=some (.cells #[v] 39 (0,0))):(loadVar 39 ⟨b,0,none⟩).run Tryz.prog w=.ok v w:=by
 have:=cells1_of h
 go_simp
theorem raw_S {r n:Nat}{C:Nat→Prop}{st:Option (List Int)}(w:World)(h:RdS w r C st):
  Calls Tryz.prog 92 #[.pointer (some ⟨r,0,none⟩),.int .i64 n] w fun e w'=> ∃u,e=.returned u∧BytesAt w' C u (takeS n st).1∧RdS w' r C (takeS n st).2∧Upd (fun k=>k=r) w w':=by
 obtain⟨w1,hw1⟩: ∃w1,w1=w.alloc (.cells #[.slice none 0 0] 39):=⟨_,rfl⟩
 have hu1:Upd (fun _=>False) w w1:=by rw[hw1];exact(Upd.refl _ w).alloc _
 have hx1:w1.heap[w.heap.size]?=some (.cells #[.slice none 0 0] 39 (0,0)):=by rw[hw1];exact alloc_at rfl
 have hrl:=h.lt
 have hC:=h.1.2
 have h1:=h.kept hu1 (fun e=>e) (fun _ _ e=>e)
 have HG:=hid (give_rawS (n:=n) w1 h1 hx1 (fun e=>by have:=hC _ e;omega) (by omega))
 have HW1:=hid hw1;have HU1:=hid hu1;have HRL:=hid hrl;have HC:=hid hC
 clear hw1 hu1 hx1 hrl hC h1 h
 go_enter Tryz.func92,Tryz.ntmps92
 go_wp2_with (go_at_call 149;fail)
 rw[←HW1.out]
 refine HG.out.mono ?_
 rintro e w2 ⟨⟨v,rfl⟩,⟨u,h2,hb⟩,h3,h4⟩
 obtain⟨a,m,c,rfl⟩:=hb.slice'
 have c0:=cells1_of h2
 have f0:w2.frozen? ⟨w.heap.size,0,none⟩=false:=frozen_of_heap h2
 have H2:=hid h2;have H3:=hid h3;have H4:=hid h4;have HB:=hid hb
 clear h2 h3 h4 hb HG
 simp only[]
 go_wp2
 have hu5:Upd (fun k=>k=w.heap.size) w2 (w2.setCell ⟨w.heap.size,0,none⟩ (.slice a m c)):=upd_own _ _ _ _
 have hcw: ∀k,C k→ ¬k=w.heap.size:=fun k hk e=>by have:=HC.out k hk;omega
 refine bodyPost_ret (v:=.slice a m c) (results_cell1 rfl rfl ?_) rfl ⟨_,rfl,HB.out.kept hu5 hcw,H3.out.kept hu5 (fun e=>by have:=HRL.out;omega) hcw,(HU1.out.mono (F:=fun _=>False) (G:=fun k=>k=r) (fun _ _ e=>e.elim)).step (H4.out.step hu5 (fun k _ e=>.inl e)) (fun k hk e=>by rcases e with e | e;omega;exact e)⟩
 have:=blk_set (i:=0) (v:=.slice a m c) H2.out
 have h9:(w2.setCell ⟨w.heap.size,0,none⟩ (.slice a m c)).heap[w.heap.size]?=some (.cells #[.slice a m c] 39 (0,0)):=by simpa using this
 exact run_load39 h9
def errS (st:Option (List Int)):Int:=if st.isSome then 0 else 7
theorem err_S {r:Nat}{C:Nat→Prop}{st:Option (List Int)}(w:World)(h:RdS w r C st):
  Calls Tryz.prog 94 #[.pointer (some ⟨r,0,none⟩)] w fun e w'=>e=.returned (.int .i64 (errS st))∧w=w':=by
 have c1:w.cell? ⟨r,1,none⟩=some (.int .i64 (errS st)):=by
  cases st with
  |none=>obtain⟨_,a,n,c,h1⟩:=h;simp[World.cell?,h1,errS]
  |some bs=>obtain⟨_,v,h1,_⟩:=h;simp[World.cell?,h1,errS]
 clear h
 generalize errS st=x at *
 go_enter Tryz.func94,Tryz.ntmps94
 go_wp2
 go_ret
 exact⟨rfl,rfl⟩
theorem rest_S {r:Nat}{C:Nat→Prop}{bs:List Int}(w:World)(h:RdS w r C (some bs))(hl:bs.length≤1099511627776):
  Calls Tryz.prog 152 #[.pointer (some ⟨r,0,none⟩)] w fun e w'=> ∃a c,e=.returned (.slice a bs.length c)∧Upd (fun _=>False) w w':=by
 obtain⟨_,v,h1,h3,h4⟩:=h
 have HC:=hid (clone_any w hl h3.bytesIn)
 obtain⟨a,c,rfl,_,_⟩:=h3.slice
 have c0:w.cell? ⟨r,0,none⟩=some (.slice a bs.length c):=by simp[World.cell?,h1]
 clear h1 h3 h4
 go_enter Tryz.func152,Tryz.ntmps152
 go_wp2_with (go_at_call 99;fail)
 refine HC.out.mono ?_
 rintro e w1 ⟨u,rfl,ho,hu,hU⟩
 obtain⟨a2,c2,rfl⟩:=ho.slice'
 have HU:=hid hU
 clear ho hu hU HC
 simp only[]
 go_wp2
 go_ret
 exact⟨_,_,rfl,HU.out⟩
theorem left_S {r:Nat}{C:Nat→Prop}{bs:List Int}(w:World)(h:RdS w r C (some bs))(hl:bs.length≤1099511627776):
  Calls Tryz.prog 95 #[.pointer (some ⟨r,0,none⟩)] w fun e w'=>e=.returned (.int .i64 bs.length)∧Upd (fun _=>False) w w':=by
 have HC:=hid (rest_S w h hl)
 clear h
 go_enter Tryz.func95,Tryz.ntmps95
 go_wp2_with (go_at_call 152;fail)
 refine HC.out.mono ?_
 rintro e w1 ⟨a,c,rfl,hU⟩
 have HU:=hid hU
 clear hU HC
 simp only[]
 go_wp2
 go_ret
 exact⟨rfl,HU.out⟩
theorem cells2_of {w:World}{b:Nat}{x0 x1:Value}{t:TypeId}(h:w.heap[b]?=some (.cells #[x0,x1] t (0,0))):w.cell? ⟨b,0,none⟩=some x0∧w.cell? ⟨b,1,none⟩=some x1:=by simp[World.cell?,h]
def RbS (w:World)(rb r:Nat)(C:Nat→Prop)(st:Option (List Int))(bad:Bool):Prop:=
 w.heap[rb]?=some (.cells #[.pointer (some ⟨r,0,none⟩),.bool bad] 161 (0,0))∧r≠rb∧ ¬C rb∧RdS w r C st
theorem RbS.kept {F:Nat→Prop}{w w':World}{rb r:Nat}{C:Nat→Prop}{st:Option (List Int)}{bad:Bool}(h:RbS w rb r C st bad)(hu:Upd F w w')(hrb: ¬F rb)(hr: ¬F r)(hg: ∀k,C k→ ¬F k):RbS w' rb r C st bad:=
 ⟨(hu.block _ (lt_of_heap h.1) hrb).trans h.1,h.2.1,h.2.2.1,h.2.2.2.kept hu hr hg⟩
theorem RbS.lt {w:World}{rb r:Nat}{C:Nat→Prop}{st:Option (List Int)}{bad:Bool}(h:RbS w rb r C st bad):rb<w.heap.size:=lt_of_heap h.1
theorem flag_S {rb r:Nat}{C:Nat→Prop}{st:Option (List Int)}{bad:Bool}(w:World)(h:RbS w rb r C st bad):
  Calls Tryz.prog 90 #[.pointer (some ⟨rb,0,none⟩)] w fun e w'=>e=.returned (.bool ((numS 1 st).1 == 1))∧RbS w' rb r C (numS 1 st).2 (bad || decide (1<(numS 1 st).1))∧Upd (fun k=>k=r∨k=rb) w w':=by
 obtain⟨h1,h2,h3,h4⟩:=h
 have HC:=hid (u8_S w h4)
 have hb:=numS_bound (n:=1) h4.bytes
 obtain⟨x,hx⟩: ∃x,x=(numS 1 st).1:=⟨_,rfl⟩
 rw[←hx] at HC hb ⊢
 have c0:=(cells2_of h1).1
 have H1:=hid h1;have H2:=hid h2;have H3:=hid h3
 clear h1 h2 h3 h4 hx
 go_enter Tryz.func90,Tryz.ntmps90
 go_wp2_with (go_at_call 91;fail)
 refine HC.out.mono ?_
 rintro e w1 ⟨rfl,k1,k2⟩
 have hm1:=(k2.block _ (lt_of_heap H1.out) (fun e=>H2.out (show rb=r from e).symm)).trans H1.out
 have c1:=(cells2_of hm1).2
 have f1:w1.frozen? ⟨rb,1,none⟩=false:=frozen_of_heap hm1
 have K1:=hid k1;have K2:=hid k2;have HM:=hid hm1
 clear k1 k2 hm1 HC c0
 simp only[]
 have fin: ∀b':Bool,b'=(bad || decide (1<x))→RbS (w1.setCell ⟨rb,1,none⟩ (.bool b')) rb r C (numS 1 st).2 (bad || decide (1<x))∧Upd (fun k=>k=r∨k=rb) w (w1.setCell ⟨rb,1,none⟩ (.bool b')):=by
  rintro b' rfl
  have hu:Upd (fun k=>k=rb) w1 (w1.setCell ⟨rb,1,none⟩ (.bool (bad || decide (1<x)))):=upd_own _ _ _ _
  refine⟨⟨?_,H2.out,H3.out,K1.out.kept hu H2.out (fun k hk e=>H3.out (e ▸ hk))⟩,(K2.out.mono (fun _ _ e=>.inl e)).trans (hu.mono (fun _ _ e=>.inr e))⟩
  have:=blk_set (i:=1) (v:=.bool (bad || decide (1<x))) HM.out
  simpa using this
 have FIN:=hid fin
 clear fin
 cases bad with
 |true=>
  go_wp2
  go_ret
  exact⟨rfl,FIN.out _ rfl⟩
 |false=>
  go_wp2
  go_ret
  exact⟨rfl,FIN.out _ (by simp)⟩
theorem takeS_bytes {n:Nat}{st:Option (List Int)}(h: ∀bs,st=some bs→Bytes bs): ∀bs,(takeS n st).2=some bs→Bytes bs:=by
 intro bs hb
 cases st with
 |none=>simp[takeS] at hb
 |some l=>
  simp only[takeS] at hb
  split at hb
  ·cases hb
  ·injection hb with hb
   subst hb
   exact fun x hx=>h l rfl x (List.mem_of_mem_drop hx)
def maybeS (st:Option (List Int))(bad:Bool):Bool×List Int×Option (List Int)×Bool:=
 ((numS 1 st).1 == 1,(takeS (numS 2 (numS 1 st).2).1.toNat (numS 2 (numS 1 st).2).2).1,(takeS (numS 2 (numS 1 st).2).1.toNat (numS 2 (numS 1 st).2).2).2,bad || decide (1<(numS 1 st).1))
theorem maybe_S {rb r:Nat}{C:Nat→Prop}{st:Option (List Int)}{bad:Bool}(w:World)(h:RbS w rb r C st bad):
  Calls Tryz.prog 93 #[.pointer (some ⟨rb,0,none⟩)] w fun e w'=> ∃u,e=.returned (.tuple #[.bool (maybeS st bad).1,u])∧BytesAt w' C u (maybeS st bad).2.1∧RbS w' rb r C (maybeS st bad).2.2.1 (maybeS st bad).2.2.2∧Upd (fun k=>k=r∨k=rb) w w':=by
 have HC:=hid (flag_S w h)
 simp only[maybeS]
 obtain⟨fl,hfl⟩: ∃fl,fl=((numS 1 st).1 == 1):=⟨_,rfl⟩
 obtain⟨b2,hb2⟩: ∃b2,b2=(bad || decide (1<(numS 1 st).1)):=⟨_,rfl⟩
 obtain⟨s1,hs1⟩: ∃s1,s1=(numS 1 st).2:=⟨_,rfl⟩
 rw[←hfl,←hb2,←hs1] at HC ⊢
 have hb:=numS_bound (n:=2) (st:=s1) (by rw[hs1];exact takeS_bytes h.2.2.2.bytes)
 obtain⟨n2,hn2⟩: ∃n2,n2=(numS 2 s1).1:=⟨_,rfl⟩
 obtain⟨s2,hs2⟩: ∃s2,s2=(numS 2 s1).2:=⟨_,rfl⟩
 have HU16:RowKit.Hid (∀W,RdS W r C s1→Calls Tryz.prog 151 #[.pointer (some ⟨r,0,none⟩)] W fun e w'=>e=.returned (.int .u16 n2)∧RdS w' r C s2∧Upd (fun k=>k=r) W w'):=hid (by
  intro W hW
  have q:=u16_S W hW
  rw[←hn2,←hs2] at q
  exact q)
 rw[←hn2] at hb
 rw[←hn2,←hs2]
 have hnn:((n2.toNat:Nat):Int)=n2:=by omega
 have hcv:IntKind.i64.wrap n2=n2:=by rw[IntKind.wrap_i64];omega
 have HRAW:RowKit.Hid (∀W,RdS W r C s2→Calls Tryz.prog 92 #[.pointer (some ⟨r,0,none⟩),.int .i64 n2] W fun e w'=> ∃u,e=.returned u∧BytesAt w' C u (takeS n2.toNat s2).1∧RdS w' r C (takeS n2.toNat s2).2∧Upd (fun k=>k=r) W w'):=hid (by
  intro W hW
  have q:=raw_S (n:=n2.toNat) W hW
  rw[hnn] at q
  exact q)
 clear h hfl hb2 hs1 hn2 hs2 hb hnn
 go_enter Tryz.func93,Tryz.ntmps93
 go_wp2_with (go_at_call 90;fail)
 refine HC.out.mono ?_
 rintro e w1 ⟨rfl,h2,hu⟩
 have HU:=hid hu;have HN:=hid h2.2.1;have HCB:=hid h2.2.2.1
 have hA:w1.drew.heap[rb]?=some (.cells #[.pointer (some ⟨r,0,none⟩),.bool b2] 161 (0,0)):=h2.1
 have H2:=hid h2.2.2.2
 clear h2
 clear hu HC
 go_upto_region 2 with fail
 refine wp_region_G 12 (fun W=>W.heap[rb]?=some (.cells #[.pointer (some ⟨r,0,none⟩),.bool b2] 161 (0,0))) [false,false,false,false,false,false,false,false,false,false,false,false,false,false] rfl (by kernel_rfl) ?_
 refine tqZ 0 (.bool fl) [] hA (fun w5 q1=>?_) ?_
 ·go_simp
 simp only[pZ,nZ,bZ,List.set]
 refine tqZ 1 (.pointer (some ⟨rb,0,none⟩)) [11,4,3,2] hA (fun w5 q1=>?_) ?_
 ·go_simp
 simp only[pZ,nZ,bZ,List.set]
 refine tqZ 2 (.pointer (some ⟨rb,0,none⟩)) [11,4,3] hA (fun w5 q1=>?_) ?_
 ·go_simp
 simp only[pZ,nZ,bZ,List.set]
 refine tqZ 3 (.pointer (some ⟨rb,0,none⟩)) [11,4] hA (fun w5 q1=>?_) ?_
 ·go_simp
 simp only[pZ,nZ,bZ,List.set]
 refine tqZ 4 (.pointer (some ⟨r,0,none⟩)) [11] hA (fun w5 q1=>?_) ?_
 ·have cc:=cells2_of q1
  have c0:=cc.1
  go_simp
 simp only[pZ,nZ,bZ,List.set]
 refine tqZ 5 (.pointer (some ⟨rb,0,none⟩)) [11,9,8,7,6] hA (fun w5 q1=>?_) ?_
 ·go_simp
 simp only[pZ,nZ,bZ,List.set]
 refine tqZ 6 (.pointer (some ⟨rb,0,none⟩)) [11,9,8,7] hA (fun w5 q1=>?_) ?_
 ·go_simp
 simp only[pZ,nZ,bZ,List.set]
 refine tqZ 7 (.pointer (some ⟨rb,0,none⟩)) [11,9,8] hA (fun w5 q1=>?_) ?_
 ·go_simp
 simp only[pZ,nZ,bZ,List.set]
 refine tqZ 8 (.pointer (some ⟨r,0,none⟩)) [11,9] hA (fun w5 q1=>?_) ?_
 ·have cc:=cells2_of q1
  have c0:=cc.1
  go_simp
 simp only[pZ,nZ,bZ,List.set]
 refine wpG_doIf (i:=9) rfl (by kernel_rfl) rfl (fun K hK=>?_)
 have HKK:=hid hK
 clear hK
 go_step
 refine(HU16.out _ (H2.out.kept ((Upd.refl (fun _=>False) w1).drew) (fun e=>e) (fun _ _ e=>e))).mono ?_
 rintro e w2 ⟨rfl,k1,k2⟩
 have hA2:=(k2.block _ (lt_of_heap hA) (fun e=>HN.out (show rb=r from e).symm)).trans hA
 have K1:=hid k1;have K2:=hid k2
 clear k1 k2
 simp only[]
 refine HKK.out _ _ hA2 ?_
 clear HKK
 simp only[pZ,nZ,bZ,List.set]
 refine tqZ 10 (.int .i64 n2) [11] hA2 (fun w5 q1=>?_) ?_
 ·go_simp
 simp only[pZ,nZ,bZ,List.set]
 refine wpG_doIf (i:=11) rfl (by kernel_rfl) rfl (fun K hK=>?_)
 have HKK:=hid hK
 clear hK
 go_step
 refine(HRAW.out _ K1.out).mono ?_
 rintro e w3 ⟨u,rfl,m1,m2,m3⟩
 obtain⟨ua,um,uc,rfl⟩:=m1.slice'
 have hA3:=(m3.block _ (lt_of_heap hA2) (fun e=>HN.out (show rb=r from e).symm)).trans hA2
 have M1:=hid m1;have M2:=hid m2;have M3:=hid m3
 clear m1 m2 m3
 simp only[]
 refine HKK.out _ _ hA3 ?_
 clear HKK
 simp only[pZ,nZ,bZ,List.set]
 refine wpG_tail_lit (k:=12) rfl rfl (by kernel_rfl) ?_
 simp only[List.drop]
 go_wp2
 go_returns
 exact⟨_,rfl,M1.out,⟨hA3,HN.out,HCB.out,M2.out⟩,HU.out.trans (((Upd.refl (fun k=>k=r) w1).drew.trans (K2.out.trans M3.out)).mono (fun _ _ e=>.inl e))⟩
theorem run_exec_eqlV {o:Oper}{a:Act}{w:World}{x y:Operand}{rt:TypeId}{xs ys:List Int}(ho:o.op=.binOp .eql 48 x y rt)(hx:a.eval x=.agg (bcells xs).toArray)(hy:a.eval y=.agg (bcells ys).toArray)(h1:xs.length=64)(h2:ys.length=64):
  (execOp a.eval o).run Tryz.prog w=.ok (.value (.bool (xs == ys))) w:=by
 have hr:(binOp .eql 48 (.agg (bcells xs).toArray) (.agg (bcells ys).toArray)).run Tryz.prog w=.ok (.bool (xs == ys)) w:=by
  rw[run_eql_struct,eq_bytes w h1 h2];rfl
 have hg:=run_eqGuard_agg (P:=Tryz.prog) w .eql 48 x y (bcells xs).toArray (bcells ys).toArray (by kernel_rfl)
 simp[execOp,ho,hx,hy,hg,hr,Result.andThen]
def be (bs:List Int):Int:=match bs with
 |b0 :: b1 :: b2 :: b3 :: _=>be4 b0 b1 b2 b3 4
 | _=>0
def readF (bs:List Int):Hd:=⟨be (bs.drop 8),be (bs.drop 12),be (bs.drop 16),be (bs.drop 20)⟩
structure Hd.Says (h:Hd):Prop where
 turn:1≤h.turn∧h.turn≤1073741824
 area:4≤h.area∧h.area≤1000
 place:h.place<2 * h.area
 number:1≤h.number∧h.number≤1073741824
open Classical in
noncomputable def hOk (bs:List Int):Bool:=decide ((readF bs).Says∧headF (readF bs)=bs)
theorem hOk_iff (bs:List Int):hOk bs=true↔(readF bs).Says∧headF (readF bs)=bs:=by simp[hOk]
theorem slice_eight (g:Nat)(W:World):(Instr.sliceAt 48 (.pointer (some ⟨g,0,none⟩)) (some (.int .i64 8)) none none).run Tryz.prog W=.ok (.slice (some ⟨g,8,none⟩) 56 56) W:=by
 have hz:(sizeOf (Tryz.prog.elem 48)).run Tryz.prog W=.ok 1 W:=by kernel_rfl
 have hu:Tryz.prog.underlying 48=some (.array (Tryz.prog.arrayLen 48) (Tryz.prog.elem 48)):=by kernel_rfl
 have hn:Tryz.prog.arrayLen 48=64:=by kernel_rfl
 rw[run_sliceAt_array_l W 48 _ hu .i64 8 (by omega) (by rw[hn];omega),hz,hn]
 rfl
theorem split16 {bs:List Int}(h:bs.length=64): ∃p a0 a1 a2 a3 b0 b1 b2 b3 c0 c1 c2 c3 d0 d1 d2 d3 r,bs=p++a0 :: a1 :: a2 :: a3 :: b0 :: b1 :: b2 :: b3 :: c0 :: c1 :: c2 :: c3 :: d0 :: d1 :: d2 :: d3 :: r∧p.length=8:=by
 have e:bs=bs.take 8++bs.drop 8:=(List.take_append_drop 8 bs).symm
 have hd:(bs.drop 8).length=56:=by simp;omega
 have ht:(bs.take 8).length=8:=by simp;omega
 generalize bs.drop 8=y at e hd
 generalize bs.take 8=p at e ht
 match y,hd with
 |a0 :: a1 :: a2 :: a3 :: b0 :: b1 :: b2 :: b3 :: c0 :: c1 :: c2 :: c3 :: d0 :: d1 :: d2 :: d3 :: r,_=>exact⟨p,a0,a1,a2,a3,b0,b1,b2,b3,c0,c1,c2,c3,d0,d1,d2,d3,r,e,ht⟩
theorem readF_split {p:List Int}(hp:p.length=8)(a0 a1 a2 a3 b0 b1 b2 b3 c0 c1 c2 c3 d0 d1 d2 d3:Int)(r:List Int):
  readF (p++a0 :: a1 :: a2 :: a3 :: b0 :: b1 :: b2 :: b3 :: c0 :: c1 :: c2 :: c3 :: d0 :: d1 :: d2 :: d3 :: r)=⟨be4 a0 a1 a2 a3 4,be4 b0 b1 b2 b3 4,be4 c0 c1 c2 c3 4,be4 d0 d1 d2 d3 4⟩:=by
 match p,hp with
 | [p0,p1,p2,p3,p4,p5,p6,p7],_=>rfl
theorem Tryz.size107r:(Tryz.prog.info? 184).map (·.size)=some 4:=by kernel_rfl
theorem hread_any {bs:List Int}(w:World)(hl:bs.length=64)(hB:Bytes bs):
  Calls Tryz.prog 170 #[.agg (bcells bs).toArray] w fun e w'=>e=.returned (.tuple #[(readF bs).val,.bool (hOk bs)])∧Upd (fun _=>False) w w':=by
 obtain⟨p,a0,a1,a2,a3,b0,b1,b2,b3,c0,c1,c2,c3,d0,d1,d2,d3,r,hbs,hp⟩:=split16 hl
 have hh:=readF_split hp a0 a1 a2 a3 b0 b1 b2 b3 c0 c1 c2 c3 d0 d1 d2 d3 r
 rw[←hbs] at hh
 have hbl:(bcells bs).length=64:=by simp[bcells,hl]
 have H1B:=hid (all_oneCell_toArray (bcells_one bs))
 have hi:(Tryz.prog.info? 48).map (·.size)=some (bcells bs).length:=by rw[Tryz.info56p,hbl]
 have HI:=hid hi;have HBL:=hid hbl;have HH:=hid hh;have HP:=hid hp;have HBS:=hid hbs;have HB:=hid hB;have HL:=hid hl
 clear hh hp hbl hi hl hB hbs
 have hs:=slice_eight w.heap.size
 go_enter Tryz.func170,Tryz.ntmps170
 go_wp2_with (go_at_call 88;fail)
 obtain⟨W0,hW⟩: ∃W0,W0=(w.alloc (.cells (bcells bs).toArray 48)).alloc (.cells #[.int .i64 0,.int .i64 0,.int .i64 0,.int .i64 0] 184):=⟨_,rfl⟩
 rw[←hW]
 have hWs:W0.heap.size=w.heap.size+2:=by rw[hW];simp
 have hbk:W0.heap[w.heap.size]?=some (.cells (bcells bs).toArray 48 (0,0)):=by rw[hW];exact(alloc_lt (by simp)).trans (alloc_at rfl)
 have hhk:W0.heap[w.heap.size+1]?=some (.cells #[.int .i64 0,.int .i64 0,.int .i64 0,.int .i64 0] 184 (0,0)):=by rw[hW];exact alloc_at (by simp)
 have hu:Upd (fun _=>False) w W0:=by rw[hW];exact((Upd.refl _ w).alloc _).alloc _
 obtain⟨y,hy⟩: ∃y,y=a0 :: a1 :: a2 :: a3 :: b0 :: b1 :: b2 :: b3 :: c0 :: c1 :: c2 :: c3 :: d0 :: d1 :: d2 :: d3 :: r:=⟨_,rfl⟩
 have hyl:y.length=56:=by
  have h1:=HL.out;have h2:=HBS.out;have h3:=HP.out
  rw[h2,←hy] at h1
  simp only[List.length_append] at h1
  omega
 have hin:BytesIn W0 (.slice (some ⟨w.heap.size,8,none⟩) 56 56) y:=by
  refine .inr ⟨⟨w.heap.size,8,none⟩,56,by rw[hyl],by omega,by unfold maxLen;omega,fun i u hi=>?_⟩
  rw[Addr.add_mid,cell_of_heap hbk]
  have h2:=HBS.out;have h3:=HP.out
  rw[h2,←hy,bcells_append]
  have h4:(bcells p++bcells y).toArray[8+i]?=(bcells y)[i]?:=by
   rw[List.getElem?_toArray,List.getElem?_append_right (by simp[bcells,h3])]
   simp[bcells,h3]
  rw[h4,hi]
 have HR1:=hid (oread_any W0 hin (by rw[hy];simp) (by omega))
 have HW:=hid hWs;have HBK:=hid hbk;have HHK:=hid hhk;have HU:=hid hu;have HY:=hid hy
 clear hWs hbk hhk hu hy hyl hin hW hs
 refine HR1.out.mono ?_
 rintro e w1 ⟨rfl,h1,h2⟩
 rw[HY.out] at h1
 have H1:=hid h1;have H2:=hid h2
 clear h1 h2 HR1
 simp only[]
 have hBa:Bytes [a0,a1,a2,a3]:=fun x hx=>HB.out x (by rw[HBS.out];simp at hx;rcases hx with rfl | rfl | rfl | rfl<;> simp)
 have hBb:Bytes [b0,b1,b2,b3]:=fun x hx=>HB.out x (by rw[HBS.out];simp at hx;rcases hx with rfl | rfl | rfl | rfl<;> simp)
 have hBc:Bytes [c0,c1,c2,c3]:=fun x hx=>HB.out x (by rw[HBS.out];simp at hx;rcases hx with rfl | rfl | rfl | rfl<;> simp)
 have hBd:Bytes [d0,d1,d2,d3]:=fun x hx=>HB.out x (by rw[HBS.out];simp at hx;rcases hx with rfl | rfl | rfl | rfl<;> simp)
 have K0: ∀W rest,Rd W W0.heap.size (a0 :: a1 :: a2 :: a3 :: rest)→Calls Tryz.prog 193 #[.pointer (some ⟨W0.heap.size,0,none⟩)] W fun e w'=>e=.returned (.int .u32 (be4 a0 a1 a2 a3 4))∧Rd w' W0.heap.size rest∧Upd (fun k=>k=W0.heap.size) W w':=fun W _ h=>u32_any W h hBa
 have K1: ∀W rest,Rd W W0.heap.size (b0 :: b1 :: b2 :: b3 :: rest)→Calls Tryz.prog 193 #[.pointer (some ⟨W0.heap.size,0,none⟩)] W fun e w'=>e=.returned (.int .u32 (be4 b0 b1 b2 b3 4))∧Rd w' W0.heap.size rest∧Upd (fun k=>k=W0.heap.size) W w':=fun W _ h=>u32_any W h hBb
 have K2: ∀W rest,Rd W W0.heap.size (c0 :: c1 :: c2 :: c3 :: rest)→Calls Tryz.prog 193 #[.pointer (some ⟨W0.heap.size,0,none⟩)] W fun e w'=>e=.returned (.int .u32 (be4 c0 c1 c2 c3 4))∧Rd w' W0.heap.size rest∧Upd (fun k=>k=W0.heap.size) W w':=fun W _ h=>u32_any W h hBc
 have K3: ∀W rest,Rd W W0.heap.size (d0 :: d1 :: d2 :: d3 :: rest)→Calls Tryz.prog 193 #[.pointer (some ⟨W0.heap.size,0,none⟩)] W fun e w'=>e=.returned (.int .u32 (be4 d0 d1 d2 d3 4))∧Rd w' W0.heap.size rest∧Upd (fun k=>k=W0.heap.size) W w':=fun W _ h=>u32_any W h hBd
 have n0:=be4_bound hBa;have n1:=be4_bound hBb;have n2:=be4_bound hBc;have n3:=be4_bound hBd
 have hh:=HH.out
 obtain⟨x0,hx0⟩: ∃x,x=be4 a0 a1 a2 a3 4:=⟨_,rfl⟩
 obtain⟨x1,hx1⟩: ∃x,x=be4 b0 b1 b2 b3 4:=⟨_,rfl⟩
 obtain⟨x2,hx2⟩: ∃x,x=be4 c0 c1 c2 c3 4:=⟨_,rfl⟩
 obtain⟨x3,hx3⟩: ∃x,x=be4 d0 d1 d2 d3 4:=⟨_,rfl⟩
 rw[←hx0] at K0 n0 hh;rw[←hx1] at K1 n1 hh;rw[←hx2] at K2 n2 hh;rw[←hx3] at K3 n3 hh
 have v0:IntKind.i64.wrap x0=x0:=by rw[IntKind.wrap_i64];omega
 have v1:IntKind.i64.wrap x1=x1:=by rw[IntKind.wrap_i64];omega
 have v2:IntKind.i64.wrap x2=x2:=by rw[IntKind.wrap_i64];omega
 have v3:IntKind.i64.wrap x3=x3:=by rw[IntKind.wrap_i64];omega
 have HK0:=hid K0;have HK1:=hid K1;have HK2:=hid K2;have HK3:=hid K3;have HHX:=hid hh
 have HN:=hid (And.intro n0 (And.intro n1 (And.intro n2 n3)))
 clear hBa hBb hBc hBd K0 K1 K2 K3 n0 n1 n2 n3 hx0 hx1 hx2 hx3 hh HH
 go_wp2_with (go_at_call 193;fail)
 refine(HK0.out _ _ H1.out).mono ?_
 rintro e w2 ⟨rfl,h1,h2⟩
 have HA:=hid h1;have HUA:=hid h2
 clear h1 h2 H1
 simp only[]
 go_wp2_with (go_at_call 193;fail)
 refine(HK1.out _ _ HA.out).mono ?_
 rintro e w3 ⟨rfl,h1,h2⟩
 have HB2:=hid h1;have HUB:=hid (HUA.out.trans h2)
 clear h1 h2 HA HUA
 simp only[]
 go_wp2_with (go_at_call 193;fail)
 refine(HK2.out _ _ HB2.out).mono ?_
 rintro e w4 ⟨rfl,h1,h2⟩
 have HC2:=hid h1;have HUC:=hid (HUB.out.trans h2)
 clear h1 h2 HB2 HUB
 simp only[]
 go_wp2_with (go_at_call 193;fail)
 refine(HK3.out _ _ HC2.out).mono ?_
 rintro e w5 ⟨rfl,h1,h2⟩
 have HUD:=hid (HUC.out.trans h2)
 clear h1 h2 HC2 HUC
 simp only[]
 have hu1:Upd (fun _=>False) w w1:=HU.out.trans H2.out
 have hsz1:=hu1.size
 have hbk1:=(H2.out.block _ (lt_of_heap HBK.out) (fun e=>e)).trans HBK.out
 have hhk1:=(H2.out.block _ (lt_of_heap HHK.out) (fun e=>e)).trans HHK.out
 have hW2:=HW.out
 have hU5:Upd (fun _=>False) w w5:=hu1.step HUD.out (fun k hk e=>by omega)
 have hbk5:=(HUD.out.block _ (lt_of_heap hbk1) (by omega)).trans hbk1
 have hhk5:=(HUD.out.block _ (lt_of_heap hhk1) (by omega)).trans hhk1
 obtain⟨w6,hw6⟩: ∃w6,w6=w5.alloc (.cells #[.int .i64 x0,.int .i64 x1,.int .i64 x2,.int .i64 x3] 184):=⟨_,rfl⟩
 have h56:Upd (fun _=>False) w5 w6:=by rw[hw6];exact(Upd.refl _ w5).alloc _
 have h5b:w6.heap[w5.heap.size]?=some (.cells #[.int .i64 x0,.int .i64 x1,.int .i64 x2,.int .i64 x3] 184 (0,0)):=by rw[hw6];exact alloc_at rfl
 have HU6:=hid (hU5.trans h56);have H5:=hid h5b
 have HBK6:=hid ((h56.block _ (lt_of_heap hbk5) (fun e=>e)).trans hbk5);have HT6:=hid ((h56.block _ (lt_of_heap hhk5) (fun e=>e)).trans hhk5)
 have HSZ:RowKit.Hid (w.heap.size+1<w5.heap.size):=hid (lt_of_heap hhk5)
 have hN:=HN.out
 have hxu:(⟨x0,x1,x2,x3⟩:Hd).U32:=⟨hN.1,hN.2.1,hN.2.2.1,hN.2.2.2⟩
 have HBC:RowKit.Hid (∀W,Calls Tryz.prog 164 #[.agg #[.int .i64 x0,.int .i64 x1,.int .i64 x2,.int .i64 x3]] W fun e w'=>e=.returned (.agg (bcells (headF ⟨x0,x1,x2,x3⟩)).toArray)∧Upd (fun _=>False) W w'):=hid (fun W=>block_any ⟨x0,x1,x2,x3⟩ W hxu)
 have HHL:RowKit.Hid ((headF ⟨x0,x1,x2,x3⟩).length=64):=hid (headF_ok ⟨x0,x1,x2,x3⟩).1
 have HW6:=hid hw6
 clear hu1 hsz1 hbk1 hhk1 hW2 hU5 hbk5 hhk5 hw6 h56 h5b hN hxu HK0 HK1 HK2 HK3 HN HB HBS HP HY HUD H2 HHK HBK HU
 go_upto_region 4 with fail
 all_goals rw[←HW6.out]
 all_goals (try (
   have hA:(Upd (fun k=>k=w.heap.size+1) w6 w6.drew∧ ∃e0 e1 e2 e3,w6.drew.heap[w.heap.size+1]?=some (.cells #[e0,e1,e2,e3] 184 (0,0))):=⟨(Upd.refl _ w6).drew,_,_,_,_,HT6.out⟩
   refine wp_region_G 9 (fun W=>Upd (fun k=>k=w.heap.size+1) w6 W∧ ∃e0 e1 e2 e3,W.heap[w.heap.size+1]?=some (.cells #[e0,e1,e2,e3] 184 (0,0))) [false,false,false,false,false,false,false,false,false,false] rfl (by kernel_rfl) ?_
   refine tqZ 0 (.agg #[.int .i64 x0,.int .i64 x1,.int .i64 x2,.int .i64 x3]) [8] hA (fun w5 q1=>?_) ?_
   ·exact run_load_mid' rfl rfl [.int .i64 x0,.int .i64 x1,.int .i64 x2,.int .i64 x3] (rangeAt_block (cs:=[.int .i64 x0,.int .i64 x1,.int .i64 x2,.int .i64 x3]) ((q1.1.block _ (lt_of_heap H5.out) (by have:=HSZ.out;omega)).trans H5.out)) Tryz.underlying184 rfl Tryz.size107r
   simp only[pZ,nZ,bZ,List.set]
   refine tqZ 1 (.bool false) [7,2] hA (fun w5 q1=>?_) ?_
   ·go_simp
   simp only[pZ,nZ,bZ,List.set]
   refine tqZ 2 (.bool false) [7] hA (fun w5 q1=>?_) ?_
   ·go_simp
   simp only[pZ,nZ,bZ,List.set]
   refine trZ 3 [8,4] hA ?_
   simp only[pZ,nZ,bZ,List.set]
   refine trZ 4 [8] hA ?_
   simp only[pZ,nZ,bZ,List.set]
   refine trZ 5 [7,6] hA ?_
   simp only[pZ,nZ,bZ,List.set]
   refine trZ 6 [7] hA ?_
   simp only[pZ,nZ,bZ,List.set]
   refine tqZ 7 (.bool false) [] hA (fun w5 q1=>?_) ?_
   ·go_simp
   simp only[pZ,nZ,bZ,List.set]
   refine wpG_do (i:=8) rfl (by kernel_rfl) rfl (fun K hK=>?_)
   obtain⟨hAu,e0,e1,e2,e3,hAb⟩:=hA
   refine wp_store_mid 184 (.tmp 2) (.tmp 58) rfl (w.heap.size+1) 0 #[.int .i64 x0,.int .i64 x1,.int .i64 x2,.int .i64 x3] rfl rfl (by have q:=there_block hAb;exact q) Tryz.size107r (by simp[Value.oneCell']) ?_
   have hAv:=Upd.setCells (b:=w.heap.size+1) (F:=fun k=>k=w.heap.size+1) rfl [.int .i64 x0,.int .i64 x1,.int .i64 x2,.int .i64 x3] 0 hAu
   have hAc:=heap_setCells_whole (vs:=[.int .i64 x0,.int .i64 x1,.int .i64 x2,.int .i64 x3]) hAb rfl
   refine hK _ _ ⟨hAv,_,_,_,_,hAc⟩ ?_
   clear hK
   simp only[pZ,nZ,bZ,List.set]
   refine wpG_tail_lit (k:=9) rfl rfl (by kernel_rfl) ?_
   simp only[List.drop]
   have HAV:=hid hAv;have HAC:=hid hAc
   clear hAv hAc hAu hAb
   go_wp2
   have hl3:=run_loadVar_mid (P:=Tryz.prog) _ (w.heap.size+1) 0 184 [.int .i64 x0,.int .i64 x1,.int .i64 x2,.int .i64 x3] _ (rangeAt_block HAC.out) Tryz.underlying184 rfl Tryz.size107r
   refine bodyPost_ret (results_cell_tmp Tryz.results170 rfl hl3) rfl ?_
   have hx:=HHX.out
   have ho:hOk bs=false:=by
    cases hq:hOk bs with
    |false=>rfl
    |true=>
     have:=(hOk_iff bs).1 hq
     rw[hx] at this
     obtain⟨⟨s1,s2,s3,s4⟩,_⟩:=this
     simp only at s1 s2 s3 s4
     omega
   exact⟨by rw[hx,ho];rfl,HU6.out.step HAV.out (fun k hk e=>by omega)⟩
   ))
 by_cases hq:x3≤1073741824
 ·simp only[hq,decide_true]
  have hA:(Upd (fun k=>k=w.heap.size+1) w6 w6.drew∧ ∃e0 e1 e2 e3,w6.drew.heap[w.heap.size+1]?=some (.cells #[e0,e1,e2,e3] 184 (0,0))):=⟨(Upd.refl _ w6).drew,_,_,_,_,HT6.out⟩
  refine wp_region_G 9 (fun W=>Upd (fun k=>k=w.heap.size+1) w6 W∧ ∃e0 e1 e2 e3,W.heap[w.heap.size+1]?=some (.cells #[e0,e1,e2,e3] 184 (0,0))) [false,false,false,false,false,false,false,false,false,false] rfl (by kernel_rfl) ?_
  refine tqZ 0 (.agg #[.int .i64 x0,.int .i64 x1,.int .i64 x2,.int .i64 x3]) [8] hA (fun w5 q1=>?_) ?_
  ·exact run_load_mid' rfl rfl [.int .i64 x0,.int .i64 x1,.int .i64 x2,.int .i64 x3] (rangeAt_block (cs:=[.int .i64 x0,.int .i64 x1,.int .i64 x2,.int .i64 x3]) ((q1.1.block _ (lt_of_heap H5.out) (by have:=HSZ.out;omega)).trans H5.out)) Tryz.underlying184 rfl Tryz.size107r
  simp only[pZ,nZ,bZ,List.set]
  refine tqZ 1 (.bool true) [7,2] hA (fun w5 q1=>?_) ?_
  ·go_simp
  simp only[pZ,nZ,bZ,List.set]
  refine tqZ 2 (.bool true) [7] hA (fun w5 q1=>?_) ?_
  ·go_simp
  simp only[pZ,nZ,bZ,List.set]
  refine tqZ 3 (.agg #[.int .i64 x0,.int .i64 x1,.int .i64 x2,.int .i64 x3]) [8,4] hA (fun w5 q1=>?_) ?_
  ·exact run_load_mid' rfl rfl [.int .i64 x0,.int .i64 x1,.int .i64 x2,.int .i64 x3] (rangeAt_block (cs:=[.int .i64 x0,.int .i64 x1,.int .i64 x2,.int .i64 x3]) ((q1.1.block _ (lt_of_heap H5.out) (by have:=HSZ.out;omega)).trans H5.out)) Tryz.underlying184 rfl Tryz.size107r
  simp only[pZ,nZ,bZ,List.set]
  refine tqZ 5 (.agg (bcells bs).toArray) [7,6] hA (fun w5 q1=>?_) ?_
  ·exact run_load_mid' rfl rfl (bcells bs) (rangeAt_block ((q1.1.block _ (lt_of_heap HBK6.out) (by omega)).trans HBK6.out)) Tryz.underlying48 rfl HI.out
  simp only[pZ,nZ,bZ,List.set]
  refine wpG_doIf (i:=4) rfl (by kernel_rfl) rfl (fun K hK=>?_)
  have HKK:=hid hK
  clear hK
  go_step
  refine(HBC.out _).mono ?_
  rintro e w7 ⟨rfl,hu7⟩
  have hA:(Upd (fun k=>k=w.heap.size+1) w6 w7∧ ∃e0 e1 e2 e3,w7.heap[w.heap.size+1]?=some (.cells #[e0,e1,e2,e3] 184 (0,0))):=⟨hA.1.trans (hu7.mono (fun _ _ e=>e.elim)),_,_,_,_,(hu7.block _ (lt_of_heap HT6.out) (fun e=>e)).trans HT6.out⟩
  simp only[]
  refine HKK.out _ _ hA ?_
  clear HKK hu7
  simp only[List.setIfInBounds_toArray,List.set]
  refine tqZ 6 (.bool (headF ⟨x0,x1,x2,x3⟩ == bs)) [7] hA (fun w5 q1=>?_) ?_
  ·exact run_exec_eqlV rfl rfl rfl HHL.out HL.out
  simp only[pZ,nZ,bZ,List.set]
  refine tqZ 7 (.bool (headF ⟨x0,x1,x2,x3⟩ == bs)) [] hA (fun w5 q1=>?_) ?_
  ·go_simp
  simp only[pZ,nZ,bZ,List.set]
  refine wpG_do (i:=8) rfl (by kernel_rfl) rfl (fun K hK=>?_)
  obtain⟨hAu,e0,e1,e2,e3,hAb⟩:=hA
  refine wp_store_mid 184 (.tmp 2) (.tmp 58) rfl (w.heap.size+1) 0 #[.int .i64 x0,.int .i64 x1,.int .i64 x2,.int .i64 x3] rfl rfl (by have q:=there_block hAb;exact q) Tryz.size107r (by simp[Value.oneCell']) ?_
  have hAv:=Upd.setCells (b:=w.heap.size+1) (F:=fun k=>k=w.heap.size+1) rfl [.int .i64 x0,.int .i64 x1,.int .i64 x2,.int .i64 x3] 0 hAu
  have hAc:=heap_setCells_whole (vs:=[.int .i64 x0,.int .i64 x1,.int .i64 x2,.int .i64 x3]) hAb rfl
  refine hK _ _ ⟨hAv,_,_,_,_,hAc⟩ ?_
  clear hK
  simp only[pZ,nZ,bZ,List.set]
  refine wpG_tail_lit (k:=9) rfl rfl (by kernel_rfl) ?_
  simp only[List.drop]
  have HAV:=hid hAv;have HAC:=hid hAc
  clear hAv hAc hAu hAb
  go_wp2
  have hl3:=run_loadVar_mid (P:=Tryz.prog) _ (w.heap.size+1) 0 184 [.int .i64 x0,.int .i64 x1,.int .i64 x2,.int .i64 x3] _ (rangeAt_block HAC.out) Tryz.underlying184 rfl Tryz.size107r
  refine bodyPost_ret (results_cell_tmp Tryz.results170 rfl hl3) rfl ?_
  have hx:=HHX.out
  have ho:hOk bs=(headF ⟨x0,x1,x2,x3⟩ == bs):=by
   rw[Bool.eq_iff_iff,hOk_iff,hx,beq_iff_eq]
   exact⟨fun h=>h.2,fun h=>⟨⟨⟨by assumption,by assumption⟩,⟨by assumption,by assumption⟩,by assumption,⟨by assumption,by assumption⟩⟩,h⟩⟩
  exact⟨by rw[hx,ho];rfl,HU6.out.step HAV.out (fun k hk e=>by omega)⟩
 ·simp only[hq,decide_false]
  have hA:(Upd (fun k=>k=w.heap.size+1) w6 w6.drew∧ ∃e0 e1 e2 e3,w6.drew.heap[w.heap.size+1]?=some (.cells #[e0,e1,e2,e3] 184 (0,0))):=⟨(Upd.refl _ w6).drew,_,_,_,_,HT6.out⟩
  refine wp_region_G 9 (fun W=>Upd (fun k=>k=w.heap.size+1) w6 W∧ ∃e0 e1 e2 e3,W.heap[w.heap.size+1]?=some (.cells #[e0,e1,e2,e3] 184 (0,0))) [false,false,false,false,false,false,false,false,false,false] rfl (by kernel_rfl) ?_
  refine tqZ 0 (.agg #[.int .i64 x0,.int .i64 x1,.int .i64 x2,.int .i64 x3]) [8] hA (fun w5 q1=>?_) ?_
  ·exact run_load_mid' rfl rfl [.int .i64 x0,.int .i64 x1,.int .i64 x2,.int .i64 x3] (rangeAt_block (cs:=[.int .i64 x0,.int .i64 x1,.int .i64 x2,.int .i64 x3]) ((q1.1.block _ (lt_of_heap H5.out) (by have:=HSZ.out;omega)).trans H5.out)) Tryz.underlying184 rfl Tryz.size107r
  simp only[pZ,nZ,bZ,List.set]
  refine tqZ 1 (.bool false) [7,2] hA (fun w5 q1=>?_) ?_
  ·go_simp
  simp only[pZ,nZ,bZ,List.set]
  refine tqZ 2 (.bool false) [7] hA (fun w5 q1=>?_) ?_
  ·go_simp
  simp only[pZ,nZ,bZ,List.set]
  refine trZ 3 [8,4] hA ?_
  simp only[pZ,nZ,bZ,List.set]
  refine trZ 4 [8] hA ?_
  simp only[pZ,nZ,bZ,List.set]
  refine trZ 5 [7,6] hA ?_
  simp only[pZ,nZ,bZ,List.set]
  refine trZ 6 [7] hA ?_
  simp only[pZ,nZ,bZ,List.set]
  refine tqZ 7 (.bool false) [] hA (fun w5 q1=>?_) ?_
  ·go_simp
  simp only[pZ,nZ,bZ,List.set]
  refine wpG_do (i:=8) rfl (by kernel_rfl) rfl (fun K hK=>?_)
  obtain⟨hAu,e0,e1,e2,e3,hAb⟩:=hA
  refine wp_store_mid 184 (.tmp 2) (.tmp 58) rfl (w.heap.size+1) 0 #[.int .i64 x0,.int .i64 x1,.int .i64 x2,.int .i64 x3] rfl rfl (by have q:=there_block hAb;exact q) Tryz.size107r (by simp[Value.oneCell']) ?_
  have hAv:=Upd.setCells (b:=w.heap.size+1) (F:=fun k=>k=w.heap.size+1) rfl [.int .i64 x0,.int .i64 x1,.int .i64 x2,.int .i64 x3] 0 hAu
  have hAc:=heap_setCells_whole (vs:=[.int .i64 x0,.int .i64 x1,.int .i64 x2,.int .i64 x3]) hAb rfl
  refine hK _ _ ⟨hAv,_,_,_,_,hAc⟩ ?_
  clear hK
  simp only[pZ,nZ,bZ,List.set]
  refine wpG_tail_lit (k:=9) rfl rfl (by kernel_rfl) ?_
  simp only[List.drop]
  have HAV:=hid hAv;have HAC:=hid hAc
  clear hAv hAc hAu hAb
  go_wp2
  have hl3:=run_loadVar_mid (P:=Tryz.prog) _ (w.heap.size+1) 0 184 [.int .i64 x0,.int .i64 x1,.int .i64 x2,.int .i64 x3] _ (rangeAt_block HAC.out) Tryz.underlying184 rfl Tryz.size107r
  refine bodyPost_ret (results_cell_tmp Tryz.results170 rfl hl3) rfl ?_
  have hx:=HHX.out
  have ho:hOk bs=false:=by
   cases hq:hOk bs with
   |false=>rfl
   |true=>
    have:=(hOk_iff bs).1 hq
    rw[hx] at this
    obtain⟨⟨s1,s2,s3,s4⟩,_⟩:=this
    simp only at s1 s2 s3 s4
    omega
  exact⟨by rw[hx,ho];rfl,HU6.out.step HAV.out (fun k hk e=>by omega)⟩
noncomputable def countsF (a b:List Int):Hd×Bool:=
 if hOk a=true∧(hOk b=false∨(readF b).turn≤(readF a).turn) then(readF a,true) else(readF b,hOk b)
theorem counts_any {a b:List Int}(w:World)(ha:a.length=64)(hb:b.length=64)(hA:Bytes a)(hB:Bytes b):
  Calls Tryz.prog 130 #[.agg (bcells a).toArray,.agg (bcells b).toArray] w fun e w'=>e=.returned (.tuple #[(countsF a b).1.val,.bool (countsF a b).2])∧Upd (fun _=>False) w w':=by
 obtain⟨cf,hcf⟩: ∃cf,cf=countsF a b:=⟨_,rfl⟩
 have hc1: ∀W,Calls Tryz.prog 170 #[.agg (bcells a).toArray] W fun e w'=>e=.returned (.tuple #[(readF a).val,.bool (hOk a)])∧Upd (fun _=>False) W w':=fun W=>hread_any W ha hA
 have hc2: ∀W,Calls Tryz.prog 170 #[.agg (bcells b).toArray] W fun e w'=>e=.returned (.tuple #[(readF b).val,.bool (hOk b)])∧Upd (fun _=>False) W w':=fun W=>hread_any W hb hB
 unfold countsF at hcf
 rw[show countsF a b=cf by rw[hcf];rfl]
 have hia:(Tryz.prog.info? 48).map (·.size)=some (bcells a).length:=by rw[Tryz.info56p];simp[bcells,ha]
 have hib:(Tryz.prog.info? 48).map (·.size)=some (bcells b).length:=by rw[Tryz.info56p];simp[bcells,hb]
 have HIA:=hid hia;have HIB:=hid hib
 have H1A:=hid (all_oneCell_toArray (bcells_one a));have H1B:=hid (all_oneCell_toArray (bcells_one b))
 generalize readF a=x at hcf hc1
 generalize readF b=y at hcf hc2
 generalize hOk a=oa at hcf hc1
 generalize hOk b=ob at hcf hc2
 obtain⟨x0,x1,x2,x3⟩:=x
 obtain⟨y0,y1,y2,y3⟩:=y
 simp only[Hd.val] at hc1 hc2
 have HC1:=hid hc1;have HC2:=hid hc2;have HCF:=hid hcf
 clear hc1 hc2 hcf hia hib ha hb hA hB
 generalize bcells a=av at *
 generalize bcells b=bv at *
 go_enter Tryz.func130,Tryz.ntmps130
 go_upto_region 1 with fail
 obtain⟨w1,hw1⟩: ∃w1,w1=((w.alloc (.cells av.toArray 48)).alloc (.cells bv.toArray 48)).alloc (.cells #[.int .i64 0,.int .i64 0,.int .i64 0,.int .i64 0] 184):=⟨_,rfl⟩
 rw[←hw1]
 have hba:w1.heap[w.heap.size]?=some (.cells av.toArray 48 (0,0)):=by rw[hw1];exact(alloc_lt (by simp<;> omega)).trans ((alloc_lt (by simp)).trans (alloc_at rfl))
 have hbb:w1.heap[w.heap.size+1]?=some (.cells bv.toArray 48 (0,0)):=by rw[hw1];exact(alloc_lt (by simp<;> omega)).trans (alloc_at (by simp))
 have hbt:w1.heap[w.heap.size+1+1]?=some (.cells #[.int .i64 0,.int .i64 0,.int .i64 0,.int .i64 0] 184 (0,0)):=by rw[hw1];exact alloc_at (by simp)
 have hu1:Upd (fun _=>False) w w1:=by rw[hw1];exact(((Upd.refl _ w).alloc _).alloc _).alloc _
 have HBA:=hid hba;have HBB:=hid hbb;have HBT:=hid hbt;have HU1:=hid hu1
 clear hba hbb hbt hu1 hw1
 go_step
 refine wpList_load_mid rfl 48 (.tmp 2) rfl w.heap.size 0 rfl av _ (rangeAt_block HBA.out) Tryz.underlying48 rfl HIA.out ?_
 go_wp2_with (go_at_call 170;fail)
 refine(HC1.out _).mono ?_
 rintro e w2 ⟨rfl,hu⟩
 have HBB2:=hid ((hu.block _ (lt_of_heap HBB.out) (fun e=>e)).trans HBB.out);have HBT2:=hid ((hu.block _ (lt_of_heap HBT.out) (fun e=>e)).trans HBT.out);have HU2:=hid (HU1.out.trans hu)
 clear hu HBB HBT HU1 HC1 HBA
 simp only[]
 go_upto_region 2 with fail
 obtain⟨w3,hw3⟩: ∃w3,w3=w2.alloc (.cells #[.int .i64 x0,.int .i64 x1,.int .i64 x2,.int .i64 x3] 184):=⟨_,rfl⟩
 rw[←hw3]
 have h23:Upd (fun _=>False) w2 w3:=by rw[hw3];exact(Upd.refl _ w2).alloc _
 have hx3:w3.heap[w2.heap.size]?=some (.cells #[.int .i64 x0,.int .i64 x1,.int .i64 x2,.int .i64 x3] 184 (0,0)):=by rw[hw3];exact alloc_at rfl
 have HBB3:=hid ((h23.block _ (lt_of_heap HBB2.out) (fun e=>e)).trans HBB2.out);have HBT3:=hid ((h23.block _ (lt_of_heap HBT2.out) (fun e=>e)).trans HBT2.out);have HU3:=hid (HU2.out.trans h23);have HX3:=hid hx3
 clear hw3 h23 hx3 HBB2 HBT2 HU2
 go_step
 refine wpList_load_mid rfl 48 (.tmp 3) rfl (w.heap.size+1) 0 rfl bv _ (rangeAt_block HBB3.out) Tryz.underlying48 rfl HIB.out ?_
 go_wp2_with (go_at_call 170;fail)
 refine(HC2.out _).mono ?_
 rintro e w4 ⟨rfl,hu⟩
 have HBT4:=hid ((hu.block _ (lt_of_heap HBT3.out) (fun e=>e)).trans HBT3.out);have HX4:=hid ((hu.block _ (lt_of_heap HX3.out) (fun e=>e)).trans HX3.out);have HU4:=hid (HU3.out.trans hu)
 clear hu HBT3 HX3 HU3 HC2 HBB3
 simp only[]
 go_upto_region 3 with fail
 obtain⟨w5,hw5⟩: ∃w5,w5=w4.alloc (.cells #[.int .i64 y0,.int .i64 y1,.int .i64 y2,.int .i64 y3] 184):=⟨_,rfl⟩
 rw[←hw5]
 have h45:Upd (fun _=>False) w4 w5:=by rw[hw5];exact(Upd.refl _ w4).alloc _
 have hy5:w5.heap[w4.heap.size]?=some (.cells #[.int .i64 y0,.int .i64 y1,.int .i64 y2,.int .i64 y3] 184 (0,0)):=by rw[hw5];exact alloc_at rfl
 have hx5:=(h45.block _ (lt_of_heap HX4.out) (fun e=>e)).trans HX4.out
 have hbt5:=(h45.block _ (lt_of_heap HBT4.out) (fun e=>e)).trans HBT4.out
 have cx:w5.cell? ⟨w2.heap.size,0,none⟩=some (.int .i64 x0):=by simp[World.cell?,hx5]
 have cy:w5.cell? ⟨w4.heap.size,0,none⟩=some (.int .i64 y0):=by simp[World.cell?,hy5]
 have HX5:=hid hx5;have HY5:=hid hy5;have HT5:=hid hbt5;have HU5:=hid (HU4.out.trans h45)
 have hcf:=HCF.out
 clear hw5 h45 hy5 hx5 hbt5 HBT4 HX4 HU4 HCF
 have fin: ∀(z0 z1 z2 z3:Int),Upd (fun k=>k=w.heap.size+1+1) w5 (w5.setCells (w.heap.size+1+1) 0 [.int .i64 z0,.int .i64 z1,.int .i64 z2,.int .i64 z3])∧(w5.setCells (w.heap.size+1+1) 0 [.int .i64 z0,.int .i64 z1,.int .i64 z2,.int .i64 z3]).heap[w.heap.size+1+1]?=some (.cells #[.int .i64 z0,.int .i64 z1,.int .i64 z2,.int .i64 z3] 184 (0,0)):=fun z0 z1 z2 z3=>
  ⟨Upd.setCells (b:=w.heap.size+1+1) (F:=fun k=>k=w.heap.size+1+1) rfl _ 0 (Upd.refl _ w5),heap_setCells_whole (vs:=[.int .i64 z0,.int .i64 z1,.int .i64 z2,.int .i64 z3]) HT5.out rfl⟩
 have FIN:=hid fin
 clear fin
 by_cases hch:oa=true∧(ob=false∨y0≤x0)
 ·rw[if_pos hch] at hcf
  obtain⟨rfl,hch⟩:=hch
  have HCF:=hid hcf
  clear hcf
  cases ob with
  |false=>
   clear hch
   go_upto_region 4 with fail
   go_step
   refine wpList_load_mid rfl 184 (.tmp 6) rfl w2.heap.size 0 rfl [.int .i64 x0,.int .i64 x1,.int .i64 x2,.int .i64 x3] _ (rangeAt_block (cs:=[.int .i64 x0,.int .i64 x1,.int .i64 x2,.int .i64 x3]) HX5.out) Tryz.underlying184 rfl Tryz.size107r ?_
   refine wpList_store_mid rfl 184 (.tmp 4) (.tmp 32) rfl (w.heap.size+1+1) 0 #[.int .i64 x0,.int .i64 x1,.int .i64 x2,.int .i64 x3] rfl rfl (by have q:=there_block HT5.out;exact q) Tryz.size107r (by simp[Value.oneCell']) ?_
   go_wp2
   have hl3:=run_loadVar_mid (P:=Tryz.prog) _ (w.heap.size+1+1) 0 184 [.int .i64 x0,.int .i64 x1,.int .i64 x2,.int .i64 x3] _ (rangeAt_block (FIN.out x0 x1 x2 x3).2) Tryz.underlying184 rfl Tryz.size107r
   refine bodyPost_ret (results_cell_tmp Tryz.results130 rfl hl3) rfl ⟨by rw[HCF.out];rfl,HU5.out.step (FIN.out x0 x1 x2 x3).1 (fun k hk e=>by omega)⟩
  |true=>
   have hge:x0≥y0:=by rcases hch with h | h;cases h;exact h
   clear hch
   go_upto_region 4 with fail
   go_step
   refine wpList_load_mid rfl 184 (.tmp 6) rfl w2.heap.size 0 rfl [.int .i64 x0,.int .i64 x1,.int .i64 x2,.int .i64 x3] _ (rangeAt_block (cs:=[.int .i64 x0,.int .i64 x1,.int .i64 x2,.int .i64 x3]) HX5.out) Tryz.underlying184 rfl Tryz.size107r ?_
   refine wpList_store_mid rfl 184 (.tmp 4) (.tmp 32) rfl (w.heap.size+1+1) 0 #[.int .i64 x0,.int .i64 x1,.int .i64 x2,.int .i64 x3] rfl rfl (by have q:=there_block HT5.out;exact q) Tryz.size107r (by simp[Value.oneCell']) ?_
   go_wp2
   have hl3:=run_loadVar_mid (P:=Tryz.prog) _ (w.heap.size+1+1) 0 184 [.int .i64 x0,.int .i64 x1,.int .i64 x2,.int .i64 x3] _ (rangeAt_block (FIN.out x0 x1 x2 x3).2) Tryz.underlying184 rfl Tryz.size107r
   refine bodyPost_ret (results_cell_tmp Tryz.results130 rfl hl3) rfl ⟨by rw[HCF.out];rfl,HU5.out.step (FIN.out x0 x1 x2 x3).1 (fun k hk e=>by omega)⟩
 ·rw[if_neg hch] at hcf
  have HCF:=hid hcf
  clear hcf
  cases oa with
  |false=>
   clear hch
   go_upto_region 5 with fail
   go_step
   refine wpList_load_mid rfl 184 (.tmp 8) rfl w4.heap.size 0 rfl [.int .i64 y0,.int .i64 y1,.int .i64 y2,.int .i64 y3] _ (rangeAt_block (cs:=[.int .i64 y0,.int .i64 y1,.int .i64 y2,.int .i64 y3]) HY5.out) Tryz.underlying184 rfl Tryz.size107r ?_
   iterate 3 go_step
   refine wpList_store_mid rfl 184 (.tmp 4) (.tmp 33) rfl (w.heap.size+1+1) 0 #[.int .i64 y0,.int .i64 y1,.int .i64 y2,.int .i64 y3] rfl rfl (by have q:=there_block HT5.out;exact q) Tryz.size107r (by simp[Value.oneCell']) ?_
   go_wp2
   have hl3:=run_loadVar_mid (P:=Tryz.prog) _ (w.heap.size+1+1) 0 184 [.int .i64 y0,.int .i64 y1,.int .i64 y2,.int .i64 y3] _ (rangeAt_block (FIN.out y0 y1 y2 y3).2) Tryz.underlying184 rfl Tryz.size107r
   refine bodyPost_ret (results_cell_tmp Tryz.results130 rfl hl3) rfl ⟨by rw[HCF.out];rfl,HU5.out.step (FIN.out y0 y1 y2 y3).1 (fun k hk e=>by omega)⟩
  |true=>
   cases ob with
   |false=>exact absurd ⟨rfl,.inl rfl⟩ hch
   |true=>
    have hge: ¬x0≥y0:=fun h=>hch ⟨rfl,.inr h⟩
    clear hch
    go_upto_region 5 with fail
    go_step
    refine wpList_load_mid rfl 184 (.tmp 8) rfl w4.heap.size 0 rfl [.int .i64 y0,.int .i64 y1,.int .i64 y2,.int .i64 y3] _ (rangeAt_block (cs:=[.int .i64 y0,.int .i64 y1,.int .i64 y2,.int .i64 y3]) HY5.out) Tryz.underlying184 rfl Tryz.size107r ?_
    iterate 3 go_step
    refine wpList_store_mid rfl 184 (.tmp 4) (.tmp 33) rfl (w.heap.size+1+1) 0 #[.int .i64 y0,.int .i64 y1,.int .i64 y2,.int .i64 y3] rfl rfl (by have q:=there_block HT5.out;exact q) Tryz.size107r (by simp[Value.oneCell']) ?_
    go_wp2
    have hl3:=run_loadVar_mid (P:=Tryz.prog) _ (w.heap.size+1+1) 0 184 [.int .i64 y0,.int .i64 y1,.int .i64 y2,.int .i64 y3] _ (rangeAt_block (FIN.out y0 y1 y2 y3).2) Tryz.underlying184 rfl Tryz.size107r
    refine bodyPost_ret (results_cell_tmp Tryz.results130 rfl hl3) rfl ⟨by rw[HCF.out];rfl,HU5.out.step (FIN.out y0 y1 y2 y3).1 (fun k hk e=>by omega)⟩
end
section
open Go.RowKit
section
variable {F:Fence} {n:Nat} {P:Program}
end
end
section
open Go.RowKit
section
variable {F:Fence} {n:Nat} {P:Program}
theorem wpIn_rangeFunc_toldL {α:Type}{g:Operand}{ps:Array Tmp}{assign body:Code}{Q:Exit→Act→World→Prop}{a:Act}{w:World}
  (hro:F.round=none) (h1:1≤n) {gf:Nat} {lb:Array Value} (hg:a.eval g=.func (.func gf) #[] lb) (hFg:F.fn gf) (eg: ∀args w,(callFunc gf args).run P w=.ok (.enter gf args) w)
  {encs:α→Array Value} (hps: ∀x,(encs x).size=ps.size) (T:List α→α→World→World→Prop) (S:List α→Prop) (I:List α→World→Prop) (Kp:Nat→Prop) (hKp: ∀k,Kp k→k<w.heap.size)
  (hIU: ∀pre W W',I pre W→Upd (fun _=>False) W W'→I pre W') (hIP: ∀pre W l (o:Loop) o',I pre W→w.heap.size≤l→W.heap[l]?=some (.loop o)→I pre (W.putObj l o')) (h0:I [] w)
  (hseq: ∀(l:Nat) (J:List α→World→Prop) (W:World),J [] W→(∀k,k<w.heap.size→W.heap[k]?=w.heap[k]?)→(∀pre W W',J pre W→Upd (fun _=>False) W W'→J pre W')→
   (∀pre x W0 W1,J pre W0→Upd (fun _=>False) W0 W1→T pre x W0 W1→YieldAt F (n - 1 - 1) P l (encs x) W1 fun e W'=>e=.returned (.bool true)∧J (pre++[x]) W'∧ ∀k,Kp k→W'.heap[k]?=W1.heap[k]?)→
   CallsIn F (n - 1) P gf (#[.func (.yield l) #[] #[]]++lb) W fun e W'=>(∃v,e=.returned v)∧ ∃xs,S xs∧J xs W')
  (a₁:α→Act) (hassign: ∀(l:Nat) (x:α) (W:World) (K:Act→World→Prop),K (a₁ x) W→
   assign.wpIn (F.inRound l) (n - 1 - 1) P (Exit.then K (fun _ _ _=>False)) {tmps:=(ps.zip (encs x)).foldl (fun t (p,v)=>t.setIfInBounds p v) a.tmps,defers:=[]} W)
  (hbody: ∀(l:Nat) (pre:List α) (x:α) (W0 W1 W:World) (r r':Loop),w.heap.size≤l→I pre W0→Upd (fun _=>False) W0 W1→T pre x W0 W1→W1.heap[l]?=some (.loop r)→W=W1.putObj l (.loop r')→
   body.wpIn (F.inRound l) (n - 1 - 1) P (fun e _ W3=>e=.normal∧I (pre++[x]) W3∧KeepsFrom w.heap.size W W3∧ ∀k,Kp k→W3.heap[k]?=W.heap[k]?) (a₁ x) W)
  (hdone: ∀(xs:List α) (W:World),S xs→I xs W→W.heap[w.heap.size]?=some (.deferred (some []))→Q .normal {a with defers:={target:=.collected w.heap.size,args:=#[]} :: a.defers} W):
  (Code.rangeFunc g ps assign body).wpIn F n P Q a w:=by
 refine wpIn_rangeFunc ?_
 intro fn hfn
 rw[hro]
 obtain⟨m,hm⟩: ∃m,m=w.heap.size:=⟨_,rfl⟩
 obtain⟨W1,hW1⟩: ∃W1,W1=(w.alloc (.deferred (some []))).alloc (.loop {state:=.ready,pending:=none,fn,tmps:=a.tmps,params:=ps,assign,body,defers:=w.heap.size}):=⟨_,rfl⟩
 have hU1:Upd (fun _=>False) w W1:=by rw[hW1];exact((Upd.refl _ w).alloc _).alloc _
 have hD1:W1.heap[m]?=some (.deferred (some [])):=by rw[hW1,hm];exact(alloc_lt (by simp)).trans (alloc_at rfl)
 obtain⟨rec,hrec⟩: ∃rec:LoopState→Option Code→Loop,rec=fun st pe=>{state:=st,pending:=pe,fn,tmps:=a.tmps,params:=ps,assign,body,defers:=w.heap.size}:=⟨_,rfl⟩
 have hR1:W1.heap[m+1]?=some (.loop (rec .ready none)):=by rw[hW1,hm,hrec];exact alloc_at (by simp)
 refine⟨m+1,[{target:=.collected m,args:=#[]}],W1,{target:=.fn (.func gf) lb,args:=#[.func (.yield (m+1)) #[] #[]]},W1,gf,#[.func (.yield (m+1)) #[] #[]]++lb,W1,?_,?_,?_,?_,fun _=>h1,?_⟩
 ·rw[hW1,hm];exact run_enterLoop_outer _ _ _ _ _
 ·simp only[resolve,hg]
  simp[go_sem]
 ·intro f' hf';simp[Target.leads] at hf';subst hf';exact hFg
 ·simp[invoke,go_sem,eg]
 ·have hread: ∀{W W':World} {k:Nat} {o:Obj},Upd (fun _=>False) W W'→W.heap[k]?=some o→W'.heap[k]?=some o:=fun hu h=>(hu.block _ (lt_of_heap h) (fun e=>e)).trans h
  refine(hseq (m+1) (fun pre W=>I pre W∧W.heap[m+1]?=some (.loop (rec .ready none))∧W.heap[m]?=some (.deferred (some []))) W1 ⟨hIU _ _ _ h0 hU1,hR1,hD1⟩ (fun k hk=>hU1.block k hk (fun e=>e)) (fun pre W W' hJ hu=>⟨hIU _ _ _ hJ.1 hu,hread hu hJ.2.1,hread hu hJ.2.2⟩) ?_).mono ?_
  ·rintro pre x W0 Wy ⟨hi,hl,hd⟩ hu hT
   have hl1:=hread hu hl
   have hd1:=hread hu hd
   have hy:=run_yield (P:=P) (args:=encs x) hl1 (by rw[hrec];exact hps x)
   rw[hrec] at hy
   refine⟨fn,_,assign,body,hy,roundIn_of_wpIn hfn (hassign _ x Wy _ ?_)⟩
   refine⟨_,run_beginRound hl1 (by rw[hrec]),?_⟩
   refine wpIn_mono (hbody (m+1) pre x W0 Wy _ _ _ (by omega) hi hu hT hl1 rfl) ?_
   rintro e a3 W3 ⟨rfl,hi3,hk3,hkp3⟩
   have hl2:(Wy.putObj (m+1) (.loop {rec .ready none with state:=.busy})).heap[m+1]?=some (.loop {rec .ready none with state:=.busy}):=World.putObj_heap_same (lt_of_heap hl1)
   have hl3:=hk3.same _ _ (by omega) hl2 rfl
   have hd3:=hk3.same m (.deferred (some [])) (by omega) ((World.putObj_heap_other (by omega)).trans hd1) rfl
   have hend:=run_endRound (P:=P) none hl3
   rw[hrec] at hend
   refine⟨_,_,hend,rfl,⟨hIP _ _ _ _ _ hi3 (by omega) hl3,?_,(World.putObj_heap_other (by omega)).trans hd3⟩,fun k hk=>?_⟩
   ·rw[hrec];exact World.putObj_heap_same (lt_of_heap hl3)
   ·have:=hKp k hk
    rw[World.putObj_heap_other (by omega),hkp3 k hk,World.putObj_heap_other (by omega)]
  ·rintro e W2 ⟨⟨v,rfl⟩,xs,hS,hi,hl,hd⟩
   have hend:=run_endLoop (P:=P) hl (by rw[hrec];simp)
   rw[hrec] at hend
   refine⟨none,_,hend,?_⟩
   have:=hdone xs _ hS (hIP _ _ _ _ (.loop {rec .ready none with state:=.exhausted}) hi (by omega) hl) (by rw[←hm];exact(World.putObj_heap_other (by omega)).trans hd)
   rw[hm]
   rw[hrec,hm] at this
   exact this
end
end
section
open Go.RowKit
def overF (b:List Int)(off:Nat)(src:List Int):List Int:=b.take off++(src.take (b.length - off)++b.drop (off+src.length))
theorem overF_length (b:List Int)(off:Nat)(src:List Int)(h:off≤b.length):(overF b off src).length=b.length:=by
 simp only[overF,List.length_append,List.length_take,List.length_drop];omega
theorem overF_get (b:List Int)(off:Nat)(src:List Int)(h:off≤b.length)(j:Nat):(overF b off src)[j]?=if off≤j∧j<off+src.length∧j<b.length then src[j - off]? else b[j]?:=by
 unfold overF
 by_cases h1:j<off
 ·rw[if_neg (by omega),List.getElem?_append_left (by simp;omega),List.getElem?_take_of_lt h1]
 ·rw[List.getElem?_append_right (by simp;omega)]
  have e:(b.take off).length=off:=by simp;omega
  rw[e]
  by_cases h2:j - off<(src.take (b.length - off)).length
  ·rw[List.getElem?_append_left h2]
   simp only[List.length_take] at h2
   rw[if_pos (by omega),List.getElem?_take_of_lt (by omega)]
  ·rw[List.getElem?_append_right (by omega)]
   simp only[List.length_take] at h2 ⊢
   by_cases h3:j<b.length
   ·rw[if_neg (by omega),List.getElem?_drop]
    congr 1
    omega
   ·rw[if_neg (by omega),List.getElem?_drop,List.getElem?_eq_none (by omega),List.getElem?_eq_none (by omega)]
theorem be4_lay {x:Int}(h:0≤x∧x≤4294967295):be4 (x / 2 ^ 24 % 256) (x / 2 ^ 16 % 256) (x / 2 ^ 8 % 256) (x / 2 ^ 0 % 256) 4=x:=by
 show x / 2 ^ 24 % 256 * 16777216+(x / 2 ^ 16 % 256 * 65536+(x / 2 ^ 8 % 256 * 256+x / 2 ^ 0 % 256))=x
 omega
theorem layF32 (x:Int):layF x 32=[x / 2 ^ 24 % 256,x / 2 ^ 16 % 256,x / 2 ^ 8 % 256,x / 2 ^ 0 % 256]:=rfl
theorem layF16 (x:Int):layF x 16=[x / 2 ^ 8 % 256,x / 2 ^ 0 % 256]:=rfl
theorem be_lay {x:Int}(h:0≤x∧x≤4294967295)(r:List Int):be (layF x 32++r)=x:=by
 rw[layF32];exact be4_lay h
theorem layF32_inj {x y:Int}(hx:0≤x∧x≤4294967295)(hy:0≤y∧y≤4294967295)(h:layF x 32=layF y 32):x=y:=by
 have h1:=be_lay hx [];have h2:=be_lay hy []
 rw[h] at h1
 exact h1.symm.trans h2
theorem layF16_inj {x y:Int}(hx:0≤x∧x≤65535)(hy:0≤y∧y≤65535)(h:layF x 16=layF y 16):x=y:=by
 rw[layF16,layF16] at h
 injection h with h1 h2
 injection h2 with h2 _
 omega
theorem leadF_length (turn number:Int)(snap:Bool)(n k:Nat):(leadF turn number snap n k).length=12:=by simp[leadF,layF_length]
theorem cutF_length {turn number:Int}{snap:Bool}{b:List Int}{k:Nat}:(cutF turn number snap b k).length=16+(allF b k).length:=by simp[cutF,leadF_length,layF_length];omega
theorem cutF_turn {turn number:Int}(ht:0≤turn∧turn≤4294967295)(snap:Bool)(b:List Int)(k:Nat):be (cutF turn number snap b k)=turn:=by
 unfold cutF leadF
 rw[List.append_assoc,List.append_assoc,List.append_assoc,List.append_assoc]
 exact be_lay ht _
theorem cutF_drop (turn number:Int)(snap:Bool)(b:List Int)(k:Nat):(cutF turn number snap b k).drop 16=allF b k:=by
 unfold cutF
 exact List.drop_left' (by simp[leadF_length,layF_length])
theorem allF_zero (b:List Int): ∃r,allF b 0=layF b.length 32++r:=by
 unfold allF
 simp only[if_true]
 exact⟨_,by rw[List.append_assoc]⟩
theorem cutF_len {turn number:Int}{snap:Bool}{b:List Int}(h:b.length≤40000):be ((cutF turn number snap b 0).drop 16)=b.length:=by
 rw[cutF_drop]
 obtain⟨r,hr⟩:=allF_zero b
 rw[hr]
 exact be_lay (by omega) r
theorem app_inj {a b c d:List Int}(h:a++b=c++d)(hl:a.length=c.length):a=c∧b=d:=List.append_inj h hl
theorem cutF_names {t n t' n':Int}{s s':Bool}{b b':List Int}{k k':Nat}(ht:0≤t∧t≤4294967295)(ht':0≤t'∧t'≤4294967295)(hn:0≤n∧n≤4294967295)(hn':0≤n'∧n'≤4294967295)(hk:k≤65535)(hk':k'≤65535)(hb:b.length≤40000)(hb':b'.length≤40000)
  (h:cutF t n s b k=cutF t' n' s' b' k'):t=t'∧n=n'∧k=k'∧manyF b.length s=manyF b'.length s'∧allF b k=allF b' k':=by
 have hA:allF b k=allF b' k':=by rw[←cutF_drop t n s b k,←cutF_drop t' n' s' b' k',h]
 unfold cutF at h
 rw[List.append_assoc,List.append_assoc] at h
 obtain⟨h1,_⟩:=app_inj h (by rw[leadF_length,leadF_length])
 unfold leadF at h1
 obtain⟨h1,hm⟩:=app_inj h1 (by simp[layF_length])
 obtain⟨h1,hkk⟩:=app_inj h1 (by simp[layF_length])
 obtain⟨h1,hnn⟩:=app_inj h1 (by simp[layF_length])
 have m1: ∀(m:Nat) (s:Bool),m≤40000→0≤manyF m s∧manyF m s≤65535:=by
  intro m s hm
  unfold manyF secsN
  cases s<;> simp<;> omega
 refine⟨layF32_inj ht ht' h1,layF32_inj hn hn' hnn,?_,layF16_inj (m1 _ _ hb) (m1 _ _ hb') hm,hA⟩
 have:=layF16_inj (x:=(k:Int)) (y:=(k':Int)) (by omega) (by omega) hkk
 omega
theorem cutF_snap {t n t' n':Int}{s s':Bool}{b b':List Int}{k k':Nat}(ht:0≤t∧t≤4294967295)(ht':0≤t'∧t'≤4294967295)(hn:0≤n∧n≤4294967295)(hn':0≤n'∧n'≤4294967295)(hk:k≤65535)(hk':k'≤65535)(hb:b.length≤40000)(hb':b'.length≤40000)
  (h:cutF t n s b k=cutF t' n' s' b' k'):s=s':=by
 obtain⟨_,_,_,hm,_⟩:=cutF_names ht ht' hn hn' hk hk' hb hb' h
 unfold manyF secsN at hm
 cases s<;> cases s'<;> simp at hm ⊢ <;> omega
theorem allF_congr {b c:List Int}{k:Nat}(hl:b.length=c.length)(h: ∀j,48 * k - 4≤j→j<48 * k+44→b[j]?=c[j]?):allF b k=allF c k:=by
 have e:(b.drop (48 * k - 4)).take (min (48 * k+44) b.length - (48 * k - 4))=(c.drop (48 * k - 4)).take (min (48 * k+44) c.length - (48 * k - 4)):=by
  apply List.ext_getElem?
  intro j
  rw[hl]
  by_cases hj:j<min (48 * k+44) c.length - (48 * k - 4)
  ·rw[List.getElem?_take_of_lt hj,List.getElem?_take_of_lt hj,List.getElem?_drop,List.getElem?_drop]
   exact h _ (by omega) (by omega)
  ·rw[List.getElem?_eq_none (by simp;omega),List.getElem?_eq_none (by simp;omega)]
 unfold allF
 rw[e,hl]
theorem cutF_congr {t n:Int}{s:Bool}{b c:List Int}{k:Nat}(hl:b.length=c.length)(h: ∀j,48 * k - 4≤j→j<48 * k+44→b[j]?=c[j]?):cutF t n s b k=cutF t n s c k:=by
 unfold cutF
 rw[allF_congr hl h,hl]
theorem allF_get {b:List Int}{k j:Nat}(hk:0<k)(hj:j<48)(hb:48 * k - 4+j<b.length):(allF b k)[j]?=b[48 * k - 4+j]?:=by
 unfold allF
 simp only[show¬k=0 by omega,if_false,List.nil_append]
 rw[List.getElem?_append_left (by simp;omega),List.getElem?_take_of_lt (by omega),List.getElem?_drop]
theorem allF_get0 {b:List Int}{j:Nat}(hj:j<44)(hb:j<b.length):(allF b 0)[4+j]?=b[j]?:=by
 unfold allF
 simp only[if_true,List.append_assoc]
 rw[List.getElem?_append_right (by simp[layF_length])]
 simp only[layF_length]
 rw[show 4+j - 32 / 8=j by omega,List.getElem?_append_left (by simp;omega),List.getElem?_take_of_lt (by omega),List.getElem?_drop]
 congr 1
 omega
theorem allF_len48 {b:List Int}{k:Nat}:(allF b k).length=48:=by
 unfold allF
 split<;> simp[layF_length]<;> omega
/-! ### What is found -/
noncomputable def goS (S:Int→List Int)(h:Hd)(number place turn:Int)(snap:Bool):Nat→Nat→List Int→Option (List Int)
 | 0,_,b=>some b
 |m+1,k,b=>open Classical in if cutF turn number snap (overF b (48 * k - 4) ((S (atF h.area (place+k))).drop 16)) k=S (atF h.area (place+k)) then goS S h number place turn snap m (k+1) (overF b (48 * k - 4) ((S (atF h.area (place+k))).drop 16)) else none
def startT (s:List Int):Int:=be s
def startN (s:List Int):Int:=be (s.drop 16)
def startB (s:List Int):List Int:=overF (List.replicate (startN s).toNat 0) 0 (s.drop 20)
def Starts (h:Hd)(left:Int)(s:List Int):Prop:=1≤startT s∧startT s≤h.turn∧startN s≤40000∧(secsN (startN s).toNat:Int)≤left
open Classical in
noncomputable def wholeS (S:Int→List Int)(h:Hd)(number place:Int)(snap:Bool)(left:Int):Option (List Int):=
 if left=0 then none else
 if Starts h left (S (atF h.area place))∧cutF (startT (S (atF h.area place))) number snap (startB (S (atF h.area place))) 0=S (atF h.area place) then
  goS S h number place (startT (S (atF h.area place))) snap (secsN (startN (S (atF h.area place))).toNat - 1) 1 (startB (S (atF h.area place)))
 else none
def LiesAt (S:Int→List Int)(h:Hd)(number place t:Int)(snap:Bool)(b:List Int):Prop:= ∀k:Nat,k<secsN b.length→S (atF h.area (place+k))=cutF t number snap b k
theorem secsN_pos (n:Nat):1≤secsN n:=by unfold secsN;omega
theorem goS_finds {S:Int→List Int}{h:Hd}{number place t:Int}{snap:Bool}{b:List Int}(hl:LiesAt S h number place t snap b): ∀(m k:Nat) (c:List Int),0<k→k+m=secsN b.length→c.length=b.length→(∀j,j<48 * k - 4→c[j]?=b[j]?)→goS S h number place t snap m k c=some b
 | 0,k,c,hk,hm,hc,hp=>by
  unfold goS
  congr 1
  apply List.ext_getElem?
  intro j
  by_cases hj:j<b.length
  ·exact hp j (by unfold secsN at hm;omega)
  ·rw[List.getElem?_eq_none (by omega),List.getElem?_eq_none (by omega)]
 |m+1,k,c,hk,hm,hc,hp=>by
  have hs:=hl k (by omega)
  have hoff:48 * k - 4≤c.length:=by unfold secsN at hm;omega
  have hd:((cutF t number snap b k).drop 16)=allF b k:=cutF_drop ..
  have hg: ∀j,j<48 * (k+1) - 4→(overF c (48 * k - 4) (allF b k))[j]?=b[j]?:=by
   intro j hj
   rw[overF_get _ _ _ hoff,allF_len48]
   split
   ·rename_i h1
    rw[allF_get hk (by omega) (by omega)]
    congr 1;omega
   ·by_cases h2:j<b.length
    ·exact hp j (by omega)
    ·rw[List.getElem?_eq_none (by omega),List.getElem?_eq_none (by omega)]
  have hlen:(overF c (48 * k - 4) (allF b k)).length=b.length:=by rw[overF_length _ _ _ hoff,hc]
  unfold goS
  rw[hs,hd,if_pos (cutF_congr hlen (fun j _ h2=>hg j (by omega)))]
  exact goS_finds hl m (k+1) _ (by omega) (by omega) hlen hg
theorem wholeS_finds {S:Int→List Int}{h:Hd}{number place t left:Int}{snap:Bool}{b:List Int}(hl:LiesAt S h number place t snap b)(ht:1≤t∧t≤h.turn)(ht2:h.turn≤4294967295)(hb:b.length≤40000)(hs:(secsN b.length:Int)≤left):wholeS S h number place snap left=some b:=by
 have h0:=secsN_pos b.length
 have e:=hl 0 (by omega)
 rw[show place+((0:Nat):Int)=place by omega] at e
 have eT:startT (cutF t number snap b 0)=t:=cutF_turn (by omega) ..
 have eN:startN (cutF t number snap b 0)=b.length:=cutF_len hb
 have hd:(cutF t number snap b 0).drop 20=(allF b 0).drop 4:=by rw[←cutF_drop t number snap b 0,List.drop_drop]
 have hg: ∀j,j<44→(startB (cutF t number snap b 0))[j]?=b[j]?:=by
  intro j hj
  unfold startB
  rw[eN,hd,overF_get _ _ _ (by omega)]
  simp only[List.length_drop,allF_len48,List.length_replicate,Int.toNat_natCast]
  split
  ·rename_i h1
   rw[List.getElem?_drop,show 4+(j - 0)=4+j by omega]
   exact allF_get0 hj h1.2.2
  ·rename_i h1
   rw[List.getElem?_eq_none (by simp;omega),List.getElem?_eq_none (by omega)]
 have hlen:(startB (cutF t number snap b 0)).length=b.length:=by
  unfold startB
  rw[overF_length _ _ _ (by omega),eN];simp
 unfold wholeS
 rw[if_neg (by omega),e,eT,eN,if_pos ⟨⟨by rw[eT];omega,by rw[eT];omega,by rw[eN];omega,by rw[eN];simpa using hs⟩,cutF_congr hlen (fun j _ h2=>hg j (by omega))⟩,Int.toNat_natCast]
 exact goS_finds hl _ 1 _ (by omega) (by omega) hlen hg
theorem goS_lies {S:Int→List Int}{h:Hd}{number place t:Int}{snap:Bool}{b:List Int}: ∀(m k:Nat) (c:List Int),0<k→k+m=secsN c.length→goS S h number place t snap m k c=some b→
  b.length=c.length∧(∀j,j<48 * k - 4→b[j]?=c[j]?)∧ ∀i:Nat,k≤i→i<k+m→S (atF h.area (place+i))=cutF t number snap b i
 | 0,k,c,hk,hm,hf=>by
  unfold goS at hf
  injection hf with hf
  subst hf
  exact⟨rfl,fun _ _=>rfl,fun i h1 h2=>by omega⟩
 |m+1,k,c,hk,hm,hf=>by
  unfold goS at hf
  have hoff:48 * k - 4≤c.length:=by unfold secsN at hm;omega
  generalize hsrc:(S (atF h.area (place+k))).drop 16=src at hf
  split at hf
  ·rename_i hc
   have hlen:(overF c (48 * k - 4) src).length=c.length:=overF_length _ _ _ hoff
   obtain⟨g1,g2,g3⟩:=goS_lies m (k+1) _ (by omega) (by rw[hlen];omega) hf
   have hsl:src.length=48:=by rw[←hsrc,←hc,cutF_drop,allF_len48]
   refine⟨by omega,fun j hj=>?_,fun i h1 h2=>?_⟩
   ·rw[g2 j (by omega),overF_get _ _ _ hoff,if_neg (by omega)]
   ·by_cases hi:i=k
    ·subst hi
     rw[←hc]
     exact cutF_congr g1.symm (fun j _ h4=>(g2 j (by omega)).symm)
    ·exact g3 i (by omega) (by omega)
  ·cases hf
theorem wholeS_lies {S:Int→List Int}{h:Hd}{number place left:Int}{snap:Bool}{b:List Int}(hf:wholeS S h number place snap left=some b)(hby: ∀i,0≤startN (S i)):
  ∃t,(1≤t∧t≤h.turn)∧b.length≤40000∧(secsN b.length:Int)≤left∧LiesAt S h number place t snap b:=by
 unfold wholeS at hf
 split at hf
 ·cases hf
 ·split at hf
  ·rename_i h0 hc
   obtain⟨⟨h1,h2,h3,h4⟩,hc⟩:=hc
   have hn:=hby (atF h.area place)
   have hlen:(startB (S (atF h.area place))).length=(startN (S (atF h.area place))).toNat:=by
    unfold startB;rw[overF_length _ _ _ (by omega)];simp
   have hp:=secsN_pos (startN (S (atF h.area place))).toNat
   obtain⟨g1,g2,g3⟩:=goS_lies _ 1 _ (by omega) (by rw[hlen];omega) hf
   refine⟨_,⟨h1,h2⟩,by omega,by rw[g1,hlen];exact h4,fun k hk=>?_⟩
   rw[g1,hlen] at hk
   by_cases h0:k=0
   ·subst h0
    rw[show place+((0:Nat):Int)=place by omega]
    rw (occs:=.pos [1]) [←hc]
    exact cutF_congr g1.symm (fun j _ h6=>(g2 j (by omega)).symm)
   ·exact g3 k (by omega) (by omega)
  ·cases hf
def usedOf (l:List (List Int)):Int:=(l.map fun b=>(secsN b.length:Int)).sum
theorem usedOf_nil:usedOf []=0:=rfl
theorem usedOf_cons (b:List Int)(l:List (List Int)):usedOf (b :: l)=secsN b.length+usedOf l:=by simp[usedOf]
theorem usedOf_append (k l:List (List Int)):usedOf (k++l)=usedOf k+usedOf l:=by simp[usedOf]
theorem usedOf_pos (l:List (List Int)):0≤usedOf l:=by
 induction l with
 |nil=>simp[usedOf]
 |cons b l ih=>rw[usedOf_cons];omega
noncomputable def foundS (S:Int→List Int)(h:Hd):Nat→List (List Int)→Int→List (List Int)
 | 0,ps,_=>ps
 |f+1,ps,u=>match wholeS S h (h.number+ps.length) (h.place+u) (decide (ps=[])) (h.area - u) with
  |none=>ps
  |some b=>foundS S h f (ps++[b]) (u+secsN b.length)
def PartsAt (S:Int→List Int)(h:Hd):Nat→Int→List (List Int)→Prop
 | _,_,[]=>True
 |j,u,b :: l=>(∃t,(1≤t∧t≤h.turn)∧LiesAt S h (h.number+j) (h.place+u) t (decide (j=0)) b)∧b.length≤40000∧PartsAt S h (j+1) (u+secsN b.length) l
theorem PartsAt.congr {S S':Int→List Int}{h:Hd}: ∀(l:List (List Int)) (j:Nat) (u:Int),(∀v,u≤v→v<u+usedOf l→S' (atF h.area (h.place+v))=S (atF h.area (h.place+v)))→PartsAt S h j u l→PartsAt S' h j u l
 | [],_,_,_,_=>trivial
 |b :: l,j,u,hS,⟨⟨t,ht,hl⟩,hb,hr⟩=>by
  have h0:=usedOf_pos l
  have h1:=secsN_pos b.length
  rw[usedOf_cons] at hS
  refine⟨⟨t,ht,fun k hk=>?_⟩,hb,PartsAt.congr l _ _ (fun v h1 h2=>hS v (by omega) (by omega)) hr⟩
  rw[←hl k hk,show h.place+u+(k:Int)=h.place+(u+k) by omega]
  exact hS _ (by omega) (by omega)
theorem PartsAt.turn {S:Int→List Int}{h h':Hd}(h1:h'.area=h.area)(h2:h'.place=h.place)(h3:h'.number=h.number)(h4:h.turn≤h'.turn): ∀(l:List (List Int)) (j:Nat) (u:Int),PartsAt S h j u l→PartsAt S h' j u l
 | [],_,_,_=>trivial
 |b :: l,j,u,⟨⟨t,ht,hl⟩,hb,hr⟩=>by
  refine⟨⟨t,by omega,fun k hk=>?_⟩,hb,PartsAt.turn h1 h2 h3 h4 l _ _ hr⟩
  rw[h1,h2,h3]
  exact hl k hk
theorem PartsAt.snoc {S:Int→List Int}{h:Hd}{b:List Int}: ∀(l:List (List Int)) (j:Nat) (u:Int),PartsAt S h j u l→(∃t,(1≤t∧t≤h.turn)∧LiesAt S h (h.number+(j+l.length:Nat)) (h.place+(u+usedOf l)) t (decide (j+l.length=0)) b)→b.length≤40000→PartsAt S h j u (l++[b])
 | [],j,u,_,⟨t,ht,hl⟩,hb=>by
  simp only[usedOf_nil,List.length_nil,Nat.add_zero,Int.add_zero] at hl
  exact⟨⟨t,ht,hl⟩,hb,trivial⟩
 |c :: l,j,u,⟨hc,hcl,hr⟩,⟨t,ht,hl⟩,hb=>by
  refine⟨hc,hcl,PartsAt.snoc l _ _ hr ⟨t,ht,?_⟩ hb⟩
  rw[usedOf_cons] at hl
  rw[show j+1+l.length=j+(c :: l).length by simp;omega,show u+(secsN c.length:Int)+usedOf l=u+(secsN c.length+usedOf l) by omega]
  exact hl
theorem foundS_finds {S:Int→List Int}{h:Hd}(ht:h.turn≤4294967295): ∀(l:List (List Int)) (f:Nat) (ps:List (List Int)) (u:Int),PartsAt S h ps.length u l→u+usedOf l≤h.area→l.length<f→
  wholeS S h (h.number+(ps++l).length) (h.place+(u+usedOf l)) (decide (ps++l=[])) (h.area - (u+usedOf l))=none→foundS S h f ps u=ps++l
 | [],0,_,_,_,_,hf,_=>by simp at hf
 | [],f+1,ps,u,_,_,_,hn=>by
  simp only[List.append_nil,usedOf_nil,Int.add_zero] at hn ⊢
  unfold foundS
  rw[hn]
 |b :: l,0,_,_,_,_,hf,_=>by simp at hf
 |b :: l,f+1,ps,u,⟨⟨t,h1,h2⟩,hb,hr⟩,hu,hf,hn=>by
  have h0:=usedOf_pos l
  rw[usedOf_cons] at hu hn
  have hw:wholeS S h (h.number+ps.length) (h.place+u) (decide (ps=[])) (h.area - u)=some b:=by
   have e:decide (ps=[])=decide (ps.length=0):=by simp
   rw[e]
   exact wholeS_finds h2 h1 ht hb (by omega)
  unfold foundS
  rw[hw]
  show foundS S h f (ps++[b]) (u+secsN b.length)=ps++b :: l
  rw[show ps++b :: l=(ps++[b])++l by simp]
  refine foundS_finds ht l f (ps++[b]) _ (by simpa using hr) (by omega) (by simp at hf;omega) ?_
  rw[show ps++[b]++l=ps++b :: l by simp,show u+(secsN b.length:Int)+usedOf l=u+(secsN b.length+usedOf l) by omega]
  exact hn
/-! ### Sectors laid -/
def layS (S:Int→List Int):List (Int×List Int)→Int→List Int
 | []=>S
 |x :: l=>layS (fun i=>if i=x.1 then x.2 else S i) l
theorem layS_other {i:Int}: ∀(l:List (Int×List Int)) (S:Int→List Int),(∀x∈l,x.1≠i)→layS S l i=S i
 | [],_,_=>rfl
 |x :: l,S,h=>by
  unfold layS
  rw[layS_other l _ (fun y hy=>h y (List.mem_cons_of_mem _ hy))]
  simp[Ne.symm (h x (List.mem_cons_self ..))]
theorem layS_mem {i:Int}{b:List Int}: ∀(l:List (Int×List Int)) (S:Int→List Int),l.Pairwise (fun x y=>x.1≠y.1)→(i,b)∈l→layS S l i=b
 |x :: l,S,hp,h=>by
  unfold layS
  rw[List.pairwise_cons] at hp
  rcases List.mem_cons.1 h with rfl | h
  ·rw[layS_other l _ (fun y hy=>(hp.1 y hy).symm)]
   simp
  ·exact layS_mem l _ hp.2 h
theorem atF_inj {area p a b:Int}(ha:1≤area)(h:atF area (p+a)=atF area (p+b))(h1:a≤b)(h2:b<a+2 * area):a=b:=by
 unfold atF at h
 have e:(p+b) % (2 * area)=(p+a) % (2 * area):=by omega
 have:=Int.emod_emod_of_dvd (p+b) (Int.dvd_refl (2 * area))
 have h3:=Int.emod_add_mul_ediv (p+a) (2 * area)
 have h4:=Int.emod_add_mul_ediv (p+b) (2 * area)
 have h5:2 * area * ((p+b) / (2 * area)) - 2 * area * ((p+a) / (2 * area))=b - a:=by omega
 rw[←Int.mul_sub] at h5
 generalize (p+b) / (2 * area) - (p+a) / (2 * area)=q at h5
 rcases Int.lt_trichotomy q 0 with hq | hq | hq
 ·have:2 * area * q≤2 * area * (-1):=Int.mul_le_mul_of_nonneg_left (by omega) (by omega)
  omega
 ·subst hq;omega
 ·have:2 * area * 1≤2 * area * q:=Int.mul_le_mul_of_nonneg_left (by omega) (by omega)
  omega
def partL (h:Hd)(number place:Int)(snap:Bool)(b:List Int):List (Int×List Int):=(List.range (secsN b.length)).map fun(k:Nat)=>(atF h.area (place+k),cutF h.turn number snap b k)
theorem partL_pairwise {h:Hd}{number place:Int}{snap:Bool}{b:List Int}(ha:1≤h.area)(hs:(secsN b.length:Int)≤2 * h.area):(partL h number place snap b).Pairwise (fun x y=>x.1≠y.1):=by
 unfold partL
 rw[List.pairwise_map]
 have hp:(List.range (secsN b.length)).Pairwise (fun i j=>i<j∧j<secsN b.length):=by
  rw[List.pairwise_iff_getElem]
  intro i j hi hj hij
  simp at hi hj ⊢
  omega
 refine hp.imp (fun {x y} hx e=>?_)
 have:=atF_inj ha e (by omega) (by omega)
 omega
theorem layS_part {S:Int→List Int}{h:Hd}{number place:Int}{snap:Bool}{b:List Int}(ha:1≤h.area)(hs:(secsN b.length:Int)≤2 * h.area):LiesAt (layS S (partL h number place snap b)) h number place h.turn snap b:=fun k hk=>
 layS_mem _ _ (partL_pairwise ha hs) (List.mem_map.2 ⟨k,by simpa using hk,rfl⟩)
theorem layS_part_other {S:Int→List Int}{h:Hd}{number place i:Int}{snap:Bool}{b:List Int}(hi: ∀k:Nat,k<secsN b.length→atF h.area (place+k)≠i):layS S (partL h number place snap b) i=S i:=by
 refine layS_other _ _ (fun x hx=>?_)
 unfold partL at hx
 rw[List.mem_map] at hx
 obtain⟨k,hk,rfl⟩:=hx
 exact hi k (by simpa using hk)
end
end Go.Proofs.YtbimkhdiplnbfaaGreat
