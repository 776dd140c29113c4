/- Walks. -/
import Derived.Test.YtbimkhdiplnbfaaGreatU19
import Derived.Maps.OwnSet
import Derived.StringKeys
import Derived.Lib.Bytes
import Derived.Lib.AppendStr
set_option linter.unusedVariables false
set_option linter.unusedSimpArgs false
namespace Go.Proofs.YtbimkhdiplnbfaaGreat
set_option maxRecDepth 1000000
set_option maxHeartbeats 16000000
variable {bad x:Bool} {s:ByteArray} {M:ByteArray→Option (List Int)} {area ev:Int} {bs:List Int} {l sets:List SetV} {B b c m mb n p r rb:Nat} {C F:Nat→Prop} {st:Option (List Int)} {a:Option Addr} {t:TypeId} {lg mv v:Value} {W w w':World}
section
open Go.RowKit Go.Shelf
def metD (ns:List ByteArray):DataW Empty:=ns.foldl (fun D s=>D.put (.string s.data.toList) (.lit (.bool true))) (.map [])
theorem Zjc (ns:List ByteArray)(s:ByteArray):metD (ns++[s])=(metD ns).put (.string s.data.toList) (.lit (.bool true)):=by simp[metD]
theorem Zn5 (ns:List ByteArray):Maps.IsMap (metD ns):=by
 have h: ∀(l:List ByteArray) (D:DataW Empty),Maps.IsMap D→Maps.IsMap (l.foldl (fun D s=>D.put (.string s.data.toList) (.lit (.bool true))) D):=by
  intro l
  induction l with
  |nil=>exact fun _ h=>h
  |cons s l ih=>exact fun D h=>ih _ (h.put _ _)
 exact h ns _ Maps.isMap_empty
theorem Zuc {t:ByteArray}(h:s.data.toList=t.data.toList):s=t:=by
 cases s;cases t
 simp only[ByteArray.mk.injEq]
 exact Array.toList_inj.1 h
def metB (ns:List ByteArray)(s:ByteArray):Bool:=ns.any fun t=>decide (t=s)
theorem Zm3 (s:ByteArray): ∀(m:Nat) (ns:List ByteArray),ns.length=m→(metD ns).atKey (.string s.data.toList) (.lit (.bool false))=.lit (.bool (metB ns s))
 | 0,ns,h=>by
  have:=List.length_eq_zero_iff.1 h
  subst this
  rfl
 |m+1,ns,h=>by
  obtain⟨l,t,rfl⟩: ∃l t,ns=l++[t]:=by
   rcases List.eq_nil_or_concat ns with e | ⟨l,t,e⟩
   ·simp[e] at h
   ·exact⟨l,t,by rw[e];simp⟩
  rw[Zjc]
  by_cases e:s=t
  ·subst e
   rw[Maps.atKey_put_same (Zn5 l) (by trivial)]
   simp[metB]
  ·have a0:(Lit.string s.data.toList)≠.string t.data.toList:=fun h=>by injection h with h;exact e (Zuc h)
   rw[Maps.atKey_put_other a0,Zm3 s m l (by simpa using h)]
   have e': ¬t=s:=fun h=>e h.symm
   simp[metB,e']
theorem Tryz.underlying225m:Tryz.prog.underlying 225=some (.map 9 4):=by kernel_rfl
theorem Tryz.underlying9s':Tryz.prog.underlying 9=some .string:=by kernel_rfl
theorem Tryz.underlying4b:Tryz.prog.underlying 4=some .bool:=by kernel_rfl
theorem Zro {ns:List ByteArray}(hown:w.ownsMap Tryz.prog 9 (plainElem Tryz.prog 4) mb m (metD ns))(hs:s.size≤maxLen):
  (Instr.lookup 225 (.map (some mb)) (.string s) false).run Tryz.prog w=.ok (.bool (metB ns s)) w:=by
 have hz:(zeroValue 4).run Tryz.prog w=.ok (.bool false) w:=by kernel_rfl
 obtain⟨v,ps,a0,hv⟩:=hown.lookup (Maps.string_keyed Tryz.underlying9s') Tryz.underlying225m (z:=.bool false) hz (plainElem_bool Tryz.underlying4b false) (key:=.string s) (WideMaps.keyOf_string_mk Tryz.underlying9s' hs)
 obtain⟨x,rfl,hx⟩:=Zcq Tryz.underlying4b hv
 rw[a0]
 have:=(Prod.mk.inj hx).1
 rw[Zm3 s _ ns rfl] at this
 injection this with this
 injection this with this
 rw[this]
def setV (nm:ByteArray)(was is:Bool)(oa na:Option Addr)(on oc nn nc:Nat):Value:=.agg #[.string nm,.bool was,.bool is,.slice oa on oc,.slice na nn nc]
theorem Ze1 (s:ByteArray):s.toList.length=s.size:=by
 have h:s.toList=Lib.bytesOf (numsOf s):=by
  rw[←Lib.strOfNums_toList,Za9]
 rw[h]
 simp[Lib.bytesOf,Yz]
theorem Zkl (s:ByteArray):s.toList.isEmpty=decide (s.size=0):=by
 rw[Bool.eq_iff_iff,List.isEmpty_iff,decide_eq_true_eq,←Ze1,List.length_eq_zero_iff]
def Zbf (nm:ByteArray)(was is:Bool)(on nn:Nat):Bool:=!decide (1≤nm.size∧nm.size≤24∧on≤3000∧nn≤3000∧(was=false→on=0)∧(is=false→nn=0))
theorem Zu {x0 x1 x2 x3 x4:Value}(h:w.heap[b]?=some (.cells #[x0,x1,x2,x3,x4] t (0,0))):w.cell? ⟨b,0,none⟩=some x0∧w.cell? ⟨b,1,none⟩=some x1∧w.cell? ⟨b,2,none⟩=some x2∧w.cell? ⟨b,3,none⟩=some x3∧w.cell? ⟨b,4,none⟩=some x4:=by simp[World.cell?,h]
theorem Zov {k:Nat}{ns:List ByteArray}{nm:ByteArray}{was is:Bool}{oa na:Option Addr}{on oc nn nc:Nat}(w:World)(hb:w.heap[mb]?=some (.cells #[.map (some m)] 225 (0,0)))(hown:w.ownsMap Tryz.prog 9 (plainElem Tryz.prog 4) m k (metD ns))(hne:m≠mb)
  (hs:nm.size≤140737488351232) (hk:k≤1000) (ho:on≤9223372036854775807) (hn:nn≤9223372036854775807):
  Calls Tryz.prog 142 #[setV nm was is oa na on oc nn nc,.pointer (some ⟨mb,0,none⟩)] w fun e w'=>e=.returned (.bool (metB ns nm || Zbf nm was is on nn))∧w'.ownsMap Tryz.prog 9 (plainElem Tryz.prog 4) m (k+1) (metD (ns++[nm]))∧Upd (fun j=>j=m) w w':=by
 have b3:m<w.heap.size:=hown.lt
 have a8:=Za hb
 obtain⟨w1,a5,a4,b0⟩:=nb w (.cells #[.string nm,.bool was,.bool is,.slice oa on oc,.slice na nn nc] 73)
 have a7:=(a4.block _ a8 id).trans hb
 have a0:w1.ownsMap Tryz.prog 9 (plainElem Tryz.prog 4) m k (metD ns):=by rw[a5];exact hown.alloc _
 have b5:=Zro a0 (s:=nm) (by unfold maxLen;omega)
 obtain⟨b9,a2⟩: ∃x,x=metB ns nm:=⟨_,rfl⟩
 rw[←a2] at b5 ⊢
 clear a2
 have c0:=Zf a7
 obtain⟨x0,x1,x2,x3,x4⟩:=Zu b0
 have b4:=V a5;have b6:=V a4;have a9:=V b0;have a3:=V a0;have HB:=V a7;have c1:=V hne;have b8:=V b3
 clear a5 a4 b0 a7 a0 hb hown hne b3
 unfold setV
 go_enter Tryz.func142,Tryz.ntmps142
 go_upto_region 1 with fail
 rw[←b4.o]
 go_wp2_with (at_mapUpdate;refine wpList_mapUpdate_own _ rfl _ _ _ 225 rfl 9 4 (Maps.string_keyed Tryz.underlying9s') Tryz.underlying225m _ m k (metD ns) rfl a3.o (by unfold maxLen;omega) _ _ (.string nm.data.toList) rfl rfl (WideMaps.keyOf_string_mk Tryz.underlying9s' (by unfold maxLen;omega)) (.lit (.bool true)) [] (plainElem_bool Tryz.underlying4b true) ?_)
 intro w2 a1 b1
 have a6:Upd (fun j=>j=m) w1 w2:=Upd.of_grown b1 (fun k e=>by injection e with e;exact e.symm)
 have b2:=(a6.block _ (Za a9.o) (by have:=b8.o;omega)).trans a9.o
 obtain⟨x0,x1,x2,x3,x4⟩:=Zu b2
 have b7:RowKit.Hid (w2.ownsMap Tryz.prog 9 (plainElem Tryz.prog 4) m (k+1) (metD (ns++[nm]))∧Upd (fun j=>j=m) w w2):=V ⟨by rw[Zjc];exact a1,(b6.o.mono (F:=fun _=>False) (G:=fun j=>j=m) (fun _ _ e=>e.elim)).trans a6⟩
 clear a1 b1 a6 b2 b4 b6 a9 a3 HB b5 c0
 cases b9<;> cases was<;> cases is
 all_goals
  go_wp2
 all_goals
  go_ret
  refine⟨Zao ?_,b7.out.1,b7.out.2⟩
 all_goals first
 |rfl
 |rw[Bool.eq_iff_iff]
  simp only[Zkl,Zbf,Bool.or_eq_true,Bool.not_eq_true',decide_eq_true_eq,decide_eq_false_iff_not,Bool.false_or,Bool.true_or,true_iff,Bool.false_eq_true,Bool.true_eq_false,reduceCtorEq,false_implies,true_implies,and_true,true_and]
  try (have c2:nm.size=0:=by rw[←Ze1,‹nm.toList=[]›];rfl)
  omega
def SetAt (w:World)(b o:Nat)(x:SetV):Prop:= ∃oa oc na nc,w.cell? ⟨b,o,none⟩=some (.string x.name)∧w.cell? ⟨b,o+1,none⟩=some (.bool x.was)∧w.cell? ⟨b,o+2,none⟩=some (.bool x.is)∧
 w.cell? ⟨b,o+3,none⟩=some (.slice oa x.old.length oc)∧w.cell? ⟨b,o+4,none⟩=some (.slice na x.new.length nc)∧BytesIn w (.slice oa x.old.length oc) x.old∧BytesIn w (.slice na x.new.length nc) x.new∧Bytes x.old∧Bytes x.new
def SetsIn (w:World)(a:Option Addr)(sets:List SetV):Prop:= ∀i x,sets[i]?=some x→x.name.size≤140737488351232∧x.old.length≤140737488351232∧x.new.length≤140737488351232∧ ∃b o,a=some ⟨b,o,none⟩∧SetAt w b (o+i * 5) x
def anyWrong:List ByteArray→List SetV→Bool
 | _,[]=>false
 |ns,x :: l=>(metB ns x.name || Zbf x.name x.was x.is x.old.length x.new.length) || anyWrong (ns++[x.name]) l
theorem SetAt.kept {o:Nat}{x:SetV}(h:SetAt w b o x)(hu:U0 w w'):SetAt w' b o x:=by
 obtain⟨oa,oc,na,nc,h0,h1,h2,h3,h4,h5,h6,h7⟩:=h
 have kc: ∀{a:Addr} {v:Value},w.cell? a=some v→w'.cell? a=some v:=fun h=>Zo hu id h
 exact⟨oa,oc,na,nc,kc h0,kc h1,kc h2,kc h3,kc h4,h5.kept hu,h6.kept hu,h7⟩
theorem SetsIn.kept (h:SetsIn w a sets)(hu:U0 w w'):SetsIn w' a sets:=fun i x hx=>by
 obtain⟨h1,h2,h3,b,o,e,h4⟩:=h i x hx
 exact⟨h1,h2,h3,b,o,e,h4.kept hu⟩
def IdxAns (w:World)(m:Nat)(b:Bool)(e:Ending)(w':World):Prop:= ∃i:Int,e=.returned (.int .i64 i)∧decide (0≤i)=b∧Upd (fun j=>j=m) w w'
theorem Ztg (w:World)(hb:w.heap[mb]?=some (.cells #[.map (some m)] 225 (0,0)))(hown:w.ownsMap Tryz.prog 9 (plainElem Tryz.prog 4) m 0 (metD []))(hne:m≠mb)
  (hs:SetsIn w a sets) (hl:sets.length≤900) (hfr: ∀b o,a=some ⟨b,o,none⟩→b≠m∧b≠mb):
  Calls Tryz.prog 179 #[.slice a sets.length c,.func (.func 142) #[] #[.pointer (some ⟨mb,0,none⟩)]] w (IdxAns w m (anyWrong [] sets)):=by
 have HB:=V hb;have a1:=V hown;have a4:=V hne;have HS:=V hs;have a6:=V hfr
 clear hb hown hne hs hfr
 go_enter Tryz.func179,Tryz.ntmps179
 go_upto_region 2 with fail
 go_loopg [8] sets.length (fun gk i wr=> ∃k:Nat,k≤sets.length∧gk=sets.length - k∧i=.int .i64 k∧Upd (fun j=>j=m) w wr∧wr.ownsMap Tryz.prog 9 (plainElem Tryz.prog 4) m k (metD ((sets.take k).map SetV.name))∧anyWrong [] sets=anyWrong ((sets.take k).map SetV.name) (sets.drop k))
 case atStart=>exact⟨0,Nat.zero_le _,rfl,rfl,Upd.refl _ _,a1.o,rfl⟩
 case round=>
  obtain⟨k,hk,rfl,rfl,hu,ho,ha⟩:=hrel
  have HU:=V hu;have HO:=V ho;have HA:=V ha
  clear hu ho ha
  by_cases a0:k<sets.length
  ·have a7:(k:Int)<sets.length:=by omega
   obtain⟨x,hx⟩: ∃x,sets[k]?=some x:=⟨_,List.getElem?_eq_getElem a0⟩
   obtain⟨g1,g2,g3,b,o,ea,oa,oc,na,nc,h0,h1,h2,h3,h4,h5,h6,_⟩:=HS.o k x hx
   subst ea
   obtain⟨n1,n2⟩:=a6.o b o rfl
   have kc: ∀{o:Nat} {v:Value},w.cell? ⟨b,o,none⟩=some v→wr.cell? ⟨b,o,none⟩=some v:=fun h=>Zo HU.o n1 h
   have q0:=kc h0;have q1:=kc h1;have q2:=kc h2;have q3:=kc h3;have q4:=kc h4
   have hc:=(Zov (was:=x.was) (is:=x.is) (oa:=oa) (na:=na) (on:=x.old.length) (nn:=x.new.length) (oc:=oc) (nc:=nc) (nm:=x.name) wr ((HU.o.block _ (Za HB.o) (fun e=>a4.o e.symm)).trans HB.o) HO.o a4.o g1 (by omega) (by omega) (by omega))
   unfold setV at hc
   have hd:anyWrong ((sets.take k).map SetV.name) (sets.drop k)=((metB ((sets.take k).map SetV.name) x.name || Zbf x.name x.was x.is x.old.length x.new.length) || anyWrong ((sets.take (k+1)).map SetV.name) (sets.drop (k+1))):=by
    have a2:sets[k]=x:=by rw[List.getElem?_eq_getElem a0] at hx;injection hx
    rw[List.drop_eq_getElem_cons a0,List.take_succ_eq_append_getElem a0,a2]
    simp[anyWrong]
   have ht:(sets.take (k+1)).map SetV.name=(sets.take k).map SetV.name++[x.name]:=by
    have a2:sets[k]=x:=by rw[List.getElem?_eq_getElem a0] at hx;injection hx
    rw[List.take_succ_eq_append_getElem a0,a2]
    simp
   rw[←ht] at hc
   obtain⟨bb,a3⟩: ∃bb,bb=(metB ((sets.take k).map SetV.name) x.name || Zbf x.name x.was x.is x.old.length x.new.length):=⟨_,rfl⟩
   rw[←a3] at hc hd
   have HC:=V hc;have HD:=V (HA.o.trans hd)
   clear hc hd ht a3 hx
   clear h0 h1 h2 h3 h4 h5 h6 kc
   go_wp2_with (go_at_call 142;fail)
   refine HC.o.mono ?_
   rintro e w1 ⟨rfl,k1,k2⟩
   have a5:=V (HU.o.trans k2);have K1:=V k1
   clear k1 k2 HC
   simp only[]
   cases bb
   ·go_wp2
    go_roundg (sets.length - (k+1))
    case measure=>omega
    case rel=>exact⟨k+1,by omega,rfl,congrArg _ (by omega),a5.o,K1.out,by have:=HD.o;simpa using this⟩
   ·go_wp2
    go_ret
    exact⟨_,rfl,by have:=HD.o;simp at this;rw[this];simp,a5.o⟩
  ·obtain rfl:k=sets.length:=by omega
   go_wp2
   go_ret
   have ha:=HA.o
   rw[List.drop_of_length_le (Nat.le_refl _)] at ha
   exact⟨_,rfl,by rw[ha];rfl,HU.o⟩
theorem Zlp (w:World)(hb:w.heap[mb]?=some (.cells #[.map (some m)] 225 (0,0)))(hown:w.ownsMap Tryz.prog 9 (plainElem Tryz.prog 4) m 0 (metD []))(hne:m≠mb)
  (hs:SetsIn w a sets) (hl:sets.length≤900) (hfr: ∀b o,a=some ⟨b,o,none⟩→b≠m∧b≠mb):
  Calls Tryz.prog 143 #[.slice a sets.length c,.func (.func 142) #[] #[.pointer (some ⟨mb,0,none⟩)]] w fun e w'=>e=.returned (.bool (anyWrong [] sets))∧Upd (fun j=>j=m) w w':=by
 have HC:=V (Ztg (c:=c) w hb hown hne hs hl hfr)
 clear hb hown hne hs hfr
 obtain⟨ab,a0⟩: ∃ab,ab=anyWrong [] sets:=⟨_,rfl⟩
 rw[←a0] at HC ⊢
 clear a0
 go_enter Tryz.func143,Tryz.ntmps143
 go_wp2_with (go_at_call 179;fail)
 refine HC.o.mono ?_
 rintro e w1 ⟨i,rfl,hi,hu⟩
 have HI:=V hi;have HU:=V hu
 clear hi hu HC
 simp only[]
 go_wp2
 go_ret
 exact⟨Zao HI.o,HU.o⟩
theorem Zgw: ∀(l:List SetV) (ns:List ByteArray),(!anyWrong ns l)=(l.all SetV.right && Zej l && l.all fun x=>!metB ns x.name)
 | [],ns=>rfl
 |x :: l,ns=>by
  have ih:=Zgw l (ns++[x.name])
  have e1:Zbf x.name x.was x.is x.old.length x.new.length=!x.right:=by
   simp only[Zbf,SetV.right,List.length_eq_zero_iff]
  have e2:(l.all fun y=>!metB (ns++[x.name]) y.name)=((l.all fun y=>!metB ns y.name) && !l.any fun y=>decide (y.name=x.name)):=by
   rw[Bool.eq_iff_iff]
   simp only[List.all_eq_true,Bool.and_eq_true,Bool.not_eq_true',List.any_eq_false,decide_eq_true_eq,metB,List.any_append,Bool.or_eq_false_iff,List.any_cons,List.any_nil,Bool.or_false,decide_eq_false_iff_not]
   constructor
   ·exact fun h=>⟨fun y hy=>(h y hy).1,fun y hy e=>(h y hy).2 e.symm⟩
   ·exact fun h y hy=>⟨h.1 y hy,fun e=>h.2 y hy e.symm⟩
  simp only[anyWrong,e1,Bool.not_or,ih,e2,List.all_cons,Zej,Bool.not_not]
  cases metB ns x.name<;> cases x.right<;> cases l.all SetV.right<;> cases Zej l<;> cases (l.all fun y=>!metB ns y.name)<;> cases (l.any fun y=>decide (y.name=x.name))<;> rfl
theorem Zkz (b:BatchV):b.right=(decide (b.epoch≤4611686018427387904) && decide (b.sets.length≤48) && !anyWrong [] b.sets):=by
 have:(b.sets.all fun x=>!metB [] x.name)=true:=by simp[metB]
 rw[Zgw,this,Bool.and_true]
 simp only[BatchV.right,Bool.and_assoc]
def batchV (b:BatchV)(a:Option Addr)(c:Nat):Value:=.agg #[.int .u64 b.epoch,.bool b.large,.slice a b.sets.length c]
theorem Zk {x0 x1 x2:Value}(h:w.heap[b]?=some (.cells #[x0,x1,x2] t (0,0))):w.cell? ⟨b,0,none⟩=some x0∧w.cell? ⟨b,1,none⟩=some x1∧w.cell? ⟨b,2,none⟩=some x2:=by simp[World.cell?,h]
theorem Zgt {B:BatchV}(w:World)(hs:SetsIn w a B.sets)(hl:B.sets.length≤900)(hal: ∀b o,a=some ⟨b,o,none⟩→b<w.heap.size):
  Calls Tryz.prog 81 #[batchV B a c] w fun e w'=>e=.returned (.bool B.right)∧U0 w w':=by
 rw[Zkz]
 have HS:=V hs;have a9:=V hal
 clear hs hal
 obtain⟨w1,a0⟩: ∃w1,w1=((w.alloc (.cells #[.int .u64 B.epoch,.bool B.large,.slice a B.sets.length c] 56)).alloc (.map #[] 0)).alloc (.cells #[.map (some (w.heap.size+1))] 225):=⟨_,rfl⟩
 have a1:U0 w w1:=by rw[a0];exact(((Upd.refl _ w).alloc _).alloc _).alloc _
 have a5:w1.heap[w.heap.size]?=some (.cells #[.int .u64 B.epoch,.bool B.large,.slice a B.sets.length c] 56 (0,0)):=by rw[a0];exact(Zm (by simp;omega)).trans ((Zm (by simp)).trans (Zc rfl))
 have a4:w1.heap[w.heap.size+2]?=some (.cells #[.map (some (w.heap.size+1))] 225 (0,0)):=by rw[a0];exact Zc (by simp)
 have a6:w1.ownsMap Tryz.prog 9 (plainElem Tryz.prog 4) (w.heap.size+1) 0 (metD []):=by
  rw[a0]
  have:=(World.ownsMap_made (H:=Empty) (w.alloc (.cells #[.int .u64 B.epoch,.bool B.large,.slice a B.sets.length c] 56)) Tryz.prog 9 (plainElem Tryz.prog 4)).alloc (.cells #[.map (some (w.heap.size+1))] 225)
  have e:(metD []:DataW Empty)=.map []:=rfl
  rw[e]
  simpa using this
 have HC:=V (Zlp (c:=c) w1 a4 a6 (by omega) (HS.o.kept a1) hl (fun b o e=>by have:=a9.o b o e;omega))
 have b0: ∀W:World,(Instr.makeMap 225 none).run Tryz.prog W=.ok (.map (some W.heap.size)) (W.alloc (.map #[] 0)):=fun W=>by kernel_rfl
 obtain⟨y0,y1,y2⟩:=Zk a5
 have a8:=V a0;have a2:=V a1
 obtain⟨aw,a3⟩: ∃aw,aw=anyWrong [] B.sets:=⟨_,rfl⟩
 rw[←a3] at HC ⊢
 clear a0 a1 a5 a4 a6 a3
 unfold batchV
 go_enter Tryz.func81,Tryz.ntmps81
 go_upto_region 3 with fail
 rw[←a8.o]
 by_cases h1:B.epoch≤4611686018427387904
 ·by_cases h2:B.sets.length≤48
  ·have a7:(B.sets.length:Int)≤48:=by omega
   have HH:=V (And.intro h1 h2)
   go_wp2_with (go_at_call 143;fail)
   refine HC.o.mono ?_
   rintro e w2 ⟨rfl,hu⟩
   have HU:=V hu
   clear hu HC
   simp only[]
   go_wp2
   go_ret
   have hh:=HH.o
   exact⟨Zao (by simp[hh.1,hh.2]),a2.o.step HU.o (fun j hj e=>by omega)⟩
  ·have a7: ¬((B.sets.length:Int)≤48):=by omega
   have HH:=V h2
   go_wp2
   go_ret
   have hh:=HH.o
   exact⟨Zao (by simp[hh]),a2.o⟩
 ·have HH:=V h1
  go_wp2
  go_ret
  have hh:=HH.o
  exact⟨Zao (by rw[show decide (B.epoch≤4611686018427387904)=false from decide_eq_false (by omega)];rfl),a2.o⟩
def setS (st:Option (List Int))(bad:Bool):SetV×Option (List Int)×Bool:=
 let nm:=takeS (numS 1 st).1.toNat (numS 1 st).2
 let o:=Z8 nm.2 bad
 let x:=Z8 o.2.2.1 o.2.2.2
 (⟨strOfNums nm.1,o.1,x.1,o.2.1,x.2.1⟩,x.2.2.1,x.2.2.2)
def Zw:Nat→Option (List Int)→Bool→List SetV×Option (List Int)×Bool
 | 0,st,bad=>([],st,bad)
 |n+1,st,bad=>let x:=setS st bad;let l:=Zw n x.2.1 x.2.2;(x.1 :: l.1,l.2.1,l.2.2)
theorem Zeg (n:Nat):takeS n none=([],none):=rfl
theorem Zfp (n:Nat):numS n none=(0,none):=rfl
theorem Zdz (bad:Bool):(Z8 none bad).2.2.1=none:=rfl
theorem Zpb (bad:Bool):(setS none bad).2.1=none:=rfl
theorem Zbz: ∀(n:Nat) (bad:Bool),(Zw n none bad).2.1=none
 | 0,_=>rfl
 |n+1,bad=>Zbz n _
theorem Zef (n:Nat)(l:List Int):takeS n (some l)=match Prs.take n l with | none=>([],none) | some (c,r)=>(c,some r):=by
 simp only[takeS,Prs.take]
 split<;> rfl
theorem Zbs (n:Nat)(l:List Int):numS n (some l)=match numP n l with | none=>(0,none) | some (c,r)=>(c,some r):=by
 simp only[numS,Zef,numP,Prs.bind,Prs.ret]
 cases Prs.take n l<;> rfl
theorem Zgk (l:List Int)(bad:Bool):match maybeP l with
  |none=>(Z8 (some l) bad).2.2.1=none
  |some (v,r)=>Z8 (some l) bad=(v.1 == 1,v.2,some r,bad || decide (1<v.1)):=by
 simp only[maybeP,Z8,Prs.bind,Prs.ret,Zbs]
 cases h1:numP 1 l with
 |none=>simp[Zfp,Zeg]
 |some y1=>
  simp only[Zbs]
  cases h2:numP 2 y1.2 with
  |none=>simp[Zeg]
  |some y2=>
   simp only[Zef]
   cases h3:Prs.take y2.1.toNat y2.2 with
   |none=>simp
   |some y3=>simp
theorem Zpa (l:List Int)(bad:Bool):match setP l with
  |none=>(setS (some l) bad).2.1=none
  |some (v,r)=>setS (some l) bad=(v.1,some r,bad || v.2):=by
 simp only[setP,setS,Prs.bind,Prs.ret,Zbs]
 cases h1:numP 1 l with
 |none=>simp[Zeg,Zdz]
 |some y1=>
  simp only[Zef]
  cases h2:Prs.take y1.1.toNat y1.2 with
  |none=>simp[Zdz]
  |some y2=>
   have q:=Zgk y2.2 bad
   cases h3:maybeP y2.2 with
   |none=>
    rw[h3] at q
    simp only[h3,q,Zdz]
   |some y3=>
    rw[h3] at q
    simp only[q]
    have q2:=Zgk y3.2 (bad || decide (1<y3.1.1))
    cases h4:maybeP y3.2 with
    |none=>
     rw[h4] at q2
     simp only[h3,h4,q2]
    |some y4=>
     rw[h4] at q2
     simp only[h3,h4,q2,Bool.or_assoc]
     rfl
theorem Zhl: ∀(n:Nat) (l:List Int) (bad:Bool),match Zbb n l with
  |none=>(Zw n (some l) bad).2.1=none
  |some (v,r)=>Zw n (some l) bad=(v.1,some r,bad || v.2)
 | 0,l,bad=>by simp[Zbb,Zw,Prs.ret]
 |n+1,l,bad=>by
  have q:=Zpa l bad
  simp only[Zbb,Zw,Prs.bind,Prs.ret]
  cases h1:setP l with
  |none=>
   rw[h1] at q
   simp only[q,Zbz]
  |some y1=>
   rw[h1] at q
   simp only[q]
   have q2:=Zhl n y1.2 (bad || y1.1.2)
   cases h2:Zbb n y1.2 with
   |none=>
    rw[h2] at q2
    simp only[q2]
   |some y2=>
    rw[h2] at q2
    simp only[q2,Bool.or_assoc]
def Zad (l:List Int):BatchV×Option (List Int)×Bool:=
 let e:=numS 8 (some l)
 let f:=numS 1 e.2
 let c:=numS 1 f.2
 let s:=Zw c.1.toNat c.2 (decide (1<f.1))
 (⟨e.1,f.1 == 1,s.1⟩,s.2.1,s.2.2)
theorem Zfy (l:List Int):decF l=match (Zad l).2.1 with
  |none=>(BatchV.zero,7)
  |some r=>if(Zad l).2.2 || decide (0<r.length) || !(Zad l).1.right then(BatchV.zero,2) else((Zad l).1,0):=by
 simp only[decF,Zdj,Zad,Prs.bind,Prs.ret,Zbs]
 cases h1:numP 8 l with
 |none=>simp[Zfp,Zbz]
 |some y1=>
  simp only[Zbs]
  cases h2:numP 1 y1.2 with
  |none=>simp[Zfp,Zbz]
  |some y2=>
   simp only[Zbs]
   cases h3:numP 1 y2.2 with
   |none=>simp[Zbz]
   |some y3=>
    have q:=Zhl y3.1.toNat y3.2 (decide (1<y2.1))
    cases h4:Zbb y3.1.toNat y3.2 with
    |none=>
     rw[h4] at q
     simp only[h4,q]
    |some y4=>
     rw[h4] at q
     simp only[q]
     have e:(y2.1 == 1)=decide (y2.1=1):=rfl
     simp only[h4,e]
theorem Zcy: ∀(n:Nat) (st:Option (List Int)) (bad:Bool),Zw (n+1) st bad=((Zw n st bad).1++[(setS (Zw n st bad).2.1 (Zw n st bad).2.2).1],(setS (Zw n st bad).2.1 (Zw n st bad).2.2).2.1,(setS (Zw n st bad).2.1 (Zw n st bad).2.2).2.2)
 | 0,st,bad=>rfl
 |n+1,st,bad=>by
  rw[show Zw (n+1+1) st bad=((setS st bad).1 :: (Zw (n+1) (setS st bad).2.1 (setS st bad).2.2).1,(Zw (n+1) (setS st bad).2.1 (setS st bad).2.2).2.1,(Zw (n+1) (setS st bad).2.1 (setS st bad).2.2).2.2) from rfl]
  rw[Zcy n]
  rfl
theorem Zl7 (n m:Nat)(st:Option (List Int))(bad:Bool)(h:(Zw n st bad).2.1=none):(Zw (n+m) st bad).2.1=none:=by
 induction m with
 |zero=>exact h
 |succ m ih=>
  rw[←Nat.add_assoc,Zcy]
  simp only[ih,Zpb]
theorem Zc7: ∀(n:Nat) (st:Option (List Int)) (bad:Bool),(Zw n st bad).1.length=n
 | 0,_,_=>rfl
 |n+1,st,bad=>by simp[Zw,Zc7 n]
end
section
open Go.RowKit
theorem Tryz.underlying9s:Tryz.prog.underlying 9=some .string:=by kernel_rfl
theorem Yw (h:BytesIn w v bs):(convert 39 9 v).run Tryz.prog w=.ok (.string (strOfNums bs)) w:=by
 rcases h with ⟨rfl,rfl⟩ | ⟨a,c,rfl,h1,h2,h3⟩
 ·rw[run_convert_bytes_string w 39 9 5 none 0 0 Tryz.underlying39 Tryz.underlying5 Tryz.underlying9s];rfl
 ·have hl:(loadCells a bs.length).run Tryz.prog w=.ok (bs.map (Value.int .u8)).toArray w:=by
   have:=run_loadCells_list (P:=Tryz.prog) w a (bcells bs) h3
   simpa [bcells] using this
  rw[run_convert_bytes_string w 39 9 5 (some a) bs.length c Tryz.underlying39 Tryz.underlying5 Tryz.underlying9s]
  rw[run_bytesToString w a bs.length c bs hl,foldl_push_bytes]
  simp[strOfNums,ByteArray.empty,ByteArray.emptyWithCapacity]
  rfl
theorem Zd1: ∀{xs ys:List Int},Bytes xs→Bytes ys→Lib.bytesOf xs=Lib.bytesOf ys→xs=ys
 | [],[],_,_,_=>rfl
 | [],_ :: _,_,_,h=>by simp[Lib.bytesOf] at h
 | _ :: _,[],_,_,h=>by simp[Lib.bytesOf] at h
 |x :: xs,y :: ys,hx,hy,h=>by
  simp only[Lib.bytesOf,List.map_cons,List.cons.injEq] at h
  have h1:=hx x (by simp)
  have h2:=hy y (by simp)
  have h3:x.toNat=y.toNat:=by
   have:=congrArg UInt8.toNat h.1
   simp at this
   omega
  have h4:=Zd1 (fun z hz=>hx z (by simp[hz])) (fun z hz=>hy z (by simp[hz])) (show Lib.bytesOf xs=Lib.bytesOf ys from h.2)
  rw[h4,show x=y by omega]
theorem Zds {u:Value}{xs ys:List Int}(w:World)(h1:BytesIn w v xs)(h2:BytesIn w u ys)(hx:Bytes xs)(hy:Bytes ys):
  Calls Tryz.prog 24 #[v,u] w fun e w'=>e=.returned (.bool (xs == ys))∧w=w':=by
 have c1:=Yw h1
 have c2:=Yw h2
 have e:((strOfNums xs).toList == (strOfNums ys).toList)=(xs == ys):=by
  rw[Lib.strOfNums_toList,Lib.strOfNums_toList,Bool.eq_iff_iff,beq_iff_eq,beq_iff_eq]
  exact⟨Zd1 hx hy,fun h=>by rw[h]⟩
 rw[←e]
 clear h1 h2 hx hy e
 generalize strOfNums xs=s at *
 generalize strOfNums ys=t at *
 go_enter Tryz.func24,Tryz.ntmps24
 go_wp2
 go_ret
 exact⟨rfl,rfl⟩
end
section
open Go.RowKit Go.Shelf
def RowC (w:World)(C:Nat→Prop):Prop:= ∀k,C k→ ∃cs,w.heap[k]?=some (.cells cs 5 (0,0))
theorem RowC.kept (h:RowC w C)(hu:Upd F w w')(hg: ∀k,C k→ ¬F k):RowC w' C:=fun k hk=>by
 obtain⟨cs,h1⟩:=h k hk
 exact⟨cs,(hu.block _ (Za h1) (hg k hk)).trans h1⟩
theorem RowC.lt (h:RowC w C): ∀k,C k→k<w.heap.size:=fun k hk=>by
 obtain⟨cs,h1⟩:=h k hk
 exact Za h1
theorem OwnB.bytesAt (h:OwnB w B v bs):BytesAt w (fun k=>v.ownBlock=some k) v bs∧RowC w (fun k=>v.ownBlock=some k)∧ ∀k,v.ownBlock=some k→B≤k:=by
 rcases h.2 with ⟨h1,h2⟩ | ⟨g,a0,a1,rfl,hb,hg,h1,h2,h3,h4⟩
 ·refine⟨.inl ⟨h1,List.length_eq_zero_iff.1 h2⟩,fun k hk=>?_,fun k hk=>?_⟩<;> (rw[h1] at hk;simp[Value.ownBlock] at hk)
 ·refine⟨.inr ⟨g,0,a0,rfl,rfl,h1,h2,fun i u hi=>?_⟩,fun k hk=>?_,fun k hk=>?_⟩
  ·have:=World.ownsRow.cells h rfl i u hi
   rwa [Addr.add_mid] at this
  ·simp[Value.ownBlock] at hk
   subst hk
   exact⟨_,hg⟩
  ·simp[Value.ownBlock] at hk
   omega
theorem Zs2 (w:World)(hv:BytesIn w v bs)(hB:Bytes bs)(hl:bs.length≤1099511627776):
  Calls Tryz.prog 88 #[v] w fun e w'=>e=.returned (.pointer (some ⟨w.heap.size,0,none⟩))∧ ∃C,RdS w' w.heap.size C (some bs)∧(∀k,C k→w.heap.size<k)∧RowC w' C∧U0 w w':=by
 have a2:U0 w (w.alloc (.cells #[.slice none 0 0,.int .i64 0] 236)):=(Upd.refl _ w).alloc _
 have HC:=V (Y4 (w.alloc (.cells #[.slice none 0 0,.int .i64 0] 236)) hl (hv.kept a2))
 have a4:=V hB
 clear hv hB
 go_enter Tryz.func88,Tryz.ntmps88
 go_wp2_with (go_at_call 99;fail)
 refine HC.o.mono ?_
 rintro e w1 ⟨u,rfl,ho,hu,hU⟩
 obtain⟨b1,b2,b3⟩:=ho.bytesAt
 obtain⟨a,m,c,rfl⟩:=b1.slice'
 have a1:w1.heap[w.heap.size]?=some (.cells #[.slice none 0 0,.int .i64 0] 236 (0,0)):=(hU.block _ (by simp) id).trans (Zc rfl)
 have f0:w1.frozen? ⟨w.heap.size,0,none⟩=false:=Zb a1
 have c0:w1.cell? ⟨w.heap.size,0,none⟩=some (.slice none 0 0):=by simp[World.cell?,a1]
 have HB:=V a1;have HU:=V (a2.trans hU);have B1:=V b1;have B2:=V b2
 have B3:RowKit.Hid (∀k,(Value.slice a m c).ownBlock=some k→w.heap.size<k):=V (fun k hk=>by have:=b3 k hk;simp at this;omega)
 clear a1 ho hu hU a2 HC b1 b2 b3
 simp only[]
 go_wp2
 go_ret
 have a0:Upd (fun k=>k=w.heap.size) w1 (w1.setCell ⟨w.heap.size,0,none⟩ (.slice a m c)):=Zd _ _ _ _
 have a3: ∀k,(Value.slice a m c).ownBlock=some k→ ¬k=w.heap.size:=fun k hk e=>by have:=B3.out k hk;omega
 refine⟨rfl,fun k=>(Value.slice a m c).ownBlock=some k,⟨⟨fun e=>a3 _ e rfl,fun k hk=>Nat.lt_of_lt_of_le (B2.out.lt k hk) a0.size⟩,_,?_,B1.out.kept a0 a3,a4.o⟩,B3.out,B2.out.kept a0 a3,HU.o.step a0 (fun k hk e=>by omega)⟩
 have:=Ze (i:=0) (v:=.slice a m c) HB.o
 simpa using this
def SetAtC (w:World)(C:Nat→Prop)(b o:Nat)(x:SetV):Prop:= ∃oa oc na nc,w.cell? ⟨b,o,none⟩=some (.string x.name)∧w.cell? ⟨b,o+1,none⟩=some (.bool x.was)∧w.cell? ⟨b,o+2,none⟩=some (.bool x.is)∧
 w.cell? ⟨b,o+3,none⟩=some (.slice oa x.old.length oc)∧w.cell? ⟨b,o+4,none⟩=some (.slice na x.new.length nc)∧BytesAt w C (.slice oa x.old.length oc) x.old∧BytesAt w C (.slice na x.new.length nc) x.new∧Bytes x.old∧Bytes x.new
def SetsAt (w:World)(R:Nat→Prop)(C:Nat→Prop)(a:Option Addr)(sets:List SetV):Prop:= ∀i x,sets[i]?=some x→x.name.size≤140737488351232∧x.old.length≤140737488351232∧x.new.length≤140737488351232∧ ∃b o,a=some ⟨b,o,none⟩∧R b∧SetAtC w C b (o+i * 5) x
theorem SetsAt.setsIn {R:Nat→Prop}(h:SetsAt w R C a sets):SetsIn w a sets:=fun i x hx=>by
 obtain⟨h1,h2,h3,b,o,e,_,oa,oc,na,nc,k0,k1,k2,k3,k4,k5,k6,k7⟩:=h i x hx
 exact⟨h1,h2,h3,b,o,e,oa,oc,na,nc,k0,k1,k2,k3,k4,k5.bytesIn,k6.bytesIn,k7⟩
theorem SetsAt.kept {R:Nat→Prop}(h:SetsAt w R C a sets)(hu:Upd F w w')(hr: ∀k,R k→ ¬F k)(hc: ∀k,C k→ ¬F k):SetsAt w' R C a sets:=fun i x hx=>by
 obtain⟨h1,h2,h3,b,o,e,hb,oa,oc,na,nc,k0,k1,k2,k3,k4,k5,k6,k7⟩:=h i x hx
 have kc: ∀{o:Nat} {v:Value},w.cell? ⟨b,o,none⟩=some v→w'.cell? ⟨b,o,none⟩=some v:=fun h=>Zo hu (hr b hb) h
 exact⟨h1,h2,h3,b,o,e,hb,oa,oc,na,nc,kc k0,kc k1,kc k2,kc k3,kc k4,k5.kept hu hc,k6.kept hu hc,k7⟩
theorem SetsAt.nil (w:World)(R C:Nat→Prop)(a:Option Addr):SetsAt w R C a []:=fun i x hx=>by simp at hx
def elC (y:SetV×Value×Value):List Value:=[.string y.1.name,.bool y.1.was,.bool y.1.is,y.2.1,y.2.2]
theorem Zbe (y:SetV×Value×Value):(elC y).length=5:=rfl
theorem Za5 (L:List (SetV×Value×Value)):(L.flatMap elC).length=5 * L.length:=by
 induction L with
 |nil=>rfl
 |cons y L ih=>simp[ih,Zbe];omega
theorem Zav: ∀(L:List (SetV×Value×Value)) (i j:Nat) (y:SetV×Value×Value),L[i]?=some y→j<5→(L.flatMap elC)[i * 5+j]?=(elC y)[j]?
 | [],i,j,y,h,_=>by simp at h
 |z :: L,0,j,y,h,hj=>by
  simp at h
  subst h
  rw[List.flatMap_cons,Nat.zero_mul,Nat.zero_add,List.getElem?_append_left (by rw[Zbe];exact hj)]
 |z :: L,i+1,j,y,h,hj=>by
  rw[List.flatMap_cons,List.getElem?_append_right (by rw[Zbe];omega),Zbe]
  rw[show(i+1) * 5+j - 5=i * 5+j by omega]
  exact Zav L i j y (by simpa using h) hj
def SetV.fine (x:SetV):Prop:=x.name.size≤140737488351232∧x.old.length≤140737488351232∧x.new.length≤140737488351232∧Bytes x.old∧Bytes x.new
def SetRow (w:World)(B:Nat)(C:Nat→Prop)(sv:Value)(l:List SetV):Prop:= ∃L:List (SetV×Value×Value),L.map (·.1)=l∧w.ownsRow B 73 5 sv l.length (L.flatMap elC)∧(∀y∈L,BytesAt w C y.2.1 y.1.old∧BytesAt w C y.2.2 y.1.new)∧ ∀x∈l,x.fine
theorem SetRow.setsAt (h:SetRow w B C (.slice a n c) l):SetsAt w (fun k=>B≤k) C a l:=fun i x hx=>by
 obtain⟨L,rfl,h1,h2,h3⟩:=h
 obtain⟨g1,g2,g3,g4,g5⟩:=h3 x (List.mem_of_getElem? hx)
 simp only[List.getElem?_map,Option.map_eq_some_iff] at hx
 obtain⟨y,hy,rfl⟩:=hx
 obtain⟨k1,k2⟩:=h2 y (List.mem_of_getElem? hy)
 obtain⟨oa,oc,e1,_⟩:=k1.slice
 obtain⟨na,nc,e2,_⟩:=k2.slice
 rcases h1.2 with ⟨_,h4⟩ | ⟨g,cap,cur,e,hb,hg,m1,m2,m3,m4⟩
 ·have:=(List.getElem?_eq_some_iff.1 hy).1
  simp at h4
  subst h4
  simp at this
 ·injection e with e3 e4 e5
  subst e3
  have hc: ∀j,j<5→w.cell? ⟨g,i * 5+j,none⟩=(elC y)[j]?:=fun j hj=>by
   have:=World.ownsRow.cells h1 rfl (i * 5+j) ((elC y)[j]'(by rw[Zbe];exact hj)) (by rw[Zav L i j y hy hj,List.getElem?_eq_getElem])
   rw[Addr.add_mid,Nat.zero_add] at this
   rw[this,List.getElem?_eq_getElem]
  refine⟨g1,g2,g3,g,0,rfl,hb,oa,oc,na,nc,?_,?_,?_,?_,?_,by rw[←e1];exact k1,by rw[←e2];exact k2,g4,g5⟩
  ·rw[Nat.zero_add];exact hc 0 (by omega)
  ·rw[Nat.zero_add];exact hc 1 (by omega)
  ·rw[Nat.zero_add];exact hc 2 (by omega)
  ·rw[←e1];rw[Nat.zero_add];exact hc 3 (by omega)
  ·rw[←e2];rw[Nat.zero_add];exact hc 4 (by omega)
theorem SetRow.nil (w:World)(B:Nat)(C:Nat→Prop):SetRow w B C (.slice none 0 0) []:=⟨[],rfl,⟨by simp,.inl ⟨rfl,rfl⟩⟩,fun y hy=>by simp at hy,fun x hx=>by simp at hx⟩
theorem SetRow.kept {sv:Value}(h:SetRow w B C sv l)(hu:Upd F w w')(hv: ∀k,sv.ownBlock=some k→ ¬F k)(hc: ∀k,C k→ ¬F k):SetRow w' B C sv l:=by
 obtain⟨L,h0,h1,h2,h3⟩:=h
 exact⟨L,h0,Zy h1 hu hv,fun y hy=>⟨(h2 y hy).1.kept hu hc,(h2 y hy).2.kept hu hc⟩,h3⟩
/-! ### The register's reader, once more -/
theorem Zty (w:World)(h:RbS w rb r C st bad):
  Calls Tryz.prog 91 #[.pointer (some ⟨r,0,none⟩)] w fun e w'=>e=.returned (.int .u8 (numS 1 st).1)∧RbS w' rb r C (numS 1 st).2 bad∧Upd (fun k=>k=r) w w':=
 (Ztx w h.2.2.2).mono fun e w' ⟨h1,h2,h3⟩=>⟨h1,⟨(h3.block _ (Za h.1) (fun e=>h.2.1 (show rb=r from e).symm)).trans h.1,h.2.1,h.2.2.1,h2⟩,h3⟩
theorem Zuh (w:World)(h:RbS w rb r C st bad):
  Calls Tryz.prog 89 #[.pointer (some ⟨r,0,none⟩)] w fun e w'=>e=.returned (.int .u64 (numS 8 st).1)∧RbS w' rb r C (numS 8 st).2 bad∧Upd (fun k=>k=r) w w':=
 (Zug w h.2.2.2).mono fun e w' ⟨h1,h2,h3⟩=>⟨h1,⟨(h3.block _ (Za h.1) (fun e=>h.2.1 (show rb=r from e).symm)).trans h.1,h.2.1,h.2.2.1,h2⟩,h3⟩
theorem Zuj (w:World)(h:RbS w rb r C st bad):
  Calls Tryz.prog 92 #[.pointer (some ⟨r,0,none⟩),.int .i64 n] w fun e w'=> ∃u,e=.returned u∧BytesAt w' C u (takeS n st).1∧RbS w' rb r C (takeS n st).2 bad∧Upd (fun k=>k=r) w w':=
 (Zsg w h.2.2.2).mono fun e w' ⟨u,h1,h2,h3,h4⟩=>⟨u,h1,h2,⟨(h4.block _ (Za h.1) (fun e=>h.2.1 (show rb=r from e).symm)).trans h.1,h.2.1,h.2.2.1,h3⟩,h4⟩
theorem Zi6 (n:Nat)(st:Option (List Int)):(takeS n st).1.length≤n:=by
 cases st with
 |none=>simp[takeS]
 |some l=>
  simp only[takeS]
  split<;> simp
  omega
theorem Zq9 (h: ∀bs,st=some bs→Bytes bs):Bytes (takeS n st).1:=by
 cases st with
 |none=>exact fun x hx=>by simp[takeS] at hx
 |some l=>
  simp only[takeS]
  split
  ·exact fun x hx=>by simp at hx
  ·exact fun x hx=>h l rfl x (List.mem_of_mem_take hx)
theorem Zd0 (h: ∀bs,st=some bs→Bytes bs)(bad:Bool):(Z8 st bad).2.1.length≤65535∧Bytes (Z8 st bad).2.1∧ ∀bs,(Z8 st bad).2.2.1=some bs→Bytes bs:=by
 have h1: ∀bs,(numS 1 st).2=some bs→Bytes bs:=Yr h
 have h2: ∀bs,(numS 2 (numS 1 st).2).2=some bs→Bytes bs:=Yr h1
 have hb:=Ym (n:=2) h1
 refine⟨?_,Zq9 h2,Yr h2⟩
 have:=Zi6 (numS 2 (numS 1 st).2).1.toNat (numS 2 (numS 1 st).2).2
 simp only[Z8]
 omega
theorem Zpc (h: ∀bs,st=some bs→Bytes bs)(bad:Bool):(setS st bad).1.fine∧ ∀bs,(setS st bad).2.1=some bs→Bytes bs:=by
 have h1: ∀bs,(numS 1 st).2=some bs→Bytes bs:=Yr h
 have h2: ∀bs,(takeS (numS 1 st).1.toNat (numS 1 st).2).2=some bs→Bytes bs:=Yr h1
 have hb:=Ym (n:=1) h
 have hl:=Zi6 (numS 1 st).1.toNat (numS 1 st).2
 obtain⟨o1,o2,o3⟩:=Zd0 h2 bad
 obtain⟨x1,x2,x3⟩:=Zd0 o3 (Z8 (takeS (numS 1 st).1.toNat (numS 1 st).2).2 bad).2.2.2
 refine⟨⟨?_,by simp only[setS];omega,by simp only[setS];omega,o2,x2⟩,x3⟩
 simp only[setS,strOfNums_size]
 omega
def RegAt (w:World)(p:Nat)(lg:Value)(ev:Int)(mv:Value)(area:Int):Prop:=w.heap[p]?=some (.cells #[lg,.int .u64 ev,mv,.int .i64 area] 172 (0,0))
theorem Zlx (w:World)(h:RegAt w p lg ev mv area):
  Calls Tryz.prog 46 #[.pointer (some ⟨p,0,none⟩)] w fun e w'=>e=.returned (.int .i64 area)∧w=w':=by
 have c3:w.cell? ⟨p,3,none⟩=some (.int .i64 area):=by rw[Zr h];rfl
 clear h
 go_enter Tryz.func46,Tryz.ntmps46
 go_wp2
 go_ret
 exact⟨rfl,rfl⟩
theorem Zjn (w:World)(h:RegAt w p lg ev mv area):
  Calls Tryz.prog 36 #[.pointer (some ⟨p,0,none⟩)] w fun e w'=>e=.returned (.int .u64 ev)∧w=w':=by
 have c1:w.cell? ⟨p,1,none⟩=some (.int .u64 ev):=by rw[Zr h];rfl
 clear h
 go_enter Tryz.func36,Tryz.ntmps36
 go_wp2
 go_ret
 exact⟨rfl,rfl⟩
def Yh (n:Int)(m:Int):Bool:=decide (n≤40000) && decide (secsI n≤m)
theorem Zhb {m:Int}(w:World):
  Calls Tryz.prog 97 #[.slice a n c,.int .i64 m] w fun e w'=>e=.returned (.bool (Yh n m))∧w=w':=by
 unfold Yh
 by_cases h:n≤40000
 ·have h1:(n:Int)≤40000:=by omega
  rw[decide_eq_true h1,Bool.true_and]
  go_enter Tryz.func97,Tryz.ntmps97
  go_wp2_with (go_at_call 113;fail)
  refine(Yf n w).mono ?_
  rintro e w' ⟨rfl,rfl⟩
  simp only[]
  go_wp2
  go_ret
  exact⟨rfl,rfl⟩
 ·have h1: ¬(n:Int)≤40000:=by omega
  rw[decide_eq_false h1,Bool.false_and]
  go_enter Tryz.func97,Tryz.ntmps97
  go_wp2
  go_ret
  exact⟨rfl,rfl⟩
theorem Zdu {q:Nat}{X:Lg}{G:Nat→Prop}(w:World)(h:Log w q p X G):
  Calls Tryz.prog 74 #[.pointer (some ⟨q,0,none⟩)] w fun e w'=>e=.returned (.bool X.broken)∧w=w':=by
 obtain⟨PV,vs,h1,_⟩:=h
 obtain⟨c0,c1,c2,c3,c4,c5,c6,c7⟩:=Zbv h1.main
 clear h1
 go_enter Tryz.func74,Tryz.ntmps74
 go_wp2
 go_ret
 exact⟨rfl,rfl⟩
theorem Zh9 {q:Nat}{X:Lg}{G:Nat→Prop}(w:World)(hr:RegAt w r (.pointer (some ⟨q,0,none⟩)) ev mv area)(h:Log w q p X G):
  Calls Tryz.prog 48 #[.pointer (some ⟨r,0,none⟩)] w fun e w'=>e=.returned (.bool X.broken)∧w=w':=by
 have c0:w.cell? ⟨r,0,none⟩=some (.pointer (some ⟨q,0,none⟩)):=by rw[Zr hr];rfl
 have H:=V h
 clear hr h
 go_enter Tryz.func48,Tryz.ntmps48
 go_wp2_with (go_at_call 74;fail)
 refine(Zdu w H.out).mono ?_
 rintro e w' ⟨rfl,rfl⟩
 simp only[]
 go_wp2
 go_ret
 exact⟨rfl,rfl⟩
def RV (v:Value):Option (DataW Value×List MemPlace):=some (.held v,[])
theorem Tryz.underlying165:Tryz.prog.underlying 165=some (.map 9 39):=by kernel_rfl
theorem Zou (w:World):(zeroValue 39).run Tryz.prog w=.ok (.slice none 0 0) w:=by kernel_rfl
def MapAt (w:World)(b n:Nat)(C:Nat→Prop)(M:ByteArray→Option (List Int)):Prop:= ∃D:DataW Value,w.ownsMap Tryz.prog 9 RV b n D∧RowC w C∧
 ∀s:ByteArray,s.size≤maxLen→ ∃v,D.atKey (.string s.data.toList) (.held (.slice none 0 0))=.held v∧Maps.has D (.string s.data.toList)=(M s).isSome∧BytesAt w C v ((M s).getD [])
theorem MapAt.look (h:MapAt w b n C M)(hs:s.size≤maxLen):
  ∃v,(Instr.lookup 165 (.map (some b)) (.string s) true).run Tryz.prog w=.ok (.tuple #[v,.bool (M s).isSome]) w∧BytesAt w C v ((M s).getD []):=by
 obtain⟨D,h1,_,h2⟩:=h
 obtain⟨v,k1,k2,k3⟩:=h2 s hs
 obtain⟨v',ps,hr,hv⟩:=h1.look_ok (Maps.string_keyed Tryz.underlying9s') Tryz.underlying165 (Zou w) (zd:=.held (.slice none 0 0)) (zp:=[]) rfl (key:=.string s) (WideMaps.keyOf_string_mk Tryz.underlying9s' hs)
 rw[k1,RV] at hv
 have e:v'=v:=by
  injection hv with hv
  injection hv with hv
  injection hv
 subst e
 rw[k2] at hr
 exact⟨_,hr,k3⟩
theorem Ze7 (w:World)(h:RegAt w p lg ev (.map (some b)) area)(hm:MapAt w b n C M)(hs:s.size≤maxLen)(hl:((M s).getD []).length≤1099511627776):
  Calls Tryz.prog 34 #[.pointer (some ⟨p,0,none⟩),.string s] w fun e w'=> ∃u,e=.returned (.tuple #[u,.bool (M s).isSome])∧OwnB w' w.heap.size u ((M s).getD [])∧U0 w w':=by
 obtain⟨v,a1,hv⟩:=hm.look hs
 obtain⟨va,vn,vc,rfl⟩: ∃a n c,v=.slice a n c:=by
  obtain⟨a,c,e,_⟩:=hv.slice
  exact⟨_,_,_,e⟩
 have c2:w.cell? ⟨p,2,none⟩=some (.map (some b)):=by rw[Zr h];rfl
 obtain⟨f,hf⟩: ∃f,f=(M s).isSome:=⟨_,rfl⟩
 obtain⟨bs,a0⟩: ∃bs,bs=(M s).getD []:=⟨_,rfl⟩
 rw[←hf] at a1 ⊢
 rw[←a0] at hv hl ⊢
 have HC:=V (Y4 w hl hv.bytesIn)
 clear hv h hm hf a0 hs
 go_enter Tryz.func34,Tryz.ntmps34
 go_wp2_with (go_at_call 99;fail)
 refine HC.o.mono ?_
 rintro e w' ⟨u,rfl,g1,_,g3⟩
 obtain⟨ua,um,uc,rfl⟩:=g1.bytesAt.1.slice'
 have G1:=V g1;have G3:=V g3
 clear g1 g3
 simp only[]
 go_wp2
 go_returns
 exact⟨_,rfl,G1.out,G3.out⟩
theorem MapAt.made (w:World):MapAt (w.alloc (.map #[] 0)) w.heap.size 0 (fun _=>False) (fun _=>none):=
 ⟨_,World.ownsMap_made w _ _ _,fun k hk=>hk.elim,fun s _=>⟨.slice none 0 0,rfl,rfl,.inl ⟨rfl,rfl⟩⟩⟩
theorem Zhv {t:ByteArray}(h:t≠s):(Lit.string t.data.toList)≠.string s.data.toList:=by
 intro e
 injection e with e
 exact h (ByteArray.ext (Array.toList_inj.1 e))
theorem MapAt.isMapBlock (h:MapAt w b n C M): ∃es c,w.heap[b]?=some (.map es c):=by
 obtain⟨D,⟨es,c,h1,_⟩,_⟩:=h
 exact⟨es,c,h1⟩
theorem MapAt.apart (h:MapAt w b n C M){E:Nat→Prop}(hE:RowC w E): ∀k,E k→ ¬k=b:=by
 rintro k hk rfl
 obtain⟨es,c,h1⟩:=h.isMapBlock
 obtain⟨cs,h2⟩:=hE k hk
 rw[h1] at h2
 cases h2
theorem MapAt.rowC (h:MapAt w b n C M):RowC w C:=h.choose_spec.2.1
def setM (M:ByteArray→Option (List Int))(s:ByteArray)(o:Option (List Int)):ByteArray→Option (List Int):=fun t=>if t=s then o else M t
theorem MapAt.put {E:Nat→Prop}(h:MapAt w b n C M)(hn:n<maxLen)(hs:s.size≤maxLen)(hv:BytesAt w E v bs)(hE:RowC w E):
  ∃w',(Instr.mapUpdate 165 (.map (some b)) (.string s) v).run Tryz.prog w=.ok () w'∧MapAt w' b (n+1) (fun k=>C k∨E k) (setM M s (some bs))∧Upd (fun k=>k=b) w w':=by
 have ha:=h.apart h.rowC
 have hb:=h.apart hE
 obtain⟨D,h1,h0,h2⟩:=h
 obtain⟨w',hr,g1,g2⟩:=h1.store (val:=v) (d:=.held v) (ps:=[]) (Maps.string_keyed Tryz.underlying9s') Tryz.underlying165 hn (key:=.string s) (WideMaps.keyOf_string_mk Tryz.underlying9s' hs) rfl
 have hu:Upd (fun k=>k=b) w w':=Upd.of_grown g2.grown (fun k hk=>by simpa using hk.symm)
 refine⟨w',hr,⟨_,g1,fun k hk=>hk.elim (h0.kept hu ha k) (hE.kept hu hb k),fun t ht=>?_⟩,hu⟩
 by_cases e:t=s
 ·subst e
  refine⟨v,Maps.atKey_put_same (k:=.string _) h1.isMap trivial _ _,?_,?_⟩
  ·rw[Maps.has_put_same (k:=.string _) h1.isMap trivial];simp[setM]
  ·have:=(hv.kept hu hb).mono (C':=fun k=>C k∨E k) (fun _=>.inr)
   simpa [setM] using this
 ·obtain⟨v',k1,k2,k3⟩:=h2 t ht
  refine⟨v',by rw[Maps.atKey_put_other (Zhv e)];exact k1,by rw[Maps.has_put_other (Zhv e),k2];simp[setM,e],?_⟩
  have:=(k3.kept hu ha).mono (C':=fun k=>C k∨E k) (fun _=>.inl)
  simpa [setM,e] using this
theorem MapAt.del (h:MapAt w b n C M)(hs:s.size≤maxLen)(ty:TypeId):
  ∃w',(Builtin.delete_ #[165,9] ty #[.map (some b),.string s]).run Tryz.prog w=.ok (.tuple #[]) w'∧MapAt w' b n C (setM M s none)∧Upd (fun k=>k=b) w w':=by
 have ha:=h.apart h.rowC
 obtain⟨D,h1,h0,h2⟩:=h
 obtain⟨w',hr,g1,g2⟩:=h1.drop (Maps.string_keyed Tryz.underlying9s') Tryz.underlying165 (key:=.string s) (WideMaps.keyOf_string_mk Tryz.underlying9s' hs) ty
 have hu:Upd (fun k=>k=b) w w':=Upd.of_grown g2.grown (fun k hk=>by simpa using hk.symm)
 refine⟨w',hr,⟨_,g1,h0.kept hu ha,fun t ht=>?_⟩,hu⟩
 by_cases e:t=s
 ·subst e
  exact⟨.slice none 0 0,Maps.atKey_del_same _,by rw[Maps.has_del_same];simp[setM],by simp[setM];exact .inl ⟨rfl,rfl⟩⟩
 ·obtain⟨v',k1,k2,k3⟩:=h2 t ht
  refine⟨v',by rw[Maps.atKey_del_other (Zhv e)];exact k1,by rw[Maps.has_del_other (Zhv e),k2];simp[setM,e],?_⟩
  have:=k3.kept hu ha
  simpa [setM,e] using this
theorem Zfd {area N K:Nat}{D:Dk}(w:World)(hD:Dsk w p D F)(hg:D.Good N)(hok:D.Ok K)(hK:K≤1000000)(ha:4≤area∧area≤1000)(hlen:2+2 * area≤N):
  Calls Tryz.prog 47 #[.pointer (some ⟨p,0,none⟩),.int .i64 area] w fun e w'=> ∃r b q G' F',e=.returned (.tuple #[.pointer (some ⟨r,0,none⟩),.int .i64 0])∧RegAt w' r (.pointer (some ⟨q,0,none⟩)) 0 (.map (some b)) area∧MapAt w' b 0 (fun _=>False) (fun _=>none)∧
   WalG w' q p ⟨fmtH area,[[]],1,false⟩ (fmtD D area 3) G' F' N (K+20000)∧(∀k,G' k→w.heap.size≤k)∧(∀k,F' k→F k∨w.heap.size≤k)∧Upd F w w'∧w.heap.size≤b∧b<r∧(∀k,G' k→k<b)∧ ∀k,F' k→k<b:=by
 have HC:=V (Zgr w hD hg hok hK ha hlen)
 clear hD hg hok hK ha hlen
 have a8: ∀W:World,(Instr.makeMap 165 none).run Tryz.prog W=.ok (.map (some W.heap.size)) (W.alloc (.map #[] 0)):=fun W=>run_makeMap 165 W
 go_enter Tryz.func47,Tryz.ntmps47
 go_wp2_with (go_at_call 41;fail)
 refine HC.o.mono ?_
 rintro e w1 ⟨q,G',F',rfl,h1,h2,h3,h4⟩
 have H1:=V h1;have H2:=V h2;have H3:=V h3;have H4:=V h4
 clear h1 h2 h3 h4 HC
 simp only[]
 obtain⟨w2,a0⟩: ∃w2,w2=(w1.alloc (.map #[] 0)).alloc (.cells #[.pointer (some ⟨q,0,none⟩),.int .u64 0,.map (some w1.heap.size),.int .i64 area] 172):=⟨_,rfl⟩
 have a2:U0 w1 w2:=by rw[a0];exact((Upd.refl _ w1).alloc _).alloc _
 have a1:RegAt w2 (w1.heap.size+1) (.pointer (some ⟨q,0,none⟩)) 0 (.map (some w1.heap.size)) area:=by
  unfold RegAt
  rw[a0]
  exact Zc (by simp)
 have a3:MapAt w2 w1.heap.size 0 (fun _=>False) (fun _=>none):=by
  obtain⟨D,g1,g0,g2⟩:=MapAt.made w1
  rw[a0]
  exact⟨D,g1.alloc _,fun k hk=>hk.elim,fun s hs=>by
   obtain⟨v,k1,k2,k3⟩:=g2 s hs
   exact⟨v,k1,k2,k3.kept ((Upd.refl (fun _=>False) _).alloc _) n3Z⟩⟩
 have a7:=V a0;have a4:=V a2;have a6:=V a1;have a5:=V a3
 clear a0 a2 a1 a3
 go_wp2
 go_returns
 rw[←a7.o]
 exact⟨_,_,q,G',F',rfl,a6.o,a5.o,H1.o.kept a4.o n3Z n3Z,H2.o,H3.o,H4.o.trans (a4.o.mono (fun _ _ e=>e.elim)),H4.o.size,by omega,H1.o.wal.1.lt,H1.o.wal.2.1.lt⟩
structure DcAt (w:World) (r rb ob:Nat) (C:Nat→Prop) (ev:Int) (fl:Bool) (st:Option (List Int)) (bad:Bool) (l:List SetV) (W:World):Prop where
 rbs:RbS W rb r C st bad
 out: ∃a c,W.heap[ob]?=some (.cells #[.int .u64 ev,.bool fl,.slice a l.length c] 56 (0,0))∧SetRow W (ob+1) C (.slice a l.length c) l
 res:W.heap[w.heap.size]?=some (.cells #[.int .u64 0,.bool false,.slice none 0 0] 56 (0,0))
 row:RowC W C
 upd:U0 w W
theorem SetRow.addr (h:SetRow w B C (.slice a n c) l): ∀b o,a=some ⟨b,o,none⟩→B≤b∧b<w.heap.size:=fun b o e=>by
 obtain⟨L,_,q,_⟩:=h
 rcases q.2 with ⟨e1,_⟩ | ⟨g,cap,cur,e1,hb,hg,_⟩
 ·injection e1 with e1;rw[e1] at e;cases e
 ·injection e1 with e1;rw[e1] at e;injection e with e;injection e with e;subst e;exact⟨hb,Za hg⟩
def DecAns (w:World)(bs:List Int)(e:Ending)(w':World):Prop:=
 ∃a c,e=.returned (.tuple #[batchV (decF bs).1 a c,.int .i64 (decF bs).2])∧(∃C,SetsAt w' (fun k=>w.heap.size≤k) C a (decF bs).1.sets∧RowC w' C∧(∀k,C k→w.heap.size≤k)∧ ∀b o,a=some ⟨b,o,none⟩→ ¬C b)∧(∀x∈(decF bs).1.sets,x.fine)∧(∀b o,a=some ⟨b,o,none⟩→w.heap.size≤b∧b<w'.heap.size)∧U0 w w'
def lenS:Option (List Int)→Nat
 |none=>0
 |some l=>l.length
theorem Zft (n:Nat)(st:Option (List Int)):lenS (takeS n st).2≤lenS st:=by
 cases st with
 |none=>exact Nat.le_refl _
 |some l=>
  simp only[takeS]
  split
  ·exact Nat.zero_le _
  ·simp[lenS]
theorem Zcg (n:Nat)(st:Option (List Int)):lenS (numS n st).2≤lenS st:=Zft n st
theorem Zhw (st:Option (List Int))(bad:Bool):lenS (Z8 st bad).2.2.1≤lenS st:=
 Nat.le_trans (Zft _ _) (Nat.le_trans (Zcg _ _) (Zcg _ _))
theorem Zrp (st:Option (List Int))(bad:Bool):lenS (setS st bad).2.1≤lenS st:=
 Nat.le_trans (Zhw _ _) (Nat.le_trans (Zhw _ _) (Nat.le_trans (Zft _ _) (Zcg _ _)))
theorem Zjf: ∀(n:Nat) (st:Option (List Int)) (bad:Bool),lenS (Zw n st bad).2.1≤lenS st
 | 0,_,_=>Nat.le_refl _
 |n+1,st,bad=>Nat.le_trans (Zjf n _ _) (Zrp st bad)
theorem Zhc {b:BatchV}(h:Zad bs=(b,none,x)):decF bs=(BatchV.zero,7):=by rw[Zfy,h]
theorem Zcj {r:List Int}{b:BatchV}(h:Zad bs=(b,some r,x))(hc:(x || decide (0<r.length) || !b.right)=true):decF bs=(BatchV.zero,2):=by
 rw[Zfy,h]
 simp only[if_pos hc]
theorem Zqh {r:List Int}{b:BatchV}(h:Zad bs=(b,some r,x))(hc:(x || decide (0<r.length) || !b.right)=false):decF bs=(b,0):=by
 rw[Zfy,h]
 simp only[hc,Bool.false_eq_true,if_false]
theorem Zaz {E:Int}(h:decF bs=(BatchV.zero,E))(hu:U0 w W):DecAns w bs (.returned (.tuple #[.agg #[.int .u64 0,.bool false,.slice none 0 0],.int .i64 E])) W:=by
 unfold DecAns
 rw[h]
 exact⟨none,0,rfl,⟨fun _=>False,SetsAt.nil _ _ _ _,fun k hk=>hk.elim,fun k hk=>hk.elim,fun b o e hk=>hk⟩,fun x hx=>by simp[BatchV.zero] at hx,fun b o e=>(by cases e),hu⟩
theorem Tryz.info73p:(Tryz.prog.info? 73).map (fun i=>(i.zero,i.size,i.bytes))=some (some (.agg #[.string ⟨#[]⟩,.bool false,.bool false,.slice none 0 0,.slice none 0 0]),5,72):=by kernel_rfl
theorem Z9:(Tryz.prog.info? 56).map (·.size)=some 3:=by kernel_rfl
theorem Zoi (w:World)(hv:BytesIn w v bs)(hB:Bytes bs)(hl:bs.length≤1099511627776):
  Calls Tryz.prog 27 #[v] w (DecAns w bs):=by
 obtain⟨w1,k7,l8,n9⟩:=nb w (.cells #[.int .u64 0,.bool false,.slice none 0 0] 56)
 have j1:w1.heap.size=w.heap.size+1:=by rw[k7];simp
 have HC:=V (Zs2 w1 (hv.kept l8) hB hl)
 rw[j1] at HC
 have o6:=V k7;have o0:=V l8;have m8:=V n9
 clear hv hB k7 l8 n9 j1
 go_enter Tryz.func27,Tryz.ntmps27
 go_wp2_with (go_at_call 88;fail)
 rw[←o6.o]
 refine HC.o.mono ?_
 rintro e w2 ⟨rfl,C,h1,h2,h3,h4⟩
 simp only[]
 go_upto_region 2 with fail
 obtain⟨rb,f8⟩: ∃rb,rb=w2.heap.size:=⟨_,rfl⟩
 obtain⟨w3,f7⟩: ∃w3,w3=w2.alloc (.cells #[.pointer (some ⟨w.heap.size+1,0,none⟩),.bool false] 161):=⟨_,rfl⟩
 rw[←f7,←f8]
 obtain⟨r,hr⟩: ∃r,r=w.heap.size+1:=⟨_,rfl⟩
 rw[←hr] at f7 h1 ⊢
 have r9:r<rb:=by rw[f8];exact h1.lt
 have e6: ∀k,C k→r<k∧k<rb:=fun k hk=>⟨by have:=h2 k hk;omega,by rw[f8];exact h1.1.2 k hk⟩
 have g7:U0 w2 w3:=by rw[f7];exact(Upd.refl _ w2).alloc _
 have l0:w3.heap[rb]?=some (.cells #[.pointer (some ⟨r,0,none⟩),.bool false] 161 (0,0)):=by rw[f7];exact Zc f8
 have n8:RbS w3 rb r C (some bs) false:=⟨l0,by omega,fun e=>by have:=e6 _ e;omega,h1.kept g7 id n3Z⟩
 have p6:w3.heap.size=rb+1:=by rw[f7,f8];simp
 have o4:=V n8
 have hN:w.heap.size<r:=by omega
 have p3:=V (h3.kept g7 n3Z)
 have p8:=V ((o0.o.trans h4).trans g7)
 have a0:=V ((g7.block _ (by have:=Za m8.o;have:=h4.size;omega) id).trans (kb h4 m8.o))
 have c7:=V e6
 have s7:=V p6
 have c0:=(Zg l0).1
 clear f7 h1 h2 h3 h4 e6 g7 n8 p6 hr f8 HC o6 o0 m8 l0
 go_wp2_with (go_at_call 89;fail)
 refine(Zuh w3 o4.o).mono ?_
 rintro e w4 ⟨rfl,k1,k2⟩
 have c0:=(Zg k1.1).1
 have K1:=V k1;have K2:=V k2
 clear k1 k2
 simp only[]
 go_wp2_with (go_at_call 90;fail)
 refine(Zqc w4 K1.out).mono ?_
 rintro e w5 ⟨rfl,k3,k4⟩
 have K3:=V k3;have K4:=V k4
 clear k3 k4
 simp only[]
 obtain⟨ev,n3⟩: ∃ev,ev=(numS 8 (some bs)).1:=⟨_,rfl⟩
 obtain⟨fl,k9⟩: ∃fl,fl=((numS 1 (numS 8 (some bs)).2).1 == 1):=⟨_,rfl⟩
 go_upto_region 3 with fail
 rw[←n3,←k9]
 obtain⟨ob,c8⟩: ∃ob,ob=w5.heap.size:=⟨_,rfl⟩
 obtain⟨w6,j3⟩: ∃w6,w6=w5.alloc (.cells #[.int .u64 ev,.bool fl,.slice none 0 0] 56):=⟨_,rfl⟩
 rw[←j3,←c8]
 have l4:U0 w5 w6:=by rw[j3];exact(Upd.refl _ w5).alloc _
 have i7:w6.heap[ob]?=some (.cells #[.int .u64 ev,.bool fl,.slice none 0 0] 56 (0,0)):=by rw[j3];exact Zc c8
 obtain⟨a9,e5⟩: ∃a9,a9=decide (1<(numS 1 (numS 8 (some bs)).2).1):=⟨_,rfl⟩
 have k0:RbS w6 rb r C (numS 1 (numS 8 (some bs)).2).2 a9:=by
  have:=K3.out.kept l4 id id n3Z
  rw[Bool.false_or,←e5] at this
  exact this
 have d6:Upd (fun k=>k=r∨k=rb) w3 w6:=((K2.out.mono (fun _ _ e=>.inl e)).trans K4.out).trans (l4.mono (fun _ _ e=>e.elim))
 have r8:rb<ob:=by rw[c8];exact K3.out.lt
 obtain⟨cn,j7⟩: ∃cn,cn=(numS 1 (numS 1 (numS 8 (some bs)).2).2).1:=⟨_,rfl⟩
 have n2:=Ym (n:=1) k0.2.2.2.bytes
 rw[←j7] at n2
 obtain⟨a8,d5⟩: ∃a8,a8=(numS 1 (numS 1 (numS 8 (some bs)).2).2).2:=⟨_,rfl⟩
 have r1:RowKit.Hid (lenS a8≤bs.length):=V (by rw[d5];exact Nat.le_trans (Zcg _ _) (Nat.le_trans (Zcg _ _) (Zcg _ _)))
 have f4:=V (Zty w6 k0)
 rw[←j7,←d5] at f4
 have b2:RowKit.Hid (Zad bs=(⟨ev,fl,(Zw cn.toNat a8 a9).1⟩,(Zw cn.toNat a8 a9).2.1,(Zw cn.toNat a8 a9).2.2)):=V (by
  simp only[Zad,n3,k9,e5,j7,d5])
 have c9:=V ((d6.block _ (Za a0.o) (by omega)).trans a0.o)
 have h0:=V (p3.o.kept d6 (fun k hk e=>by have:=c7.o k hk;omega))
 have p2:=V (p8.o.step d6 (fun k hk e=>by omega))
 have f0:=V i7
 have c0:=(Zg k0.1).1
 clear K1 K2 K3 K4 l4 i7 k0 n3 k9 e5 j3 c8 d6 p8 a0 p3 o4 s7 j7 d5
 go_wp2_with (go_at_call 91;fail)
 refine f4.o.mono ?_
 rintro e w7 ⟨rfl,k1,k2⟩
 have hD:DcAt w r rb ob C ev fl a8 a9 [] w7:=by
  refine⟨k1,⟨none,0,(k2.block _ (Za f0.o) (by omega)).trans f0.o,SetRow.nil _ _ _⟩,(k2.block _ (Za c9.o) (by omega)).trans c9.o,h0.o.kept k2 (fun k hk e=>by have:=c7.o k hk;omega),p2.o.step k2 (fun k hk e=>by omega)⟩
 have HD:=V hD
 have t2:cn≤255:=by omega
 have q3:0≤cn:=n2.1
 clear k1 k2 hD f4 f0 c9 h0 p2 n2
 simp only[]
 go_upto_region 4 with fail
 obtain⟨b7,rfl⟩: ∃b7:Nat,cn=b7:=⟨cn.toNat,by omega⟩
 rw[show((b7:Int)).toNat=b7 by omega] at b2
 go_loopg [24] b7 (fun gk i wr=> ∃k:Nat,k≤b7∧gk=b7 - k∧i=.int .u8 k∧DcAt w r rb ob C ev fl (Zw k a8 a9).2.1 (Zw k a8 a9).2.2 (Zw k a8 a9).1 wr)
 case atStart=>exact⟨0,Nat.zero_le _,rfl,rfl,HD.o⟩
 case round=>
  obtain⟨k,hk,rfl,rfl,hd⟩:=hrel
  have HD:=V hd
  clear hd
  by_cases t4:k<b7
  ·have s0:(k:Int)<b7:=by omega
   obtain⟨st,e8⟩: ∃st,st=(Zw k a8 a9).2.1:=⟨_,rfl⟩
   obtain⟨b5,c5⟩: ∃b5,b5=(Zw k a8 a9).2.2:=⟨_,rfl⟩
   obtain⟨l,e2⟩: ∃l,l=(Zw k a8 a9).1:=⟨_,rfl⟩
   have d7:=Zcy k a8 a9
   rw[←e8,←c5,←e2] at HD d7
   have l7:l.length=k:=by rw[e2];exact Zc7 _ _ _
   obtain⟨e0,_⟩:=Zpc HD.o.rbs.2.2.2.bytes b5
   obtain⟨n1,j6⟩: ∃n1,n1=(numS 1 st).1:=⟨_,rfl⟩
   obtain⟨s1,l3⟩: ∃s1,s1=(numS 1 st).2:=⟨_,rfl⟩
   obtain⟨a7,f2⟩: ∃a7,a7=(takeS n1.toNat s1).1:=⟨_,rfl⟩
   obtain⟨s2,m5⟩: ∃s2,s2=(takeS n1.toNat s1).2:=⟨_,rfl⟩
   have h9:=Ym (n:=1) HD.o.rbs.2.2.2.bytes
   rw[←j6] at h9
   have f4:RowKit.Hid (∀W,RbS W rb r C st b5→Calls Tryz.prog 91 #[.pointer (some ⟨r,0,none⟩)] W fun e w'=>e=.returned (.int .u8 n1)∧RbS w' rb r C s1 b5∧Upd (fun k=>k=r) W w'):=V (by
    intro W hW
    have q:=Zty W hW
    rw[←j6,←l3] at q
    exact q)
   have q2:((n1.toNat:Nat):Int)=n1:=by omega
   have d8:RowKit.Hid (∀W,RbS W rb r C s1 b5→Calls Tryz.prog 92 #[.pointer (some ⟨r,0,none⟩),.int .i64 n1] W fun e w'=> ∃u,e=.returned u∧BytesAt w' C u a7∧RbS w' rb r C s2 b5∧Upd (fun k=>k=r) W w'):=V (by
    intro W hW
    have q:=Zuj (n:=n1.toNat) W hW
    rw[q2,←f2,←m5] at q
    exact q)
   have s5:IntKind.i64.wrap n1=n1:=by rw[IntKind.wrap_i64];omega
   have s9:=V (And.intro e8 (And.intro c5 (And.intro e2 (And.intro j6 (And.intro l3 (And.intro f2 m5))))))
   have s4:=V d7;have s6:=V l7;have g5:=V e0
   have e3:RowKit.Hid (r<wr.heap.size):=V HD.o.rbs.2.2.2.lt
   clear e8 c5 e2 j6 l3 f2 m5 d7 l7 e0 h9 q2
   go_upto_region 5 with fail
   go_cut [6,24] from 24 to 66 (fun x i wx=> ∃b6,x=.pointer (some ⟨b6,0,none⟩)∧i=.int .u8 k∧RbS wx rb r C s2 b5∧wx.heap[b6]?=some (.cells #[.string (strOfNums a7),.bool false,.bool false,.slice none 0 0,.slice none 0 0] 73 (0,0))∧wr.heap.size≤b6∧Upd (fun k=>k=r) wr wx)
   case first=>
    have hA:wr.drew.heap[rb]?=some (.cells #[.pointer (some ⟨r,0,none⟩),.bool b5] 161 (0,0)):=HD.o.rbs.1
    have HR:=V (HD.o.rbs.kept ((Upd.refl (fun _=>False) wr).drew) id id n3Z)
    have HU:=V ((Upd.refl (fun k=>k=r) wr).drew)
    refine Zj 14 (fun W=>W.heap[rb]?=some (.cells #[.pointer (some ⟨r,0,none⟩),.bool b5] 161 (0,0))) [false,false,false,false,false,false,false,false,false,false,false,false,false,false,false] rfl (by kernel_rfl) ?_
    generalize wr.drew=wd at hA HR HU ⊢
    refine tpZ 0 (.pointer (some ⟨rb,0,none⟩)) hA ?_
    simp only[zz]
    refine tpZ 1 (.pointer (some ⟨rb,0,none⟩)) hA ?_
    simp only[zz]
    refine tpZ 2 (.pointer (some ⟨rb,0,none⟩)) hA ?_
    simp only[zz]
    refine tqZ 3 (.pointer (some ⟨r,0,none⟩)) [10] hA (fun w5 q1=>?_) ?_
    ·have c0:=(Zg q1).1
     go_simp
    simp only[zz]
    refine tpZ 4 (.pointer (some ⟨rb,0,none⟩)) hA ?_
    simp only[zz]
    refine tpZ 5 (.pointer (some ⟨rb,0,none⟩)) hA ?_
    simp only[zz]
    refine tpZ 6 (.pointer (some ⟨rb,0,none⟩)) hA ?_
    simp only[zz]
    refine tqZ 7 (.pointer (some ⟨r,0,none⟩)) [10,8] hA (fun w5 q1=>?_) ?_
    ·have c0:=(Zg q1).1
     go_simp
    simp only[zz]
    refine Ya (i:=8) (j:=13) rfl rfl (by kernel_rfl) rfl rfl (fun K hK=>?_) (fun K hK=>?_)
    ·have a4:=V hK
     clear hK
     go_step
     refine(f4.o _ HR.o).mono ?_
     rintro e WA ⟨rfl,k1,k2⟩
     have hA:=k1.1
     have HU:=V (HU.o.trans k2)
     have HR:=V k1
     clear k1 k2
     simp only[]
     refine a4.o _ _ hA ?_
     clear a4
     simp only[zz]
     refine tpZ 9 (.int .i64 n1) hA ?_
     simp only[zz]
     refine Ya (i:=10) (j:=13) rfl rfl (by kernel_rfl) rfl rfl (fun K hK=>?_) (fun K hK=>?_)
     ·have a4:=V hK
      clear hK
      go_step
      refine(d8.o _ HR.o).mono ?_
      rintro e WB ⟨u,rfl,m1,k1,k2⟩
      obtain⟨ua,um,uc,rfl⟩:=m1.slice'
      have hA:=k1.1
      have HU:=V (HU.o.trans k2)
      have HR:=V k1
      have c6:=V m1
      clear k1 k2 m1
      simp only[]
      refine a4.o _ _ hA ?_
      clear a4
      simp only[zz]
      refine Ya (i:=11) (j:=13) rfl rfl (by kernel_rfl) rfl rfl (fun K hK=>?_) (fun K hK=>?_)
      ·have a4:=V hK
       clear hK
       have c3:=Yw c6.o.bytesIn
       go_step
       clear c3
       refine a4.o _ _ hA ?_
       clear a4
       simp only[zz]
       refine tpZ 12 (.agg #[.string (strOfNums a7),.bool false,.bool false,.slice none 0 0,.slice none 0 0]) hA ?_
       simp only[zz]
       refine doZ 13 (fun K a4=>?_)
       go_step
       have ua:U0 WB (WB.alloc (.cells #[.string ⟨#[]⟩,.bool false,.bool false,.slice none 0 0,.slice none 0 0] 73)):=(Upd.refl _ _).alloc _
       have b9:RowKit.Hid (wr.heap.size≤WB.heap.size):=V HU.o.size
       have HX:=V (Zc (w:=WB) (o:=.cells #[.string ⟨#[]⟩,.bool false,.bool false,.slice none 0 0,.slice none 0 0] 73) rfl)
       have HR:=V (HR.o.kept ua id id n3Z)
       have HU:=V (HU.o.trans (ua.mono (fun _ _ e=>e.elim)))
       have hA:=HR.o.1
       have c6:=V (c6.o.kept ua n3Z)
       clear ua
       refine a4.o _ _ hA ?_
       clear a4
       simp only[zz]
       generalize WB.alloc (.cells #[.string ⟨#[]⟩,.bool false,.bool false,.slice none 0 0,.slice none 0 0] 73)=WBX at HX HR HU hA c6 ⊢
       refine tlZ 14 ?_
       simp only[List.drop]
       refine wpList_store_mid rfl 73 (.tmp 6) (.tmp 38) rfl _ 0 #[.string (strOfNums a7),.bool false,.bool false,.slice none 0 0,.slice none 0 0] rfl rfl (by have q:=Zq HX.o;exact q) (by kernel_rfl) (by simp[Value.oneCell']) ?_
       have a6:=Zi (vs:=[.string (strOfNums a7),.bool false,.bool false,.slice none 0 0,.slice none 0 0]) HX.o rfl
       have a5:=Upd.setCells (F:=fun k=>wr.heap.size≤k) b9.o [.string (strOfNums a7),.bool false,.bool false,.slice none 0 0,.slice none 0 0] 0 (Upd.refl _ WBX)
       go_wp2
       go_meet
       case rel=>
        exact⟨_,rfl,rfl,HR.o.kept a5 (fun e=>by have:=HD.o.rbs.lt;omega) (fun e=>by have:=e3.o;omega) (fun k hk e=>by have:=HD.o.row.lt k hk;omega),a6,b9.o,HU.o.step a5 (fun k hk e=>by omega)⟩
      ·have a4:=V hK
       clear hK
       go_step
       have ua:U0 WB (WB.alloc (.cells #[.string ⟨#[]⟩,.bool false,.bool false,.slice none 0 0,.slice none 0 0] 73)):=(Upd.refl _ _).alloc _
       have b9:RowKit.Hid (wr.heap.size≤WB.heap.size):=V HU.o.size
       have HX:=V (Zc (w:=WB) (o:=.cells #[.string ⟨#[]⟩,.bool false,.bool false,.slice none 0 0,.slice none 0 0] 73) rfl)
       have HR:=V (HR.o.kept ua id id n3Z)
       have HU:=V (HU.o.trans (ua.mono (fun _ _ e=>e.elim)))
       have hA:=HR.o.1
       have c6:=V (c6.o.kept ua n3Z)
       clear ua
       refine a4.o _ _ hA ?_
       clear a4
       simp only[zz]
       generalize WB.alloc (.cells #[.string ⟨#[]⟩,.bool false,.bool false,.slice none 0 0,.slice none 0 0] 73)=WBX at HX HR HU hA c6 ⊢
       refine doZ 11 (fun K a4=>?_)
       have c3:=Yw c6.o.bytesIn
       go_step
       clear c3
       refine a4.o _ _ hA ?_
       clear a4
       simp only[zz]
       refine tpZ 12 (.agg #[.string (strOfNums a7),.bool false,.bool false,.slice none 0 0,.slice none 0 0]) hA ?_
       simp only[zz]
       refine tlZ 14 ?_
       simp only[List.drop]
       refine wpList_store_mid rfl 73 (.tmp 6) (.tmp 38) rfl _ 0 #[.string (strOfNums a7),.bool false,.bool false,.slice none 0 0,.slice none 0 0] rfl rfl (by have q:=Zq HX.o;exact q) (by kernel_rfl) (by simp[Value.oneCell']) ?_
       have a6:=Zi (vs:=[.string (strOfNums a7),.bool false,.bool false,.slice none 0 0,.slice none 0 0]) HX.o rfl
       have a5:=Upd.setCells (F:=fun k=>wr.heap.size≤k) b9.o [.string (strOfNums a7),.bool false,.bool false,.slice none 0 0,.slice none 0 0] 0 (Upd.refl _ WBX)
       go_wp2
       go_meet
       case rel=>
        exact⟨_,rfl,rfl,HR.o.kept a5 (fun e=>by have:=HD.o.rbs.lt;omega) (fun e=>by have:=e3.o;omega) (fun k hk e=>by have:=HD.o.row.lt k hk;omega),a6,b9.o,HU.o.step a5 (fun k hk e=>by omega)⟩
     ·have a4:=V hK
      clear hK
      go_step
      have ua:U0 WA (WA.alloc (.cells #[.string ⟨#[]⟩,.bool false,.bool false,.slice none 0 0,.slice none 0 0] 73)):=(Upd.refl _ _).alloc _
      have b9:RowKit.Hid (wr.heap.size≤WA.heap.size):=V HU.o.size
      have HX:=V (Zc (w:=WA) (o:=.cells #[.string ⟨#[]⟩,.bool false,.bool false,.slice none 0 0,.slice none 0 0] 73) rfl)
      have HR:=V (HR.o.kept ua id id n3Z)
      have HU:=V (HU.o.trans (ua.mono (fun _ _ e=>e.elim)))
      have hA:=HR.o.1
      clear ua
      refine a4.o _ _ hA ?_
      clear a4
      simp only[zz]
      generalize WA.alloc (.cells #[.string ⟨#[]⟩,.bool false,.bool false,.slice none 0 0,.slice none 0 0] 73)=WAX at HX HR HU hA ⊢
      refine doZ 10 (fun K a4=>?_)
      go_step
      refine(d8.o _ HR.o).mono ?_
      rintro e WB ⟨u,rfl,m1,k1,k2⟩
      obtain⟨ua,um,uc,rfl⟩:=m1.slice'
      have hA:=k1.1
      have HU:=V (HU.o.trans k2)
      have HR:=V k1
      have c6:=V m1
      have HX:=V ((k2.block _ (Za HX.o) (fun e=>by have:=b9.o;have:=e3.o;omega)).trans HX.o)
      clear k1 k2 m1
      simp only[]
      refine a4.o _ _ hA ?_
      clear a4
      simp only[zz]
      refine doZ 11 (fun K a4=>?_)
      have c3:=Yw c6.o.bytesIn
      go_step
      clear c3
      refine a4.o _ _ hA ?_
      clear a4
      simp only[zz]
      refine tpZ 12 (.agg #[.string (strOfNums a7),.bool false,.bool false,.slice none 0 0,.slice none 0 0]) hA ?_
      simp only[zz]
      refine tlZ 14 ?_
      simp only[List.drop]
      refine wpList_store_mid rfl 73 (.tmp 6) (.tmp 38) rfl _ 0 #[.string (strOfNums a7),.bool false,.bool false,.slice none 0 0,.slice none 0 0] rfl rfl (by have q:=Zq HX.o;exact q) (by kernel_rfl) (by simp[Value.oneCell']) ?_
      have a6:=Zi (vs:=[.string (strOfNums a7),.bool false,.bool false,.slice none 0 0,.slice none 0 0]) HX.o rfl
      have a5:=Upd.setCells (F:=fun k=>wr.heap.size≤k) b9.o [.string (strOfNums a7),.bool false,.bool false,.slice none 0 0,.slice none 0 0] 0 (Upd.refl _ WB)
      go_wp2
      go_meet
      case rel=>
       exact⟨_,rfl,rfl,HR.o.kept a5 (fun e=>by have:=HD.o.rbs.lt;omega) (fun e=>by have:=e3.o;omega) (fun k hk e=>by have:=HD.o.row.lt k hk;omega),a6,b9.o,HU.o.step a5 (fun k hk e=>by omega)⟩
    ·have a4:=V hK
     clear hK
     go_step
     have ua:U0 wd (wd.alloc (.cells #[.string ⟨#[]⟩,.bool false,.bool false,.slice none 0 0,.slice none 0 0] 73)):=(Upd.refl _ _).alloc _
     have b9:RowKit.Hid (wr.heap.size≤wd.heap.size):=V HU.o.size
     have HX:=V (Zc (w:=wd) (o:=.cells #[.string ⟨#[]⟩,.bool false,.bool false,.slice none 0 0,.slice none 0 0] 73) rfl)
     have HR:=V (HR.o.kept ua id id n3Z)
     have HU:=V (HU.o.trans (ua.mono (fun _ _ e=>e.elim)))
     have hA:=HR.o.1
     clear ua
     refine a4.o _ _ hA ?_
     clear a4
     simp only[zz]
     generalize wd.alloc (.cells #[.string ⟨#[]⟩,.bool false,.bool false,.slice none 0 0,.slice none 0 0] 73)=wdX at HX HR HU hA ⊢
     refine doZ 8 (fun K a4=>?_)
     go_step
     refine(f4.o _ HR.o).mono ?_
     rintro e WA ⟨rfl,k1,k2⟩
     have hA:=k1.1
     have HU:=V (HU.o.trans k2)
     have HR:=V k1
     have HX:=V ((k2.block _ (Za HX.o) (fun e=>by have:=b9.o;have:=e3.o;omega)).trans HX.o)
     clear k1 k2
     simp only[]
     refine a4.o _ _ hA ?_
     clear a4
     simp only[zz]
     refine tpZ 9 (.int .i64 n1) hA ?_
     simp only[zz]
     refine doZ 10 (fun K a4=>?_)
     go_step
     refine(d8.o _ HR.o).mono ?_
     rintro e WB ⟨u,rfl,m1,k1,k2⟩
     obtain⟨ua,um,uc,rfl⟩:=m1.slice'
     have hA:=k1.1
     have HU:=V (HU.o.trans k2)
     have HR:=V k1
     have c6:=V m1
     have HX:=V ((k2.block _ (Za HX.o) (fun e=>by have:=b9.o;have:=e3.o;omega)).trans HX.o)
     clear k1 k2 m1
     simp only[]
     refine a4.o _ _ hA ?_
     clear a4
     simp only[zz]
     refine doZ 11 (fun K a4=>?_)
     have c3:=Yw c6.o.bytesIn
     go_step
     clear c3
     refine a4.o _ _ hA ?_
     clear a4
     simp only[zz]
     refine tpZ 12 (.agg #[.string (strOfNums a7),.bool false,.bool false,.slice none 0 0,.slice none 0 0]) hA ?_
     simp only[zz]
     refine tlZ 14 ?_
     simp only[List.drop]
     refine wpList_store_mid rfl 73 (.tmp 6) (.tmp 38) rfl _ 0 #[.string (strOfNums a7),.bool false,.bool false,.slice none 0 0,.slice none 0 0] rfl rfl (by have q:=Zq HX.o;exact q) (by kernel_rfl) (by simp[Value.oneCell']) ?_
     have a6:=Zi (vs:=[.string (strOfNums a7),.bool false,.bool false,.slice none 0 0,.slice none 0 0]) HX.o rfl
     have a5:=Upd.setCells (F:=fun k=>wr.heap.size≤k) b9.o [.string (strOfNums a7),.bool false,.bool false,.slice none 0 0,.slice none 0 0] 0 (Upd.refl _ WB)
     go_wp2
     go_meet
     case rel=>
      exact⟨_,rfl,rfl,HR.o.kept a5 (fun e=>by have:=HD.o.rbs.lt;omega) (fun e=>by have:=e3.o;omega) (fun k hk e=>by have:=HD.o.row.lt k hk;omega),a6,b9.o,HU.o.step a5 (fun k hk e=>by omega)⟩
   case rest=>
    obtain⟨b6,rfl,rfl,hR,hX,j9,hu⟩:=hcut
    obtain⟨m3,n4⟩: ∃m3,m3=Z8 s2 b5:=⟨_,rfl⟩
    obtain⟨m4,m0⟩: ∃m4,m4=Z8 m3.2.2.1 m3.2.2.2:=⟨_,rfl⟩
    have g4:setS st b5=(⟨strOfNums a7,m3.1,m4.1,m3.2.1,m4.2.1⟩,m4.2.2.1,m4.2.2.2):=by
     obtain⟨_,_,_,q4,q5,q6,q7⟩:=s9.o
     simp only[setS,←q4,←q5,←q6,←q7,←n4,←m0]
    have p0:RowKit.Hid (∀W,RbS W rb r C s2 b5→Calls Tryz.prog 93 #[.pointer (some ⟨rb,0,none⟩)] W fun e w'=> ∃u,e=.returned (.tuple #[.bool m3.1,u])∧BytesAt w' C u m3.2.1∧RbS w' rb r C m3.2.2.1 m3.2.2.2∧Upd (fun k=>k=r∨k=rb) W w'):=V (by
     intro W hW
     have q:=Zm5 W hW
     rw[←n4] at q
     exact q)
    have o3:RowKit.Hid (∀W,RbS W rb r C m3.2.2.1 m3.2.2.2→Calls Tryz.prog 93 #[.pointer (some ⟨rb,0,none⟩)] W fun e w'=> ∃u,e=.returned (.tuple #[.bool m4.1,u])∧BytesAt w' C u m4.2.1∧RbS w' rb r C m4.2.2.1 m4.2.2.2∧Upd (fun k=>k=r∨k=rb) W w'):=V (by
     intro W hW
     have q:=Zm5 W hW
     rw[←m0] at q
     exact q)
    have h8:=V g4
    have r2:r<b6:=Nat.lt_of_lt_of_le e3.o j9
    have r0:rb<b6:=Nat.lt_of_lt_of_le HD.o.rbs.lt j9
    have i6: ∀k,C k→k<b6:=fun k hk=>Nat.lt_of_lt_of_le (HD.o.row.lt k hk) j9
    have d1:=V i6
    obtain⟨t6,t7,hO,_⟩:=HD.o.out
    have s3:ob<b6:=Nat.lt_of_lt_of_le (Za hO) j9
    have HR:=V hR;have HX:=V hX;have HU:=V hu
    clear n4 m0 g4 hR hX hu f4 d8 s5 hO i6
    go_wp2_with (go_at_call 93;fail)
    refine(p0.o _ HR.o).mono ?_
    rintro e wd ⟨u,rfl,m1,k1,k2⟩
    obtain⟨ua,um,uc,rfl⟩:=m1.slice'
    have hx:=(k2.block _ (Za HX.o) (fun e=>by rcases e with e | e<;> omega)).trans HX.o
    obtain⟨x0,x1,x2,x3,x4⟩:=Zu hx
    have f1:wd.frozen? ⟨b6,1,none⟩=false:=Zb hx
    have f3:wd.frozen? ⟨b6,3,none⟩=false:=Zb hx
    have HX:=V hx;have HU:=V ((HU.o.mono (fun _ _ e=>.inl e)).trans k2);have HR:=V k1;have M1:=V m1
    clear hx k1 k2 m1 p0
    simp only[]
    go_wp2_with (go_at_call 93;fail)
    obtain⟨w8,j8⟩: ∃w8,w8=(wd.setCell ⟨b6,1,none⟩ (.bool m3.1)).setCell ⟨b6,3,none⟩ (.slice ua um uc):=⟨_,rfl⟩
    rw[←j8]
    have k6:Upd (fun k=>k=b6) wd w8:=by rw[j8];exact(Zd wd b6 1 _).trans (Zd _ b6 3 _)
    have o7:w8.heap[b6]?=some (.cells #[.string (strOfNums a7),.bool m3.1,.bool false,.slice ua um uc,.slice none 0 0] 73 (0,0)):=by
     rw[j8]
     have:=Ze (i:=3) (v:=.slice ua um uc) (Ze (i:=1) (v:=.bool m3.1) HX.o)
     simpa using this
    have HR:=V (HR.o.kept k6 (by omega) (by omega) (fun k hk e=>by have:=d1.o k hk;omega))
    have HX:=V o7;have M1:=V (M1.out.kept k6 (fun k hk e=>by have:=d1.o k hk;omega))
    have HU:=V (HU.o.step (F:=fun k=>k=r∨k=rb) k6 (fun k hk e=>by omega))
    clear j8 k6 o7 x0 x1 x2 x3 x4 f1 f3
    refine(o3.o _ HR.o).mono ?_
    rintro e h7 ⟨u,rfl,m2,k1,k2⟩
    obtain⟨va,vm,vc,rfl⟩:=m2.slice'
    have hx:=(k2.block _ (Za HX.o) (fun e=>by rcases e with e | e<;> omega)).trans HX.o
    obtain⟨x0,x1,x2,x3,x4⟩:=Zu hx
    have f1:h7.frozen? ⟨b6,2,none⟩=false:=Zb hx
    have f3:h7.frozen? ⟨b6,4,none⟩=false:=Zb hx
    have HX:=V hx;have HU:=V (HU.o.trans k2);have HR:=V k1;have M2:=V m2
    have M1:=V (M1.out.kept k2 (fun k hk e=>by have:=c7.o k hk;rcases e with e | e<;> omega))
    clear hx k1 k2 m2 o3
    simp only[]
    go_upto_region 8 with fail
    obtain⟨w9,j4⟩: ∃w9,w9=(h7.setCell ⟨b6,2,none⟩ (.bool m4.1)).setCell ⟨b6,4,none⟩ (.slice va vm vc):=⟨_,rfl⟩
    rw[←j4]
    have i2:Upd (fun k=>k=b6) h7 w9:=by rw[j4];exact(Zd h7 b6 2 _).trans (Zd _ b6 4 _)
    have g8:w9.heap[b6]?=some (.cells #[.string (strOfNums a7),.bool m3.1,.bool m4.1,.slice ua um uc,.slice va vm vc] 73 (0,0)):=by
     rw[j4]
     have:=Ze (i:=4) (v:=.slice va vm vc) (Ze (i:=2) (v:=.bool m4.1) HX.o)
     simpa using this
    have HR:=V (HR.o.kept i2 (by omega) (by omega) (fun k hk e=>by have:=d1.o k hk;omega))
    have HX:=V g8;have M1:=V (M1.out.kept i2 (fun k hk e=>by have:=d1.o k hk;omega));have M2:=V (M2.out.kept i2 (fun k hk e=>by have:=d1.o k hk;omega))
    have HU:=V (HU.o.step (F:=fun k=>k=r∨k=rb) i2 (fun k hk e=>by omega))
    clear j4 i2 g8 x0 x1 x2 x3 x4 f1 f3
    have c0:=(Zg HR.o.1).1
    go_wp2_with (go_at_call 94;fail)
    refine(Zsi w9 HR.o.2.2.2).mono ?_
    rintro e wo ⟨rfl,rfl⟩
    simp only[]
    have d7:=s4.o
    rw[h8.o] at d7
    cases hst4:m4.2.2.1 with
    |none=>
     simp only[errS,Option.isSome_none,Bool.false_eq_true,if_false]
     have d0:decF bs=(BatchV.zero,7):=by
      refine Zhc (b:=⟨ev,fl,(Zw b7 a8 a9).1⟩) (x:=(Zw b7 a8 a9).2.2) ?_
      have h1:(Zw (k+1) a8 a9).2.1=none:=by rw[d7];exact hst4
      have h2:=Zl7 (k+1) (b7 - (k+1)) a8 a9 h1
      rw[show k+1+(b7 - (k+1))=b7 by omega] at h2
      rw[b2.o,h2]
     have i8:=(HU.o.block _ (Za HD.o.res) (by omega)).trans HD.o.res
     have a0:=V i8;have b0:=V d0
     have d3:=V (HD.o.upd.step HU.o (fun j hj e=>by omega))
     clear i8 d0 d7 hst4
     go_upto_region 9 with fail
     iterate 4 go_step
     refine wpList_store_mid rfl 56 (.tmp 2) (.tmp 59) rfl w.heap.size 0 #[.int .u64 0,.bool false,.slice none 0 0] rfl rfl (by have q:=Zq a0.o;exact q) Z9 (by simp[Value.oneCell']) ?_
     have a6:=Zi (vs:=[.int .u64 0,.bool false,.slice none 0 0]) a0.o rfl
     have a5:=Upd.setCells (F:=fun k=>k=w.heap.size) (b:=w.heap.size) rfl [.int .u64 0,.bool false,.slice none 0 0] 0 (Upd.refl _ w9)
     have b3:=run_loadVar_mid (P:=Tryz.prog) (w9.setCells w.heap.size 0 [.int .u64 0,.bool false,.slice none 0 0]) w.heap.size 0 56 [.int .u64 0,.bool false,.slice none 0 0] _ (Zh a6) Tryz.underlying56 rfl Z9
     have d2:=V b3;have c4:=V a5
     clear a6 a5 b3
     go_wp2
     refine bodyPost_ret (Zl Tryz.results27 rfl d2.o) rfl (Zaz b0.o (d3.o.step c4.o (fun j hj e=>by omega)))
    |some r4=>
     simp only[errS,Option.isSome_some,if_true]
     obtain⟨oa,oc,g0,f9⟩:=HD.o.out
     have g8:=HX.o
     have f6:=(HU.o.block _ (Za g0) (by omega)).trans g0
     have e4:=f9.kept HU.o (fun k hk=>by
      obtain⟨L,_,q,_⟩:=f9
      have:=q.lt k hk
      intro e
      omega) (fun k hk e=>by have:=c7.o k hk;omega)
     obtain⟨x0,x1,x2,x3,x4⟩:=Zu g8
     have y2:=(Zk f6).2.2
     have g3:=V f6;have b4:=V e4
     clear g0 f9 g8 f6 e4 hst4
     go_upto_region 10 with fail
     iterate 13 go_step
     obtain⟨x,hx⟩: ∃x:SetV,x=⟨strOfNums a7,m3.1,m4.1,m3.2.1,m4.2.1⟩:=⟨_,rfl⟩
     obtain⟨L,p5,n7,n0,o1⟩:=b4.o
     have i9:=n7.lt
     have o2:x.fine:=by
      have:=g5.o
      rw[h8.o,←hx] at this
      exact this
     have o9:=s6.o
     have r5:ob<w9.heap.size:=Za g3.o
     have l1:elC (x,.slice ua um uc,.slice va vm vc)=[.string (strOfNums a7),.bool m3.1,.bool m4.1,.slice ua um uc,.slice va vm vc]:=by rw[hx];rfl
     obtain⟨i0,o8,p7,j1,o5⟩:=info_parts Tryz.info73p
     refine wpList_append_lies _ rfl (.tmp 61) (.tmp 63) 54 rfl (ob+1) 73 i0 _ 5 72 Tryz.underlying54 o8 p7 j1 o5 rfl (by omega) (.slice oa l.length oc) _ _ rfl (n7.alloc _) ⟨w9.heap.size,0,none⟩ 1 1 (elC (x,.slice ua um uc,.slice va vm vc)) rfl
      rfl (World.news_of_block (cs:=(elC (x,.slice ua um uc,.slice va vm vc)).toArray) (t:=73) (fr:=(0,0)) (by rw[l1];exact heap_alloc_new _ _)) (by rw[l1];simp[Value.oneCell']) (by omega) (by unfold maxLen;omega) (by omega) (by simp;omega) (w9.heap.size+1) (by simp) ?_
     intro g j0 f5 h6 d9 q0 t1
     have b8:Upd (fun k=>(Value.slice oa l.length oc).ownBlock=some k) w9 f5:=((Upd.refl _ w9).alloc _).trans (Upd.of_grown d9 (fun k hk=>hk))
     have c2:=(b8.block _ r5 (fun e=>by have:=i9 ob e;omega)).trans g3.o
     have r6:ob<g:=by
      rcases q0 with e | e
      ·have:=i9 g e;omega
      ·omega
     have y2:=(Zk c2).2.2
     have g2:f5.frozen? ⟨ob,2,none⟩=false:=Zb c2
     have g1: ∀k,C k→ ¬(Value.slice oa l.length oc).ownBlock=some k:=fun k hk e=>by have:=i9 k e;have:=c7.o k hk;omega
     have j2:SetRow f5 (ob+1) C (.slice (some ⟨g,0,none⟩) (l.length+1) j0) (l++[x]):=by
      refine⟨L++[(x,.slice ua um uc,.slice va vm vc)],by rw[List.map_append,p5];rfl,?_,fun y hy=>?_,fun y hy=>?_⟩
      ·rw[List.flatMap_append,List.length_append]
       simpa using h6
      ·rw[List.mem_append] at hy
       rcases hy with hy | hy
       ·exact⟨(n0 y hy).1.kept b8 g1,(n0 y hy).2.kept b8 g1⟩
       ·simp only[List.mem_singleton] at hy
        subst hy
        refine⟨?_,?_⟩
        ·have:=M1.out.kept b8 g1;rw[hx];exact this
        ·have:=M2.out.kept b8 g1;rw[hx];exact this
      ·rw[List.mem_append] at hy
       rcases hy with hy | hy
       ·exact o1 y hy
       ·simp only[List.mem_singleton] at hy
        subst hy
        exact o2
     have l2:=V j2;have i3:=V c2;have i1:=V b8;have p4:=V g1;have m7:=V i9;have r3:=V hx;have k8:=V d7;have t5:=V o9
     clear j2 c2 b8 g1 h6 d9 q0 o8 p7 j1 o5 p5 n7 n0 o1 i9 l1 o2 hx x0 x1 x2 x3 x4 d7 o9
     have t3:IntKind.u8.wrap ((k:Int)+1)=(k:Int)+1:=by rw[IntKind.wrap_u8];omega
     go_wp2
     obtain⟨g6,e7⟩: ∃g6,g6=f5.setCell ⟨ob,2,none⟩ (.slice (some ⟨g,0,none⟩) (l.length+1) j0):=⟨_,rfl⟩
     rw[←e7]
     have d4:Upd (fun k=>k=ob) f5 g6:=by rw[e7];exact Zd f5 ob 2 _
     have i4:g6.heap[ob]?=some (.cells #[.int .u64 ev,.bool fl,.slice (some ⟨g,0,none⟩) (l.length+1) j0] 56 (0,0)):=by
      rw[e7]
      have:=Ze (i:=2) (v:=.slice (some ⟨g,0,none⟩) (l.length+1) j0) i3.o
      simpa using this
     have g9:(l++[x]).length=l.length+1:=by simp
     have q8:DcAt w r rb ob C ev fl (Zw (k+1) a8 a9).2.1 (Zw (k+1) a8 a9).2.2 (Zw (k+1) a8 a9).1 g6:=by
      have e1:=k8.o
      rw[e1,←r3.o]
      have u1:Upd (fun j=>j=r∨j=rb∨(Value.slice oa l.length oc).ownBlock=some j) wr f5:=(HU.o.mono (fun _ _ e=>by rcases e with e | e;exact .inl e;exact .inr (.inl e))).trans (i1.o.mono (fun _ _ e=>.inr (.inr e)))
      have n1: ∀j,j≤ob→ ¬(Value.slice oa l.length oc).ownBlock=some j:=fun j hj e=>by have:=m7.o j e;omega
      refine⟨(HR.o.kept i1.o (n1 rb (by omega)) (n1 r (by omega)) p4.o).kept d4 (by omega) (by omega) (fun j hj e=>by have:=c7.o j hj;omega),⟨_,_,by rw[g9];exact i4,by rw[g9];exact l2.o.kept d4 (fun j hj e=>by simp[Value.ownBlock] at hj;omega) (fun j hj e=>by have:=c7.o j hj;omega)⟩,?_,?_,?_⟩
      ·refine(d4.block _ ?_ (by omega)).trans ((u1.block _ (Za HD.o.res) ?_).trans HD.o.res)
       ·have:=Za HD.o.res;have:=u1.size;omega
       ·intro e
        rcases e with e | e | e
        ·omega
        ·omega
        ·exact n1 _ (by omega) e
      ·exact(HD.o.row.kept u1 (fun j hj e=>by
        have:=c7.o j hj
        rcases e with e | e | e
        ·omega
        ·omega
        ·exact p4.o j hj e)).kept d4 (fun j hj e=>by have:=c7.o j hj;omega)
      ·refine(HD.o.upd.step u1 (fun j hj e=>?_)).step d4 (fun j hj e=>by omega)
       rcases e with e | e | e
       ·omega
       ·omega
       ·exact n1 j (by omega) e
     go_roundg (b7 - (k+1))
     case measure=>omega
     case rel=>exact⟨k+1,by omega,rfl,congrArg _ (by omega),q8⟩
  ·obtain rfl:k=b7:=by omega
   obtain⟨st,e8⟩: ∃st,st=(Zw k a8 a9).2.1:=⟨_,rfl⟩
   obtain⟨b5,c5⟩: ∃b5,b5=(Zw k a8 a9).2.2:=⟨_,rfl⟩
   obtain⟨l,e2⟩: ∃l,l=(Zw k a8 a9).1:=⟨_,rfl⟩
   have i5:lenS st≤bs.length:=by rw[e8];exact Nat.le_trans (Zjf _ _ _) r1.o
   have e9:=b2.o
   rw[←e8,←c5,←e2] at HD e9
   have b2:=V e9;have m9:=V i5
   have l7:l.length≤255:=by rw[e2,Zc7];omega
   have a0:=V HD.o.res
   have d3:=V HD.o.upd
   have c0:=(Zg HD.o.rbs.1).1
   clear e8 c5 e2 i5 e9
   go_wp2_with (go_at_call 94;fail)
   refine(Zsi wr HD.o.rbs.2.2.2).mono ?_
   rintro e wo ⟨rfl,rfl⟩
   simp only[]
   cases st with
   |none=>
    simp only[errS,Option.isSome_none,Bool.false_eq_true,if_false]
    have b0:=V (Zhc b2.o)
    go_upto_region 13 with fail
    iterate 4 go_step
    refine wpList_store_mid rfl 56 (.tmp 2) (.tmp 74) rfl w.heap.size 0 #[.int .u64 0,.bool false,.slice none 0 0] rfl rfl (by have q:=Zq a0.o;exact q) Z9 (by simp[Value.oneCell']) ?_
    have a6:=Zi (vs:=[.int .u64 0,.bool false,.slice none 0 0]) a0.o rfl
    have a5:=Upd.setCells (F:=fun k=>k=w.heap.size) (b:=w.heap.size) rfl [.int .u64 0,.bool false,.slice none 0 0] 0 (Upd.refl _ wr)
    have b3:=run_loadVar_mid (P:=Tryz.prog) (wr.setCells w.heap.size 0 [.int .u64 0,.bool false,.slice none 0 0]) w.heap.size 0 56 [.int .u64 0,.bool false,.slice none 0 0] _ (Zh a6) Tryz.underlying56 rfl Z9
    have d2:=V b3;have c4:=V a5
    clear a6 a5 b3
    go_wp2
    refine bodyPost_ret (Zl Tryz.results27 rfl d2.o) rfl (Zaz b0.o (d3.o.step c4.o (fun j hj e=>by omega)))
   |some r4=>
    simp only[errS,Option.isSome_some,if_true]
    have c1:=(Zg HD.o.rbs.1).2
    cases b5 with
    |true=>
     have b0:=V (Zcj b2.o rfl)
     go_upto_region 15 with fail
     iterate 4 go_step
     refine wpList_store_mid rfl 56 (.tmp 2) (.tmp 93) rfl w.heap.size 0 #[.int .u64 0,.bool false,.slice none 0 0] rfl rfl (by have q:=Zq a0.o;exact q) Z9 (by simp[Value.oneCell']) ?_
     have a6:=Zi (vs:=[.int .u64 0,.bool false,.slice none 0 0]) a0.o rfl
     have a5:=Upd.setCells (F:=fun k=>k=w.heap.size) (b:=w.heap.size) rfl [.int .u64 0,.bool false,.slice none 0 0] 0 (Upd.refl _ wr)
     have b3:=run_loadVar_mid (P:=Tryz.prog) (wr.setCells w.heap.size 0 [.int .u64 0,.bool false,.slice none 0 0]) w.heap.size 0 56 [.int .u64 0,.bool false,.slice none 0 0] _ (Zh a6) Tryz.underlying56 rfl Z9
     have d2:=V b3;have c4:=V a5
     clear a6 a5 b3
     go_wp2
     refine bodyPost_ret (Zl Tryz.results27 rfl d2.o) rfl (Zaz b0.o (d3.o.step c4.o (fun j hj e=>by omega)))
    |false=>
     go_wp2_with (go_at_call 95;fail)
     refine(Zt6 wr HD.o.rbs.2.2.2 (Nat.le_trans m9.o hl)).mono ?_
     rintro e n6 ⟨rfl,hu⟩
     have m6:=V hu
     have a0:=V (kb hu a0.o)
     have d3:=V (d3.o.trans hu)
     obtain⟨oa,oc,g0,f9⟩:=HD.o.out
     have c8:=kb hu g0
     have b1:=f9.kept hu n3Z n3Z
     obtain⟨z0,z1,z2⟩:=Zk c8
     have g3:=V c8;have b4:=V b1
     clear hu g0 f9 c8 b1
     simp only[]
     by_cases l6:0<r4.length
     ·have b0:=V (Zcj b2.o (by simp[l6]))
      have l9:(r4.length:Int) > 0:=by omega
      go_upto_region 15 with fail
      iterate 4 go_step
      refine wpList_store_mid rfl 56 (.tmp 2) (.tmp 93) rfl w.heap.size 0 #[.int .u64 0,.bool false,.slice none 0 0] rfl rfl (by have q:=Zq a0.o;exact q) Z9 (by simp[Value.oneCell']) ?_
      have a6:=Zi (vs:=[.int .u64 0,.bool false,.slice none 0 0]) a0.o rfl
      have a5:=Upd.setCells (F:=fun k=>k=w.heap.size) (b:=w.heap.size) rfl [.int .u64 0,.bool false,.slice none 0 0] 0 (Upd.refl _ n6)
      have b3:=run_loadVar_mid (P:=Tryz.prog) (n6.setCells w.heap.size 0 [.int .u64 0,.bool false,.slice none 0 0]) w.heap.size 0 56 [.int .u64 0,.bool false,.slice none 0 0] _ (Zh a6) Tryz.underlying56 rfl Z9
      have d2:=V b3;have c4:=V a5
      clear a6 a5 b3
      go_wp2
      refine bodyPost_ret (Zl Tryz.results27 rfl d2.o) rfl (Zaz b0.o (d3.o.step c4.o (fun j hj e=>by omega)))
     ·have l9: ¬((r4.length:Int) > 0):=by omega
      have q9:=V l6
      have hs:=b4.o.setsAt.setsIn
      have j5:=V (Zgt (B:=⟨ev,fl,l⟩) (c:=oc) n6 hs (by simp only;omega) (fun b o e=>by
       obtain⟨L,_,q,_⟩:=b4.o
       subst e
       exact(q.lt b rfl).2))
      unfold batchV at j5
      have r7:decide (0<r4.length)=false:=decide_eq_false l6
      have s8:r4.length≤0:=by omega
      clear hs
      obtain⟨rg,n5⟩: ∃rg,rg=(⟨ev,fl,l⟩:BatchV).right:=⟨_,rfl⟩
      rw[←n5] at j5
      have p9:=V n5
      clear n5
      go_wp2_with (go_at_call 81;fail)
      refine j5.o.mono ?_
      rintro e k5 ⟨rfl,hu⟩
      have l5:=V hu
      have a0:=V (kb hu a0.o)
      have d3:=V (d3.o.trans hu)
      have c8:=kb hu g3.o
      have b1:=b4.o.kept hu n3Z n3Z
      obtain⟨z0,z1,z2⟩:=Zk c8
      have g3:=V c8;have b4:=V b1
      clear hu c8 b1 j5
      simp only[]
      cases rg with
      |false=>
       have b0:=V (Zcj b2.o (by rw[←p9.o];simp))
       go_upto_region 15 with fail
       iterate 4 go_step
       refine wpList_store_mid rfl 56 (.tmp 2) (.tmp 93) rfl w.heap.size 0 #[.int .u64 0,.bool false,.slice none 0 0] rfl rfl (by have q:=Zq a0.o;exact q) Z9 (by simp[Value.oneCell']) ?_
       have a6:=Zi (vs:=[.int .u64 0,.bool false,.slice none 0 0]) a0.o rfl
       have a5:=Upd.setCells (F:=fun k=>k=w.heap.size) (b:=w.heap.size) rfl [.int .u64 0,.bool false,.slice none 0 0] 0 (Upd.refl _ k5)
       have b3:=run_loadVar_mid (P:=Tryz.prog) (k5.setCells w.heap.size 0 [.int .u64 0,.bool false,.slice none 0 0]) w.heap.size 0 56 [.int .u64 0,.bool false,.slice none 0 0] _ (Zh a6) Tryz.underlying56 rfl Z9
       have d2:=V b3;have c4:=V a5
       clear a6 a5 b3
       go_wp2
       refine bodyPost_ret (Zl Tryz.results27 rfl d2.o) rfl (Zaz b0.o (d3.o.step c4.o (fun j hj e=>by omega)))
      |true=>
       have d0:=Zqh b2.o (by rw[←p9.o,decide_eq_false q9.o];rfl)
       have b0:=V d0
       clear d0
       go_upto_region 16 with fail
       iterate 4 go_step
       refine wpList_store_mid rfl 56 (.tmp 2) (.tmp 94) rfl w.heap.size 0 #[.int .u64 ev,.bool fl,.slice oa l.length oc] rfl rfl (by have q:=Zq a0.o;exact q) Z9 (by simp[Value.oneCell']) ?_
       have a6:=Zi (vs:=[.int .u64 ev,.bool fl,.slice oa l.length oc]) a0.o rfl
       have a5:=Upd.setCells (F:=fun k=>k=w.heap.size) (b:=w.heap.size) rfl [.int .u64 ev,.bool fl,.slice oa l.length oc] 0 (Upd.refl _ k5)
       have b3:=run_loadVar_mid (P:=Tryz.prog) (k5.setCells w.heap.size 0 [.int .u64 ev,.bool fl,.slice oa l.length oc]) w.heap.size 0 56 [.int .u64 ev,.bool fl,.slice oa l.length oc] _ (Zh a6) Tryz.underlying56 rfl Z9
       have d2:=V b3;have c4:=V a5
       clear a6 a5 b3
       go_wp2
       refine bodyPost_ret (Zl Tryz.results27 rfl d2.o) rfl ?_
       have b1:=b4.o.kept c4.o (fun j hj e=>by
        obtain⟨L,_,q,_⟩:=b4.o
        have:=(q.lt j hj).1
        omega) (fun j hj e=>by have:=c7.o j hj;omega)
       have p1:=((HD.o.row.kept m6.o n3Z).kept l5.o n3Z).kept c4.o (fun j hj e=>by have:=c7.o j hj;omega)
       unfold DecAns
       rw[b0.o]
       refine⟨oa,oc,rfl,⟨C,?_,p1,fun j hj=>by have:=c7.o j hj;omega,fun b o e hk=>by
        obtain⟨L,_,q,_⟩:=b1
        obtain⟨cs,c3⟩:=p1 b hk
        rcases q.2 with ⟨e1,_⟩ | ⟨g,j0,t0,e1,_,hg,_⟩
        ·injection e1 with e1;rw[e1] at e;cases e
        ·injection e1 with e1;rw[e1] at e;injection e with e;injection e with e;subst e;rw[hg] at c3;injection c3 with c3;injection c3 with _ c3;exact absurd c3 (by decide)⟩,?_,fun b o e=>by have:=b1.addr b o e;exact⟨by omega,this.2⟩,d3.o.step c4.o (fun j hj e=>by omega)⟩
       ·intro i x hx
        obtain⟨a1,a2,a3,b,o,e,h4,h5⟩:=b1.setsAt i x hx
        exact⟨a1,a2,a3,b,o,e,by omega,h5⟩
       ·obtain⟨L,_,_,_,q⟩:=b1
        exact q
theorem Y8 {o:Oper}{a:Act}{K:Act→World→Prop}{Q:Exit→Act→World→Prop}(s x:Operand)(ho:o.op=.call {callee:=.builtin .append,args:=#[s,x],argTypes:=#[39,39]})
  {base:Nat} {vx:Value} {cs:List Int} (hs:a.eval s=v) (hown:OwnB w base v bs) (hx:a.eval x=vx) (hxx:BytesIn w vx cs) (hm:bs.length+cs.length≤1099511627776) (hbase:base≤w.heap.size)
  (h: ∀v' w',OwnB w' base v' (bs++cs)→Upd (fun k=>v.ownBlock=some k) w w'→K (a.put o.dst v') w'):o.wp Tryz.prog a w K Q:=by
 obtain⟨v',w',hr,g1,g2⟩:=Zky (ty:=o.type) hown hxx hm hbase
 exact Lib.wp_append_run w s x 39 39 ho v vx hs hx v' w' hr (h v' w' g1 g2)
theorem Zj1 (s:ByteArray):Lib.strCells s=bcells (numsOf s):=by
 simp[Lib.strCells,bcells,numsOf]
theorem Zmv {o:Oper}{a:Act}{K:Act→World→Prop}{Q:Exit→Act→World→Prop}(s x:Operand)(ho:o.op=.call {callee:=.builtin .append,args:=#[s,x],argTypes:=#[39,9]})
  {base:Nat} {nm:ByteArray} (hs:a.eval s=v) (hown:OwnB w base v bs) (hx:a.eval x=.string nm) (hm:bs.length+nm.size≤1099511627776) (hbase:base≤w.heap.size)
  (h: ∀v' w',OwnB w' base v' (bs++numsOf nm)→Upd (fun k=>v.ownBlock=some k) w w'→K (a.put o.dst v') w'):o.wp Tryz.prog a w K Q:=by
 obtain⟨i,hi,hz,a0,hb⟩:=info_parts Tryz.info5p
 obtain⟨v',w',hr,g1,g2,_⟩:=Lib.run_append_own_string (P:=Tryz.prog) w base 39 9 o.type 5 i Tryz.underlying39 Tryz.underlying9s' hi hz a0 hb v bs.length (bcells bs) hown nm (by unfold maxLen;omega) (by omega) hbase
 refine Lib.wp_append_run w s x 39 9 ho v _ hs hx v' w' hr (h v' w' ?_ (Upd.of_grown g2 (fun k hk=>hk)))
 unfold OwnB
 rw[Y6,List.length_append,Yz,←Zj1]
 exact g1
theorem Zdr (f:Bool)(w:World):Calls Tryz.prog 145 #[.bool f] w fun e w'=>e=.returned (.int .u8 (flagF f))∧w=w':=by
 cases f
 ·go_enter Tryz.func145,Tryz.ntmps145
  go_wp2
  go_ret
  exact⟨rfl,rfl⟩
 ·go_enter Tryz.func145,Tryz.ntmps145
  go_wp2
  go_ret
  exact⟨rfl,rfl⟩
theorem Zfo (w:World)(x:Int):BytesIn (w.alloc (.cells #[.int .u8 x] 5)) (.slice (some ⟨w.heap.size,0,none⟩) 1 1) [x]:=by
 refine .inr ⟨⟨w.heap.size,0,none⟩,1,rfl,by simp,by unfold maxLen;omega,fun i u hi=>?_⟩
 rw[Addr.add_mid,Nat.zero_add,Zr (Zc rfl)]
 simpa [bcells] using hi
theorem Zt {bo:Nat}{cs:Array Value}{fr:Nat×Nat}(h:OwnB W B v bs)(hb:W.heap[bo]?=some (.cells cs t fr))(ht:t≠5): ∀k,v.ownBlock=some k→k≠bo:=by
 rintro k hk rfl
 obtain⟨a0,h2⟩:=h.bytesAt.2.1 k hk
 rw[hb] at h2
 injection h2 with h2
 injection h2 with h2 h3 h4
 exact ht h3
def Keeps73 (w W:World):Prop:= ∀(k:Nat) (cs:Array Value),w.heap[k]?=some (.cells cs 73 (0,0))→W.heap[k]?=some (.cells cs 73 (0,0))
theorem Keeps73.step {W':World}(h:Keeps73 w W)(hu:Upd F W W')(hf: ∀(k:Nat) (cs:Array Value),W.heap[k]?=some (.cells cs 73 (0,0))→ ¬F k):Keeps73 w W':=fun k cs hk=>
 (hu.block _ (Za (h k cs hk)) (hf k cs (h k cs hk))).trans (h k cs hk)
def EncAt (w0 W:World)(bo:Nat)(out:List Int):Prop:=
 ∃v,W.heap[bo]?=some (.cells #[v] 39 (0,0))∧OwnB W w0.heap.size v out∧(∀k,v.ownBlock=some k→k≠bo)∧w0.heap.size≤bo∧U0 w0 W
theorem Zhs {bo xc:Nat}{xa:Option Addr}{f:Bool}{xs out:List Int}(w0 w:World)(h:EncAt w0 w bo out)(hx:BytesIn w0 (.slice xa xs.length xc) xs)(hl:xs.length≤65535)(hol:out.length≤1000000000):
  Calls Tryz.prog 146 #[.bool f,.slice xa xs.length xc,.pointer (some ⟨bo,0,none⟩)] w fun e w'=>(∃v,e=.returned v)∧EncAt w0 w' bo (out++Ye f xs)∧Keeps73 w w':=by
 obtain⟨v0,h1,h2,h3,h4,h5⟩:=h
 obtain⟨va,vm,vc,rfl⟩:=h2.bytesAt.1.slice'
 have b1:IntKind.u16.wrap (xs.length:Int)=xs.length:=by rw[IntKind.wrap_u16];omega
 have HX:=V hx;have a8:=V h3;have HB:=V h4
 obtain⟨v0,a1⟩: ∃v0,v0=Value.slice va vm vc:=⟨_,rfl⟩
 rw[←a1] at h1 h2 a8
 have hA:w.drew.heap[bo]?=some (.cells #[v0] 39 (0,0)):=h1
 have HU:=V (h5.drew);have HO:=V (show OwnB w.drew w0.heap.size v0 out from h2)
 have b0:=V a1
 have a0:RowKit.Hid (Keeps73 w w.drew):=V (fun k cs h=>h)
 clear hx h1 h2 h3 h4 h5 a1
 go_enter Tryz.func146,Tryz.ntmps146
 go_upto_region 0 with fail
 refine Zj 11 (fun W=>W.heap[bo]?=some (.cells #[v0] 39 (0,0))) [false,false,false,false,false,false,false,false,false,false,false,false] rfl (by kernel_rfl) ?_
 generalize w.drew=wd at hA HU HO a0 ⊢
 refine tqZ 0 (v0) [10,8,4] hA (fun w5 q1=>?_) ?_
 ·have c0:=Zf q1
  go_simp
 simp only[zz]
 refine tpZ 1 (.bool f) hA ?_
 simp only[zz]
 refine tpZ 5 (.slice xa xs.length xc) hA ?_
 simp only[zz]
 refine tpZ 6 (.int .i64 xs.length) hA ?_
 simp only[zz]
 refine tpZ 7 (.int .u16 xs.length) hA ?_
 simp only[zz]
 refine tpZ 9 (.slice xa xs.length xc) hA ?_
 simp only[zz]
 refine doZ 2 (fun K HKK=>?_)
 go_step
 refine(Zdr f _).mono ?_
 rintro e wf ⟨rfl,rfl⟩
 simp only[]
 refine HKK.o _ _ hA ?_
 clear HKK
 simp only[zz]
 refine doZ 3 (fun K HKK=>?_)
 go_step
 have ua:U0 wd (wd.alloc (.cells #[.int .u8 (flagF f)] 5)):=(Upd.refl _ _).alloc _
 have a7:=V (Zfo wd (flagF f))
 have hA:=kb ua hA
 have a0:=V (a0.o.step ua (fun _ _ _ e=>e))
 have HU:=V (HU.o.trans ua);have HO:=V (OwnB.keptF HO.o ua n3Z)
 refine HKK.o _ _ hA ?_
 generalize wd.alloc (.cells #[.int .u8 (flagF f)] 5)=we at a7 hA HU HO a0 ⊢
 clear ua
 clear HKK
 simp only[zz]
 refine doZ 4 (fun K HKK=>?_)
 refine Y8 (.tmp 5) (.tmp 8) rfl rfl HO.o rfl a7.o (by simp;omega) HU.o.size ?_
 intro v1 w1 g1 g2
 have hA:=(g2.block _ (Za hA) (fun e=>a8.o _ e rfl)).trans hA
 have a0:=V (a0.o.step g2 (fun k cs hk e=>Zt HO.o hk (by decide) k e rfl))
 have HU:=V (HU.o.step g2 (fun j hj e=>by have:=(HO.o.lt j e).1;omega));have HO:=V g1
 refine HKK.o _ _ hA ?_
 clear g1 g2
 clear HKK
 simp only[zz]
 refine doZ 8 (fun K HKK=>?_)
 go_step
 refine(Zfi w1 (by simp;omega) HO.o.bytesIn (by omega)).mono ?_
 rintro e w2 ⟨v2,rfl,g1,g2⟩
 have a5:=V (Za hA)
 have hA:=kb g2 hA
 have a2:=V g2.size
 have a6:=V HU.o.size
 have a0:=V (a0.o.step g2 (fun _ _ _ e=>e))
 have HU:=V (HU.o.trans g2);have HO:=V g1
 simp only[]
 refine HKK.o _ _ hA ?_
 clear g1 g2
 clear HKK
 simp only[zz]
 refine doZ 10 (fun K HKK=>?_)
 refine Y8 (.tmp 13) (.tmp 14) rfl rfl HO.o rfl (HX.o.kept HU.o) (by simp[layF_length];omega) a2.o ?_
 intro v3 w3 g1 g2
 have hA:=(g2.block _ (Za hA) (fun e=>by have:=(HO.o.lt bo e).1;have:=a5.o;omega)).trans hA
 have a0:=V (a0.o.step g2 (fun k cs hk e=>Zt HO.o hk (by decide) k e rfl))
 have HU:=V (HU.o.step g2 (fun j hj e=>by have:=(HO.o.lt j e).1;have:=a6.o;omega));have HO:=V g1
 obtain⟨ta,tm,tc,a9⟩:=g1.bytesAt.1.slice'
 refine HKK.o _ _ hA ?_
 clear g1 g2
 subst a9
 clear HKK
 simp only[zz]
 refine tlZ 11 ?_
 simp only[List.drop]
 have c0:=Zf hA
 have f0:w3.frozen? ⟨bo,0,none⟩=false:=Zb hA
 have HA:=V hA
 clear hA
 go_wp2
 refine bodyPost_end (results_none rfl _ _ _) rfl ?_
 have a3:Upd (fun k=>k=bo) w3 (w3.setCell ⟨bo,0,none⟩ (.slice ta tm tc)):=Zd w3 bo 0 _
 have a4: ∀k,(Value.slice ta tm tc).ownBlock=some k→ ¬k=bo:=fun k hk e=>by have:=(HO.o.lt k hk).1;have:=a5.o;omega
 refine⟨⟨_,rfl⟩,⟨.slice ta tm tc,?_,?_,a4,HB.o,HU.o.step a3 (fun j hj e=>by have:=HB.o;omega)⟩,a0.o.step a3 (fun k cs hk e=>by
  rw[e,HA.o] at hk
  injection hk with hk
  injection hk with _ hk _
  exact absurd hk (by decide))⟩
 ·have:=Ze (i:=0) (v:=.slice ta tm tc) HA.o
  simpa using this
 ·have:=OwnB.keptF (OwnB.mono HO.o a6.o) a3 a4
  simpa [Ye] using this
end
end Go.Proofs.YtbimkhdiplnbfaaGreat
