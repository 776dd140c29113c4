/- Walks: may a batch be: a set looked at, the names met so far in a map. -/
import Derived.Test.YtbimkhdiplnbfaaGreatO5
import Derived.Test.YtbimkhdiplnbfaaGreatO17
import Derived.Test.YtbimkhdiplnbfaaGreatO18
import Derived.Test.YtbimkhdiplnbfaaGreatO19
import Derived.Maps.Views
import Derived.Maps.OwnSet
import Derived.StringKeys
import Derived.Lib.Bytes
import Derived.Laws.BytesArg
import Derived.Deep.CutBlock
import Derived.Lib.AppendStr
open Go.Lib (hid)
set_option linter.unusedVariables false
set_option linter.unusedSimpArgs false
namespace Go.Proofs.YtbimkhdiplnbfaaGreat
set_option maxRecDepth 1000000
set_option maxHeartbeats 16000000
section
open Go.RowKit Go.Shelf
def metD (ns:List ByteArray):DataW Empty:=ns.foldl (fun D s=>D.put (.string s.data.toList) (.lit (.bool true))) (.map [])
theorem metD_snoc (ns:List ByteArray)(s:ByteArray):metD (ns++[s])=(metD ns).put (.string s.data.toList) (.lit (.bool true)):=by simp[metD]
theorem metD_isMap (ns:List ByteArray):Maps.IsMap (metD ns):=by
 have h: ∀(l:List ByteArray) (D:DataW Empty),Maps.IsMap D→Maps.IsMap (l.foldl (fun D s=>D.put (.string s.data.toList) (.lit (.bool true))) D):=by
  intro l
  induction l with
  |nil=>exact fun _ h=>h
  |cons s l ih=>exact fun D h=>ih _ (h.put _ _)
 exact h ns _ Maps.isMap_empty
theorem ba_ext {s t:ByteArray}(h:s.data.toList=t.data.toList):s=t:=by
 cases s;cases t
 simp only[ByteArray.mk.injEq]
 exact Array.toList_inj.1 h
def metB (ns:List ByteArray)(s:ByteArray):Bool:=ns.any fun t=>decide (t=s)
theorem metD_at (s:ByteArray): ∀(m:Nat) (ns:List ByteArray),ns.length=m→(metD ns).atKey (.string s.data.toList) (.lit (.bool false))=.lit (.bool (metB ns s))
 | 0,ns,h=>by
  have:=List.length_eq_zero_iff.1 h
  subst this
  rfl
 |m+1,ns,h=>by
  obtain⟨l,t,rfl⟩: ∃l t,ns=l++[t]:=by
   rcases List.eq_nil_or_concat ns with e | ⟨l,t,e⟩
   ·simp[e] at h
   ·exact⟨l,t,by rw[e];simp⟩
  rw[metD_snoc]
  by_cases e:s=t
  ·subst e
   rw[Maps.atKey_put_same (metD_isMap l) (by trivial)]
   simp[metB]
  ·have hne:(Lit.string s.data.toList)≠.string t.data.toList:=fun h=>by injection h with h;exact e (ba_ext h)
   rw[Maps.atKey_put_other hne,metD_at s m l (by simpa using h)]
   have e': ¬t=s:=fun h=>e h.symm
   simp[metB,e']
theorem Tryz.underlying225m:Tryz.prog.underlying 225=some (.map 9 4):=by kernel_rfl
theorem Tryz.underlying9s':Tryz.prog.underlying 9=some .string:=by kernel_rfl
theorem Tryz.underlying4b:Tryz.prog.underlying 4=some .bool:=by kernel_rfl
theorem look_met {w:World}{mb m:Nat}{ns:List ByteArray}{s:ByteArray}(hown:w.ownsMap Tryz.prog 9 (plainElem Tryz.prog 4) mb m (metD ns))(hs:s.size≤maxLen):
  (Instr.lookup 225 (.map (some mb)) (.string s) false).run Tryz.prog w=.ok (.bool (metB ns s)) w:=by
 have hz:(zeroValue 4).run Tryz.prog w=.ok (.bool false) w:=by kernel_rfl
 obtain⟨v,ps,hrun,hv⟩:=hown.lookup (Maps.string_keyed Tryz.underlying9s') Tryz.underlying225m (z:=.bool false) hz (plainElem_bool Tryz.underlying4b false) (key:=.string s) (WideMaps.keyOf_string_mk Tryz.underlying9s' hs)
 obtain⟨x,rfl,hx⟩:=plainElem_bool_inv Tryz.underlying4b hv
 rw[hrun]
 have:=(Prod.mk.inj hx).1
 rw[metD_at s _ ns rfl] at this
 injection this with this
 injection this with this
 rw[this]
def setV (nm:ByteArray)(was is:Bool)(oa na:Option Addr)(on oc nn nc:Nat):Value:=.agg #[.string nm,.bool was,.bool is,.slice oa on oc,.slice na nn nc]
theorem toList_length (s:ByteArray):s.toList.length=s.size:=by
 have h:s.toList=Lib.bytesOf (numsOf s):=by
  rw[←Lib.strOfNums_toList,strOf_numsOf]
 rw[h]
 simp[Lib.bytesOf,numsOf_length]
theorem toList_empty (s:ByteArray):s.toList.isEmpty=decide (s.size=0):=by
 rw[Bool.eq_iff_iff,List.isEmpty_iff,decide_eq_true_eq,←toList_length,List.length_eq_zero_iff]
def wrongB (nm:ByteArray)(was is:Bool)(on nn:Nat):Bool:=!decide (1≤nm.size∧nm.size≤24∧on≤3000∧nn≤3000∧(was=false→on=0)∧(is=false→nn=0))
theorem cells5_of {w:World}{b:Nat}{x0 x1 x2 x3 x4:Value}{t:TypeId}(h:w.heap[b]?=some (.cells #[x0,x1,x2,x3,x4] t (0,0))):w.cell? ⟨b,0,none⟩=some x0∧w.cell? ⟨b,1,none⟩=some x1∧w.cell? ⟨b,2,none⟩=some x2∧w.cell? ⟨b,3,none⟩=some x3∧w.cell? ⟨b,4,none⟩=some x4:=by simp[World.cell?,h]
theorem wrong_any {mb m k:Nat}{ns:List ByteArray}{nm:ByteArray}{was is:Bool}{oa na:Option Addr}{on oc nn nc:Nat}(w:World)(hb:w.heap[mb]?=some (.cells #[.map (some m)] 225 (0,0)))(hown:w.ownsMap Tryz.prog 9 (plainElem Tryz.prog 4) m k (metD ns))(hne:m≠mb)
  (hs:nm.size≤140737488351232) (hk:k≤1000) (ho:on≤9223372036854775807) (hn:nn≤9223372036854775807):
  Calls Tryz.prog 142 #[setV nm was is oa na on oc nn nc,.pointer (some ⟨mb,0,none⟩)] w fun e w'=>e=.returned (.bool (metB ns nm || wrongB nm was is on nn))∧w'.ownsMap Tryz.prog 9 (plainElem Tryz.prog 4) m (k+1) (metD (ns++[nm]))∧Upd (fun j=>j=m) w w':=by
 have hml:m<w.heap.size:=hown.lt
 have hmbl:=lt_of_heap hb
 obtain⟨w1,hw1⟩: ∃w1,w1=w.alloc (.cells #[.string nm,.bool was,.bool is,.slice oa on oc,.slice na nn nc] 73):=⟨_,rfl⟩
 have hu1:Upd (fun _=>False) w w1:=by rw[hw1];exact(Upd.refl _ w).alloc _
 have hx1:w1.heap[w.heap.size]?=some (.cells #[.string nm,.bool was,.bool is,.slice oa on oc,.slice na nn nc] 73 (0,0)):=by rw[hw1];exact alloc_at rfl
 have hb1:=(hu1.block _ hmbl (fun e=>e)).trans hb
 have hown1:w1.ownsMap Tryz.prog 9 (plainElem Tryz.prog 4) m k (metD ns):=by rw[hw1];exact hown.alloc _
 have hlk:=look_met hown1 (s:=nm) (by unfold maxLen;omega)
 obtain⟨met,hmet⟩: ∃x,x=metB ns nm:=⟨_,rfl⟩
 rw[←hmet] at hlk ⊢
 clear hmet
 have c0:=cells1_of hb1
 obtain⟨x0,x1,x2,x3,x4⟩:=cells5_of hx1
 have HW1:=hid hw1;have HU1:=hid hu1;have HX1:=hid hx1;have HOWN:=hid hown1;have HB:=hid hb1;have HNE:=hid hne;have HML:=hid hml
 clear hw1 hu1 hx1 hb1 hown1 hb hown hne hml
 unfold setV
 go_enter Tryz.func142,Tryz.ntmps142
 go_upto_region 1 with fail
 rw[←HW1.out]
 go_wp2_with (at_mapUpdate;refine wpList_mapUpdate_own _ rfl _ _ _ 225 rfl 9 4 (Maps.string_keyed Tryz.underlying9s') Tryz.underlying225m _ m k (metD ns) rfl HOWN.out (by unfold maxLen;omega) _ _ (.string nm.data.toList) rfl rfl (WideMaps.keyOf_string_mk Tryz.underlying9s' (by unfold maxLen;omega)) (.lit (.bool true)) [] (plainElem_bool Tryz.underlying4b true) ?_)
 intro w2 hown2 hg2
 have hu2:Upd (fun j=>j=m) w1 w2:=Upd.of_grown hg2 (fun k e=>by injection e with e;exact e.symm)
 have hx2:=(hu2.block _ (lt_of_heap HX1.out) (by have:=HML.out;omega)).trans HX1.out
 obtain⟨x0,x1,x2,x3,x4⟩:=cells5_of hx2
 have FIN:RowKit.Hid (w2.ownsMap Tryz.prog 9 (plainElem Tryz.prog 4) m (k+1) (metD (ns++[nm]))∧Upd (fun j=>j=m) w w2):=hid ⟨by rw[metD_snoc];exact hown2,(HU1.out.mono (F:=fun _=>False) (G:=fun j=>j=m) (fun _ _ e=>e.elim)).trans hu2⟩
 clear hown2 hg2 hu2 hx2 HW1 HU1 HX1 HOWN HB hlk c0
 cases met<;> cases was<;> cases is
 all_goals
  go_wp2
 all_goals
  go_ret
  refine⟨ret_bool ?_,FIN.out.1,FIN.out.2⟩
 all_goals first
 |rfl
 |rw[Bool.eq_iff_iff]
  simp only[toList_empty,wrongB,Bool.or_eq_true,Bool.not_eq_true',decide_eq_true_eq,decide_eq_false_iff_not,Bool.false_or,Bool.true_or,true_iff,Bool.false_eq_true,Bool.true_eq_false,reduceCtorEq,false_implies,true_implies,and_true,true_and]
  try (have hz0:nm.size=0:=by rw[←toList_length,‹nm.toList=[]›];rfl)
  omega
def SetAt (w:World)(b o:Nat)(x:SetV):Prop:= ∃oa oc na nc,w.cell? ⟨b,o,none⟩=some (.string x.name)∧w.cell? ⟨b,o+1,none⟩=some (.bool x.was)∧w.cell? ⟨b,o+2,none⟩=some (.bool x.is)∧
 w.cell? ⟨b,o+3,none⟩=some (.slice oa x.old.length oc)∧w.cell? ⟨b,o+4,none⟩=some (.slice na x.new.length nc)∧BytesIn w (.slice oa x.old.length oc) x.old∧BytesIn w (.slice na x.new.length nc) x.new∧Bytes x.old∧Bytes x.new
def SetsIn (w:World)(a:Option Addr)(sets:List SetV):Prop:= ∀i x,sets[i]?=some x→x.name.size≤140737488351232∧x.old.length≤140737488351232∧x.new.length≤140737488351232∧ ∃b o,a=some ⟨b,o,none⟩∧SetAt w b (o+i * 5) x
def anyWrong:List ByteArray→List SetV→Bool
 | _,[]=>false
 |ns,x :: l=>(metB ns x.name || wrongB x.name x.was x.is x.old.length x.new.length) || anyWrong (ns++[x.name]) l
theorem SetAt.kept {F:Nat→Prop}{w w':World}{b o:Nat}{x:SetV}(h:SetAt w b o x)(hu:Upd (fun _=>False) w w'):SetAt w' b o x:=by
 obtain⟨oa,oc,na,nc,h0,h1,h2,h3,h4,h5,h6,h7⟩:=h
 have kc: ∀{a:Addr} {v:Value},w.cell? a=some v→w'.cell? a=some v:=fun h=>cell_keptF hu (fun e=>e) h
 exact⟨oa,oc,na,nc,kc h0,kc h1,kc h2,kc h3,kc h4,h5.kept hu,h6.kept hu,h7⟩
theorem SetsIn.kept {w w':World}{a:Option Addr}{sets:List SetV}(h:SetsIn w a sets)(hu:Upd (fun _=>False) w w'):SetsIn w' a sets:=fun i x hx=>by
 obtain⟨h1,h2,h3,b,o,e,h4⟩:=h i x hx
 exact⟨h1,h2,h3,b,o,e,h4.kept (F:=fun _=>False) hu⟩
def IdxAns (w:World)(m:Nat)(b:Bool)(e:Ending)(w':World):Prop:= ∃i:Int,e=.returned (.int .i64 i)∧decide (0≤i)=b∧Upd (fun j=>j=m) w w'
theorem idx_any {mb m c:Nat}{a:Option Addr}{sets:List SetV}(w:World)(hb:w.heap[mb]?=some (.cells #[.map (some m)] 225 (0,0)))(hown:w.ownsMap Tryz.prog 9 (plainElem Tryz.prog 4) m 0 (metD []))(hne:m≠mb)
  (hs:SetsIn w a sets) (hl:sets.length≤900) (hfr: ∀b o,a=some ⟨b,o,none⟩→b≠m∧b≠mb):
  Calls Tryz.prog 179 #[.slice a sets.length c,.func (.func 142) #[] #[.pointer (some ⟨mb,0,none⟩)]] w (IdxAns w m (anyWrong [] sets)):=by
 have HB:=hid hb;have HOWN:=hid hown;have HNE:=hid hne;have HS:=hid hs;have HFR:=hid hfr
 clear hb hown hne hs hfr
 go_enter Tryz.func179,Tryz.ntmps179
 go_upto_region 2 with fail
 go_loopg [8] sets.length (fun gk i wr=> ∃k:Nat,k≤sets.length∧gk=sets.length - k∧i=.int .i64 k∧Upd (fun j=>j=m) w wr∧wr.ownsMap Tryz.prog 9 (plainElem Tryz.prog 4) m k (metD ((sets.take k).map SetV.name))∧anyWrong [] sets=anyWrong ((sets.take k).map SetV.name) (sets.drop k))
 case atStart=>exact⟨0,Nat.zero_le _,rfl,rfl,Upd.refl _ _,HOWN.out,rfl⟩
 case round=>
  obtain⟨k,hk,rfl,rfl,hu,ho,ha⟩:=hrel
  have HU:=hid hu;have HO:=hid ho;have HA:=hid ha
  clear hu ho ha
  by_cases hkn:k<sets.length
  ·have hkni:(k:Int)<sets.length:=by omega
   obtain⟨x,hx⟩: ∃x,sets[k]?=some x:=⟨_,List.getElem?_eq_getElem hkn⟩
   obtain⟨g1,g2,g3,b,o,ea,oa,oc,na,nc,h0,h1,h2,h3,h4,h5,h6,_⟩:=HS.out k x hx
   subst ea
   obtain⟨n1,n2⟩:=HFR.out b o rfl
   have kc: ∀{o:Nat} {v:Value},w.cell? ⟨b,o,none⟩=some v→wr.cell? ⟨b,o,none⟩=some v:=fun h=>cell_keptF HU.out n1 h
   have q0:=kc h0;have q1:=kc h1;have q2:=kc h2;have q3:=kc h3;have q4:=kc h4
   have hc:=(wrong_any (was:=x.was) (is:=x.is) (oa:=oa) (na:=na) (on:=x.old.length) (nn:=x.new.length) (oc:=oc) (nc:=nc) (nm:=x.name) wr ((HU.out.block _ (lt_of_heap HB.out) (fun e=>HNE.out e.symm)).trans HB.out) HO.out HNE.out g1 (by omega) (by omega) (by omega))
   unfold setV at hc
   have hd:anyWrong ((sets.take k).map SetV.name) (sets.drop k)=((metB ((sets.take k).map SetV.name) x.name || wrongB x.name x.was x.is x.old.length x.new.length) || anyWrong ((sets.take (k+1)).map SetV.name) (sets.drop (k+1))):=by
    have hxx:sets[k]=x:=by rw[List.getElem?_eq_getElem hkn] at hx;injection hx
    rw[List.drop_eq_getElem_cons hkn,List.take_succ_eq_append_getElem hkn,hxx]
    simp[anyWrong]
   have ht:(sets.take (k+1)).map SetV.name=(sets.take k).map SetV.name++[x.name]:=by
    have hxx:sets[k]=x:=by rw[List.getElem?_eq_getElem hkn] at hx;injection hx
    rw[List.take_succ_eq_append_getElem hkn,hxx]
    simp
   rw[←ht] at hc
   obtain⟨bb,hbb⟩: ∃bb,bb=(metB ((sets.take k).map SetV.name) x.name || wrongB x.name x.was x.is x.old.length x.new.length):=⟨_,rfl⟩
   rw[←hbb] at hc hd
   have HC:=hid hc;have HD:=hid (HA.out.trans hd)
   clear hc hd ht hbb hx
   clear h0 h1 h2 h3 h4 h5 h6 kc
   go_wp2_with (go_at_call 142;fail)
   refine HC.out.mono ?_
   rintro e w1 ⟨rfl,k1,k2⟩
   have HU1:=hid (HU.out.trans k2);have K1:=hid k1
   clear k1 k2 HC
   simp only[]
   cases bb
   ·go_wp2
    go_roundg (sets.length - (k+1))
    case measure=>omega
    case rel=>exact⟨k+1,by omega,rfl,congrArg _ (by omega),HU1.out,K1.out,by have:=HD.out;simpa using this⟩
   ·go_wp2
    go_ret
    exact⟨_,rfl,by have:=HD.out;simp at this;rw[this];simp,HU1.out⟩
  ·obtain rfl:k=sets.length:=by omega
   go_wp2
   go_ret
   have ha:=HA.out
   rw[List.drop_of_length_le (Nat.le_refl _)] at ha
   exact⟨_,rfl,by rw[ha];rfl,HU.out⟩
theorem contains_any {mb m c:Nat}{a:Option Addr}{sets:List SetV}(w:World)(hb:w.heap[mb]?=some (.cells #[.map (some m)] 225 (0,0)))(hown:w.ownsMap Tryz.prog 9 (plainElem Tryz.prog 4) m 0 (metD []))(hne:m≠mb)
  (hs:SetsIn w a sets) (hl:sets.length≤900) (hfr: ∀b o,a=some ⟨b,o,none⟩→b≠m∧b≠mb):
  Calls Tryz.prog 143 #[.slice a sets.length c,.func (.func 142) #[] #[.pointer (some ⟨mb,0,none⟩)]] w fun e w'=>e=.returned (.bool (anyWrong [] sets))∧Upd (fun j=>j=m) w w':=by
 have HC:=hid (idx_any (c:=c) w hb hown hne hs hl hfr)
 clear hb hown hne hs hfr
 obtain⟨ab,hab⟩: ∃ab,ab=anyWrong [] sets:=⟨_,rfl⟩
 rw[←hab] at HC ⊢
 clear hab
 go_enter Tryz.func143,Tryz.ntmps143
 go_wp2_with (go_at_call 179;fail)
 refine HC.out.mono ?_
 rintro e w1 ⟨i,rfl,hi,hu⟩
 have HI:=hid hi;have HU:=hid hu
 clear hi hu HC
 simp only[]
 go_wp2
 go_ret
 exact⟨ret_bool HI.out,HU.out⟩
theorem anyWrong_eq: ∀(l:List SetV) (ns:List ByteArray),(!anyWrong ns l)=(l.all SetV.right && onceF l && l.all fun x=>!metB ns x.name)
 | [],ns=>rfl
 |x :: l,ns=>by
  have ih:=anyWrong_eq l (ns++[x.name])
  have e1:wrongB x.name x.was x.is x.old.length x.new.length=!x.right:=by
   simp only[wrongB,SetV.right,List.length_eq_zero_iff]
  have e2:(l.all fun y=>!metB (ns++[x.name]) y.name)=((l.all fun y=>!metB ns y.name) && !l.any fun y=>decide (y.name=x.name)):=by
   rw[Bool.eq_iff_iff]
   simp only[List.all_eq_true,Bool.and_eq_true,Bool.not_eq_true',List.any_eq_false,decide_eq_true_eq,metB,List.any_append,Bool.or_eq_false_iff,List.any_cons,List.any_nil,Bool.or_false,decide_eq_false_iff_not]
   constructor
   ·exact fun h=>⟨fun y hy=>(h y hy).1,fun y hy e=>(h y hy).2 e.symm⟩
   ·exact fun h y hy=>⟨h.1 y hy,fun e=>h.2 y hy e.symm⟩
  simp only[anyWrong,e1,Bool.not_or,ih,e2,List.all_cons,onceF,Bool.not_not]
  cases metB ns x.name<;> cases x.right<;> cases l.all SetV.right<;> cases onceF l<;> cases (l.all fun y=>!metB ns y.name)<;> cases (l.any fun y=>decide (y.name=x.name))<;> rfl
theorem right_eq (b:BatchV):b.right=(decide (b.epoch≤4611686018427387904) && decide (b.sets.length≤48) && !anyWrong [] b.sets):=by
 have:(b.sets.all fun x=>!metB [] x.name)=true:=by simp[metB]
 rw[anyWrong_eq,this,Bool.and_true]
 simp only[BatchV.right,Bool.and_assoc]
def batchV (b:BatchV)(a:Option Addr)(c:Nat):Value:=.agg #[.int .u64 b.epoch,.bool b.large,.slice a b.sets.length c]
theorem cells3_of {w:World}{b:Nat}{x0 x1 x2:Value}{t:TypeId}(h:w.heap[b]?=some (.cells #[x0,x1,x2] t (0,0))):w.cell? ⟨b,0,none⟩=some x0∧w.cell? ⟨b,1,none⟩=some x1∧w.cell? ⟨b,2,none⟩=some x2:=by simp[World.cell?,h]
theorem checked_any {c:Nat}{a:Option Addr}{B:BatchV}(w:World)(hs:SetsIn w a B.sets)(hl:B.sets.length≤900)(hal: ∀b o,a=some ⟨b,o,none⟩→b<w.heap.size):
  Calls Tryz.prog 81 #[batchV B a c] w fun e w'=>e=.returned (.bool B.right)∧Upd (fun _=>False) w w':=by
 rw[right_eq]
 have HS:=hid hs;have HAL:=hid hal
 clear hs hal
 obtain⟨w1,hw1⟩: ∃w1,w1=((w.alloc (.cells #[.int .u64 B.epoch,.bool B.large,.slice a B.sets.length c] 56)).alloc (.map #[] 0)).alloc (.cells #[.map (some (w.heap.size+1))] 225):=⟨_,rfl⟩
 have hu1:Upd (fun _=>False) w w1:=by rw[hw1];exact(((Upd.refl _ w).alloc _).alloc _).alloc _
 have hx1:w1.heap[w.heap.size]?=some (.cells #[.int .u64 B.epoch,.bool B.large,.slice a B.sets.length c] 56 (0,0)):=by rw[hw1];exact(alloc_lt (by simp;omega)).trans ((alloc_lt (by simp)).trans (alloc_at rfl))
 have hb1:w1.heap[w.heap.size+2]?=some (.cells #[.map (some (w.heap.size+1))] 225 (0,0)):=by rw[hw1];exact alloc_at (by simp)
 have hm1:w1.ownsMap Tryz.prog 9 (plainElem Tryz.prog 4) (w.heap.size+1) 0 (metD []):=by
  rw[hw1]
  have:=(World.ownsMap_made (H:=Empty) (w.alloc (.cells #[.int .u64 B.epoch,.bool B.large,.slice a B.sets.length c] 56)) Tryz.prog 9 (plainElem Tryz.prog 4)).alloc (.cells #[.map (some (w.heap.size+1))] 225)
  have e:(metD []:DataW Empty)=.map []:=rfl
  rw[e]
  simpa using this
 have HC:=hid (contains_any (c:=c) w1 hb1 hm1 (by omega) (HS.out.kept hu1) hl (fun b o e=>by have:=HAL.out b o e;omega))
 have hmk: ∀W:World,(Instr.makeMap 225 none).run Tryz.prog W=.ok (.map (some W.heap.size)) (W.alloc (.map #[] 0)):=fun W=>by kernel_rfl
 obtain⟨y0,y1,y2⟩:=cells3_of hx1
 have HW1:=hid hw1;have HU1:=hid hu1
 obtain⟨aw,haw⟩: ∃aw,aw=anyWrong [] B.sets:=⟨_,rfl⟩
 rw[←haw] at HC ⊢
 clear hw1 hu1 hx1 hb1 hm1 haw
 unfold batchV
 go_enter Tryz.func81,Tryz.ntmps81
 go_upto_region 3 with fail
 rw[←HW1.out]
 by_cases h1:B.epoch≤4611686018427387904
 ·by_cases h2:B.sets.length≤48
  ·have h2':(B.sets.length:Int)≤48:=by omega
   have HH:=hid (And.intro h1 h2)
   go_wp2_with (go_at_call 143;fail)
   refine HC.out.mono ?_
   rintro e w2 ⟨rfl,hu⟩
   have HU:=hid hu
   clear hu HC
   simp only[]
   go_wp2
   go_ret
   have hh:=HH.out
   exact⟨ret_bool (by simp[hh.1,hh.2]),HU1.out.step HU.out (fun j hj e=>by omega)⟩
  ·have h2': ¬((B.sets.length:Int)≤48):=by omega
   have HH:=hid h2
   go_wp2
   go_ret
   have hh:=HH.out
   exact⟨ret_bool (by simp[hh]),HU1.out⟩
 ·have HH:=hid h1
  go_wp2
  go_ret
  have hh:=HH.out
  exact⟨ret_bool (by rw[show decide (B.epoch≤4611686018427387904)=false from decide_eq_false (by omega)];rfl),HU1.out⟩
def setS (st:Option (List Int))(bad:Bool):SetV×Option (List Int)×Bool:=
 let nm:=takeS (numS 1 st).1.toNat (numS 1 st).2
 let o:=maybeS nm.2 bad
 let x:=maybeS o.2.2.1 o.2.2.2
 (⟨strOfNums nm.1,o.1,x.1,o.2.1,x.2.1⟩,x.2.2.1,x.2.2.2)
def setsS:Nat→Option (List Int)→Bool→List SetV×Option (List Int)×Bool
 | 0,st,bad=>([],st,bad)
 |n+1,st,bad=>let x:=setS st bad;let l:=setsS n x.2.1 x.2.2;(x.1 :: l.1,l.2.1,l.2.2)
theorem takeS_none (n:Nat):takeS n none=([],none):=rfl
theorem numS_none (n:Nat):numS n none=(0,none):=rfl
theorem maybeS_none (bad:Bool):(maybeS none bad).2.2.1=none:=rfl
theorem setS_none (bad:Bool):(setS none bad).2.1=none:=rfl
theorem setsS_none: ∀(n:Nat) (bad:Bool),(setsS n none bad).2.1=none
 | 0,_=>rfl
 |n+1,bad=>setsS_none n _
theorem takeS_some (n:Nat)(l:List Int):takeS n (some l)=match Prs.take n l with | none=>([],none) | some (c,r)=>(c,some r):=by
 simp only[takeS,Prs.take]
 split<;> rfl
theorem numS_some (n:Nat)(l:List Int):numS n (some l)=match numP n l with | none=>(0,none) | some (c,r)=>(c,some r):=by
 simp only[numS,takeS_some,numP,Prs.bind,Prs.ret]
 cases Prs.take n l<;> rfl
theorem maybeS_some (l:List Int)(bad:Bool):match maybeP l with
  |none=>(maybeS (some l) bad).2.2.1=none
  |some (v,r)=>maybeS (some l) bad=(v.1 == 1,v.2,some r,bad || decide (1<v.1)):=by
 simp only[maybeP,maybeS,Prs.bind,Prs.ret,numS_some]
 cases h1:numP 1 l with
 |none=>simp[numS_none,takeS_none]
 |some y1=>
  simp only[numS_some]
  cases h2:numP 2 y1.2 with
  |none=>simp[takeS_none]
  |some y2=>
   simp only[takeS_some]
   cases h3:Prs.take y2.1.toNat y2.2 with
   |none=>simp
   |some y3=>simp
theorem setS_some (l:List Int)(bad:Bool):match setP l with
  |none=>(setS (some l) bad).2.1=none
  |some (v,r)=>setS (some l) bad=(v.1,some r,bad || v.2):=by
 simp only[setP,setS,Prs.bind,Prs.ret,numS_some]
 cases h1:numP 1 l with
 |none=>simp[takeS_none,maybeS_none]
 |some y1=>
  simp only[takeS_some]
  cases h2:Prs.take y1.1.toNat y1.2 with
  |none=>simp[maybeS_none]
  |some y2=>
   have q:=maybeS_some y2.2 bad
   cases h3:maybeP y2.2 with
   |none=>
    rw[h3] at q
    simp only[h3,q,maybeS_none]
   |some y3=>
    rw[h3] at q
    simp only[q]
    have q2:=maybeS_some y3.2 (bad || decide (1<y3.1.1))
    cases h4:maybeP y3.2 with
    |none=>
     rw[h4] at q2
     simp only[h3,h4,q2]
    |some y4=>
     rw[h4] at q2
     simp only[h3,h4,q2,Bool.or_assoc]
     rfl
theorem setsS_some: ∀(n:Nat) (l:List Int) (bad:Bool),match setsP n l with
  |none=>(setsS n (some l) bad).2.1=none
  |some (v,r)=>setsS n (some l) bad=(v.1,some r,bad || v.2)
 | 0,l,bad=>by simp[setsP,setsS,Prs.ret]
 |n+1,l,bad=>by
  have q:=setS_some l bad
  simp only[setsP,setsS,Prs.bind,Prs.ret]
  cases h1:setP l with
  |none=>
   rw[h1] at q
   simp only[q,setsS_none]
  |some y1=>
   rw[h1] at q
   simp only[q]
   have q2:=setsS_some n y1.2 (bad || y1.1.2)
   cases h2:setsP n y1.2 with
   |none=>
    rw[h2] at q2
    simp only[q2]
   |some y2=>
    rw[h2] at q2
    simp only[q2,Bool.or_assoc]
def readAll (l:List Int):BatchV×Option (List Int)×Bool:=
 let e:=numS 8 (some l)
 let f:=numS 1 e.2
 let c:=numS 1 f.2
 let s:=setsS c.1.toNat c.2 (decide (1<f.1))
 (⟨e.1,f.1 == 1,s.1⟩,s.2.1,s.2.2)
theorem decF_read (l:List Int):decF l=match (readAll l).2.1 with
  |none=>(BatchV.zero,7)
  |some r=>if(readAll l).2.2 || decide (0<r.length) || !(readAll l).1.right then(BatchV.zero,2) else((readAll l).1,0):=by
 simp only[decF,batchP,readAll,Prs.bind,Prs.ret,numS_some]
 cases h1:numP 8 l with
 |none=>simp[numS_none,setsS_none]
 |some y1=>
  simp only[numS_some]
  cases h2:numP 1 y1.2 with
  |none=>simp[numS_none,setsS_none]
  |some y2=>
   simp only[numS_some]
   cases h3:numP 1 y2.2 with
   |none=>simp[setsS_none]
   |some y3=>
    have q:=setsS_some y3.1.toNat y3.2 (decide (1<y2.1))
    cases h4:setsP y3.1.toNat y3.2 with
    |none=>
     rw[h4] at q
     simp only[h4,q]
    |some y4=>
     rw[h4] at q
     simp only[q]
     have e:(y2.1 == 1)=decide (y2.1=1):=rfl
     simp only[h4,e]
theorem setsS_snoc: ∀(n:Nat) (st:Option (List Int)) (bad:Bool),setsS (n+1) st bad=((setsS n st bad).1++[(setS (setsS n st bad).2.1 (setsS n st bad).2.2).1],(setS (setsS n st bad).2.1 (setsS n st bad).2.2).2.1,(setS (setsS n st bad).2.1 (setsS n st bad).2.2).2.2)
 | 0,st,bad=>rfl
 |n+1,st,bad=>by
  rw[show setsS (n+1+1) st bad=((setS st bad).1 :: (setsS (n+1) (setS st bad).2.1 (setS st bad).2.2).1,(setsS (n+1) (setS st bad).2.1 (setS st bad).2.2).2.1,(setsS (n+1) (setS st bad).2.1 (setS st bad).2.2).2.2) from rfl]
  rw[setsS_snoc n]
  rfl
theorem setsS_stuck (n m:Nat)(st:Option (List Int))(bad:Bool)(h:(setsS n st bad).2.1=none):(setsS (n+m) st bad).2.1=none:=by
 induction m with
 |zero=>exact h
 |succ m ih=>
  rw[←Nat.add_assoc,setsS_snoc]
  simp only[ih,setS_none]
theorem setsS_length: ∀(n:Nat) (st:Option (List Int)) (bad:Bool),(setsS n st bad).1.length=n
 | 0,_,_=>rfl
 |n+1,st,bad=>by simp[setsS,setsS_length n]
end
section
open Go.RowKit
theorem Tryz.underlying9s:Tryz.prog.underlying 9=some .string:=by kernel_rfl
theorem conv_str {w:World}{v:Value}{bs:List Int}(h:BytesIn w v bs):(convert 39 9 v).run Tryz.prog w=.ok (.string (strOfNums bs)) w:=by
 rcases h with ⟨rfl,rfl⟩ | ⟨a,c,rfl,h1,h2,h3⟩
 ·rw[run_convert_bytes_string w 39 9 5 none 0 0 Tryz.underlying39 Tryz.underlying5 Tryz.underlying9s];rfl
 ·have hl:(loadCells a bs.length).run Tryz.prog w=.ok (bs.map (Value.int .u8)).toArray w:=by
   have:=run_loadCells_list (P:=Tryz.prog) w a (bcells bs) h3
   simpa [bcells] using this
  rw[run_convert_bytes_string w 39 9 5 (some a) bs.length c Tryz.underlying39 Tryz.underlying5 Tryz.underlying9s]
  rw[run_bytesToString w a bs.length c bs hl,foldl_push_bytes]
  simp[strOfNums,ByteArray.empty,ByteArray.emptyWithCapacity]
  rfl
theorem bytesOf_inj: ∀{xs ys:List Int},Bytes xs→Bytes ys→Lib.bytesOf xs=Lib.bytesOf ys→xs=ys
 | [],[],_,_,_=>rfl
 | [],_ :: _,_,_,h=>by simp[Lib.bytesOf] at h
 | _ :: _,[],_,_,h=>by simp[Lib.bytesOf] at h
 |x :: xs,y :: ys,hx,hy,h=>by
  simp only[Lib.bytesOf,List.map_cons,List.cons.injEq] at h
  have h1:=hx x (by simp)
  have h2:=hy y (by simp)
  have h3:x.toNat=y.toNat:=by
   have:=congrArg UInt8.toNat h.1
   simp at this
   omega
  have h4:=bytesOf_inj (fun z hz=>hx z (by simp[hz])) (fun z hz=>hy z (by simp[hz])) (show Lib.bytesOf xs=Lib.bytesOf ys from h.2)
  rw[h4,show x=y by omega]
theorem equal_any {v u:Value}{xs ys:List Int}(w:World)(h1:BytesIn w v xs)(h2:BytesIn w u ys)(hx:Bytes xs)(hy:Bytes ys):
  Calls Tryz.prog 24 #[v,u] w fun e w'=>e=.returned (.bool (xs == ys))∧w=w':=by
 have c1:=conv_str h1
 have c2:=conv_str h2
 have e:((strOfNums xs).toList == (strOfNums ys).toList)=(xs == ys):=by
  rw[Lib.strOfNums_toList,Lib.strOfNums_toList,Bool.eq_iff_iff,beq_iff_eq,beq_iff_eq]
  exact⟨bytesOf_inj hx hy,fun h=>by rw[h]⟩
 rw[←e]
 clear h1 h2 hx hy e
 generalize strOfNums xs=s at *
 generalize strOfNums ys=t at *
 go_enter Tryz.func24,Tryz.ntmps24
 go_wp2
 go_ret
 exact⟨rfl,rfl⟩
end
section
open Go.RowKit Go.Shelf
def RowC (w:World)(C:Nat→Prop):Prop:= ∀k,C k→ ∃cs,w.heap[k]?=some (.cells cs 5 (0,0))
theorem RowC.kept {F:Nat→Prop}{w w':World}{C:Nat→Prop}(h:RowC w C)(hu:Upd F w w')(hg: ∀k,C k→ ¬F k):RowC w' C:=fun k hk=>by
 obtain⟨cs,h1⟩:=h k hk
 exact⟨cs,(hu.block _ (lt_of_heap h1) (hg k hk)).trans h1⟩
theorem RowC.lt {w:World}{C:Nat→Prop}(h:RowC w C): ∀k,C k→k<w.heap.size:=fun k hk=>by
 obtain⟨cs,h1⟩:=h k hk
 exact lt_of_heap h1
theorem OwnB.bytesAt {w:World}{B:Nat}{v:Value}{bs:List Int}(h:OwnB w B v bs):BytesAt w (fun k=>v.ownBlock=some k) v bs∧RowC w (fun k=>v.ownBlock=some k)∧ ∀k,v.ownBlock=some k→B≤k:=by
 rcases h.2 with ⟨h1,h2⟩ | ⟨g,cap,cur,rfl,hb,hg,h1,h2,h3,h4⟩
 ·refine⟨.inl ⟨h1,List.length_eq_zero_iff.1 h2⟩,fun k hk=>?_,fun k hk=>?_⟩<;> (rw[h1] at hk;simp[Value.ownBlock] at hk)
 ·refine⟨.inr ⟨g,0,cap,rfl,rfl,h1,h2,fun i u hi=>?_⟩,fun k hk=>?_,fun k hk=>?_⟩
  ·have:=World.ownsRow.cells h rfl i u hi
   rwa [Addr.add_mid] at this
  ·simp[Value.ownBlock] at hk
   subst hk
   exact⟨_,hg⟩
  ·simp[Value.ownBlock] at hk
   omega
theorem oread_S {v:Value}{bs:List Int}(w:World)(hv:BytesIn w v bs)(hB:Bytes bs)(hl:bs.length≤1099511627776):
  Calls Tryz.prog 88 #[v] w fun e w'=>e=.returned (.pointer (some ⟨w.heap.size,0,none⟩))∧ ∃C,RdS w' w.heap.size C (some bs)∧(∀k,C k→w.heap.size<k)∧RowC w' C∧Upd (fun _=>False) w w':=by
 have hu0:Upd (fun _=>False) w (w.alloc (.cells #[.slice none 0 0,.int .i64 0] 236)):=(Upd.refl _ w).alloc _
 have HC:=hid (clone_any (w.alloc (.cells #[.slice none 0 0,.int .i64 0] 236)) hl (hv.kept hu0))
 have HBY:=hid hB
 clear hv hB
 go_enter Tryz.func88,Tryz.ntmps88
 go_wp2_with (go_at_call 99;fail)
 refine HC.out.mono ?_
 rintro e w1 ⟨u,rfl,ho,hu,hU⟩
 obtain⟨b1,b2,b3⟩:=ho.bytesAt
 obtain⟨a,m,c,rfl⟩:=b1.slice'
 have hb1:w1.heap[w.heap.size]?=some (.cells #[.slice none 0 0,.int .i64 0] 236 (0,0)):=(hU.block _ (by simp) (fun e=>e)).trans (alloc_at rfl)
 have f0:w1.frozen? ⟨w.heap.size,0,none⟩=false:=frozen_of_heap hb1
 have c0:w1.cell? ⟨w.heap.size,0,none⟩=some (.slice none 0 0):=by simp[World.cell?,hb1]
 have HB:=hid hb1;have HU:=hid (hu0.trans hU);have B1:=hid b1;have B2:=hid b2
 have B3:RowKit.Hid (∀k,(Value.slice a m c).ownBlock=some k→w.heap.size<k):=hid (fun k hk=>by have:=b3 k hk;simp at this;omega)
 clear hb1 ho hu hU hu0 HC b1 b2 b3
 simp only[]
 go_wp2
 go_ret
 have hu9:Upd (fun k=>k=w.heap.size) w1 (w1.setCell ⟨w.heap.size,0,none⟩ (.slice a m c)):=upd_own _ _ _ _
 have hcr: ∀k,(Value.slice a m c).ownBlock=some k→ ¬k=w.heap.size:=fun k hk e=>by have:=B3.out k hk;omega
 refine⟨rfl,fun k=>(Value.slice a m c).ownBlock=some k,⟨⟨fun e=>hcr _ e rfl,fun k hk=>Nat.lt_of_lt_of_le (B2.out.lt k hk) hu9.size⟩,_,?_,B1.out.kept hu9 hcr,HBY.out⟩,B3.out,B2.out.kept hu9 hcr,HU.out.step hu9 (fun k hk e=>by omega)⟩
 have:=blk_set (i:=0) (v:=.slice a m c) HB.out
 simpa using this
def SetAtC (w:World)(C:Nat→Prop)(b o:Nat)(x:SetV):Prop:= ∃oa oc na nc,w.cell? ⟨b,o,none⟩=some (.string x.name)∧w.cell? ⟨b,o+1,none⟩=some (.bool x.was)∧w.cell? ⟨b,o+2,none⟩=some (.bool x.is)∧
 w.cell? ⟨b,o+3,none⟩=some (.slice oa x.old.length oc)∧w.cell? ⟨b,o+4,none⟩=some (.slice na x.new.length nc)∧BytesAt w C (.slice oa x.old.length oc) x.old∧BytesAt w C (.slice na x.new.length nc) x.new∧Bytes x.old∧Bytes x.new
def SetsAt (w:World)(R:Nat→Prop)(C:Nat→Prop)(a:Option Addr)(sets:List SetV):Prop:= ∀i x,sets[i]?=some x→x.name.size≤140737488351232∧x.old.length≤140737488351232∧x.new.length≤140737488351232∧ ∃b o,a=some ⟨b,o,none⟩∧R b∧SetAtC w C b (o+i * 5) x
theorem SetsAt.setsIn {w:World}{R C:Nat→Prop}{a:Option Addr}{sets:List SetV}(h:SetsAt w R C a sets):SetsIn w a sets:=fun i x hx=>by
 obtain⟨h1,h2,h3,b,o,e,_,oa,oc,na,nc,k0,k1,k2,k3,k4,k5,k6,k7⟩:=h i x hx
 exact⟨h1,h2,h3,b,o,e,oa,oc,na,nc,k0,k1,k2,k3,k4,k5.bytesIn,k6.bytesIn,k7⟩
theorem SetsAt.kept {F R C:Nat→Prop}{w w':World}{a:Option Addr}{sets:List SetV}(h:SetsAt w R C a sets)(hu:Upd F w w')(hr: ∀k,R k→ ¬F k)(hc: ∀k,C k→ ¬F k):SetsAt w' R C a sets:=fun i x hx=>by
 obtain⟨h1,h2,h3,b,o,e,hb,oa,oc,na,nc,k0,k1,k2,k3,k4,k5,k6,k7⟩:=h i x hx
 have kc: ∀{o:Nat} {v:Value},w.cell? ⟨b,o,none⟩=some v→w'.cell? ⟨b,o,none⟩=some v:=fun h=>cell_keptF hu (hr b hb) h
 exact⟨h1,h2,h3,b,o,e,hb,oa,oc,na,nc,kc k0,kc k1,kc k2,kc k3,kc k4,k5.kept hu hc,k6.kept hu hc,k7⟩
theorem SetsAt.nil (w:World)(R C:Nat→Prop)(a:Option Addr):SetsAt w R C a []:=fun i x hx=>by simp at hx
def elC (y:SetV×Value×Value):List Value:=[.string y.1.name,.bool y.1.was,.bool y.1.is,y.2.1,y.2.2]
theorem elC_length (y:SetV×Value×Value):(elC y).length=5:=rfl
theorem flat_at: ∀(L:List (SetV×Value×Value)) (i j:Nat) (y:SetV×Value×Value),L[i]?=some y→j<5→(L.flatMap elC)[i * 5+j]?=(elC y)[j]?
 | [],i,j,y,h,_=>by simp at h
 |z :: L,0,j,y,h,hj=>by
  simp at h
  subst h
  rw[List.flatMap_cons,Nat.zero_mul,Nat.zero_add,List.getElem?_append_left (by rw[elC_length];exact hj)]
 |z :: L,i+1,j,y,h,hj=>by
  rw[List.flatMap_cons,List.getElem?_append_right (by rw[elC_length];omega),elC_length]
  rw[show(i+1) * 5+j - 5=i * 5+j by omega]
  exact flat_at L i j y (by simpa using h) hj
def SetV.fine (x:SetV):Prop:=x.name.size≤140737488351232∧x.old.length≤140737488351232∧x.new.length≤140737488351232∧Bytes x.old∧Bytes x.new
def SetRow (w:World)(B:Nat)(C:Nat→Prop)(sv:Value)(l:List SetV):Prop:= ∃L:List (SetV×Value×Value),L.map (·.1)=l∧w.ownsRow B 73 5 sv l.length (L.flatMap elC)∧(∀y∈L,BytesAt w C y.2.1 y.1.old∧BytesAt w C y.2.2 y.1.new)∧ ∀x∈l,x.fine
theorem SetRow.setsAt {w:World}{B:Nat}{C:Nat→Prop}{a:Option Addr}{n c:Nat}{l:List SetV}(h:SetRow w B C (.slice a n c) l):SetsAt w (fun k=>B≤k) C a l:=fun i x hx=>by
 obtain⟨L,rfl,h1,h2,h3⟩:=h
 obtain⟨g1,g2,g3,g4,g5⟩:=h3 x (List.mem_of_getElem? hx)
 simp only[List.getElem?_map,Option.map_eq_some_iff] at hx
 obtain⟨y,hy,rfl⟩:=hx
 obtain⟨k1,k2⟩:=h2 y (List.mem_of_getElem? hy)
 obtain⟨oa,oc,e1,_⟩:=k1.slice
 obtain⟨na,nc,e2,_⟩:=k2.slice
 rcases h1.2 with ⟨_,h4⟩ | ⟨g,cap,cur,e,hb,hg,m1,m2,m3,m4⟩
 ·have:=(List.getElem?_eq_some_iff.1 hy).1
  simp at h4
  subst h4
  simp at this
 ·injection e with e3 e4 e5
  subst e3
  have hc: ∀j,j<5→w.cell? ⟨g,i * 5+j,none⟩=(elC y)[j]?:=fun j hj=>by
   have:=World.ownsRow.cells h1 rfl (i * 5+j) ((elC y)[j]'(by rw[elC_length];exact hj)) (by rw[flat_at L i j y hy hj,List.getElem?_eq_getElem])
   rw[Addr.add_mid,Nat.zero_add] at this
   rw[this,List.getElem?_eq_getElem]
  refine⟨g1,g2,g3,g,0,rfl,hb,oa,oc,na,nc,?_,?_,?_,?_,?_,by rw[←e1];exact k1,by rw[←e2];exact k2,g4,g5⟩
  ·rw[Nat.zero_add];exact hc 0 (by omega)
  ·rw[Nat.zero_add];exact hc 1 (by omega)
  ·rw[Nat.zero_add];exact hc 2 (by omega)
  ·rw[←e1];rw[Nat.zero_add];exact hc 3 (by omega)
  ·rw[←e2];rw[Nat.zero_add];exact hc 4 (by omega)
theorem SetRow.nil (w:World)(B:Nat)(C:Nat→Prop):SetRow w B C (.slice none 0 0) []:=⟨[],rfl,⟨by simp,.inl ⟨rfl,rfl⟩⟩,fun y hy=>by simp at hy,fun x hx=>by simp at hx⟩
theorem SetRow.kept {F C:Nat→Prop}{w w':World}{B:Nat}{sv:Value}{l:List SetV}(h:SetRow w B C sv l)(hu:Upd F w w')(hv: ∀k,sv.ownBlock=some k→ ¬F k)(hc: ∀k,C k→ ¬F k):SetRow w' B C sv l:=by
 obtain⟨L,h0,h1,h2,h3⟩:=h
 exact⟨L,h0,ownsRow_any h1 hu hv,fun y hy=>⟨(h2 y hy).1.kept hu hc,(h2 y hy).2.kept hu hc⟩,h3⟩
/-! ### The register's reader, once more -/
theorem u8_B {rb r:Nat}{C:Nat→Prop}{st:Option (List Int)}{bad:Bool}(w:World)(h:RbS w rb r C st bad):
  Calls Tryz.prog 91 #[.pointer (some ⟨r,0,none⟩)] w fun e w'=>e=.returned (.int .u8 (numS 1 st).1)∧RbS w' rb r C (numS 1 st).2 bad∧Upd (fun k=>k=r) w w':=
 (u8_S w h.2.2.2).mono fun e w' ⟨h1,h2,h3⟩=>⟨h1,⟨(h3.block _ (lt_of_heap h.1) (fun e=>h.2.1 (show rb=r from e).symm)).trans h.1,h.2.1,h.2.2.1,h2⟩,h3⟩
theorem u64_B {rb r:Nat}{C:Nat→Prop}{st:Option (List Int)}{bad:Bool}(w:World)(h:RbS w rb r C st bad):
  Calls Tryz.prog 89 #[.pointer (some ⟨r,0,none⟩)] w fun e w'=>e=.returned (.int .u64 (numS 8 st).1)∧RbS w' rb r C (numS 8 st).2 bad∧Upd (fun k=>k=r) w w':=
 (u64_S w h.2.2.2).mono fun e w' ⟨h1,h2,h3⟩=>⟨h1,⟨(h3.block _ (lt_of_heap h.1) (fun e=>h.2.1 (show rb=r from e).symm)).trans h.1,h.2.1,h.2.2.1,h2⟩,h3⟩
theorem raw_B {rb r n:Nat}{C:Nat→Prop}{st:Option (List Int)}{bad:Bool}(w:World)(h:RbS w rb r C st bad):
  Calls Tryz.prog 92 #[.pointer (some ⟨r,0,none⟩),.int .i64 n] w fun e w'=> ∃u,e=.returned u∧BytesAt w' C u (takeS n st).1∧RbS w' rb r C (takeS n st).2 bad∧Upd (fun k=>k=r) w w':=
 (raw_S w h.2.2.2).mono fun e w' ⟨u,h1,h2,h3,h4⟩=>⟨u,h1,h2,⟨(h4.block _ (lt_of_heap h.1) (fun e=>h.2.1 (show rb=r from e).symm)).trans h.1,h.2.1,h.2.2.1,h3⟩,h4⟩
theorem takeS_len (n:Nat)(st:Option (List Int)):(takeS n st).1.length≤n:=by
 cases st with
 |none=>simp[takeS]
 |some l=>
  simp only[takeS]
  split<;> simp
  omega
theorem takeS_by {n:Nat}{st:Option (List Int)}(h: ∀bs,st=some bs→Bytes bs):Bytes (takeS n st).1:=by
 cases st with
 |none=>exact fun x hx=>by simp[takeS] at hx
 |some l=>
  simp only[takeS]
  split
  ·exact fun x hx=>by simp at hx
  ·exact fun x hx=>h l rfl x (List.mem_of_mem_take hx)
theorem maybeS_fine {st:Option (List Int)}(h: ∀bs,st=some bs→Bytes bs)(bad:Bool):(maybeS st bad).2.1.length≤65535∧Bytes (maybeS st bad).2.1∧ ∀bs,(maybeS st bad).2.2.1=some bs→Bytes bs:=by
 have h1: ∀bs,(numS 1 st).2=some bs→Bytes bs:=takeS_bytes h
 have h2: ∀bs,(numS 2 (numS 1 st).2).2=some bs→Bytes bs:=takeS_bytes h1
 have hb:=numS_bound (n:=2) h1
 refine⟨?_,takeS_by h2,takeS_bytes h2⟩
 have:=takeS_len (numS 2 (numS 1 st).2).1.toNat (numS 2 (numS 1 st).2).2
 simp only[maybeS]
 omega
theorem setS_fine {st:Option (List Int)}(h: ∀bs,st=some bs→Bytes bs)(bad:Bool):(setS st bad).1.fine∧ ∀bs,(setS st bad).2.1=some bs→Bytes bs:=by
 have h1: ∀bs,(numS 1 st).2=some bs→Bytes bs:=takeS_bytes h
 have h2: ∀bs,(takeS (numS 1 st).1.toNat (numS 1 st).2).2=some bs→Bytes bs:=takeS_bytes h1
 have hb:=numS_bound (n:=1) h
 have hl:=takeS_len (numS 1 st).1.toNat (numS 1 st).2
 obtain⟨o1,o2,o3⟩:=maybeS_fine h2 bad
 obtain⟨x1,x2,x3⟩:=maybeS_fine o3 (maybeS (takeS (numS 1 st).1.toNat (numS 1 st).2).2 bad).2.2.2
 refine⟨⟨?_,by simp only[setS];omega,by simp only[setS];omega,o2,x2⟩,x3⟩
 simp only[setS,strOfNums_size]
 omega
def RegAt (w:World)(p:Nat)(lg:Value)(ev:Int)(mv:Value)(area:Int):Prop:=w.heap[p]?=some (.cells #[lg,.int .u64 ev,mv,.int .i64 area] 172 (0,0))
theorem area_any {p:Nat}{lg mv:Value}{ev area:Int}(w:World)(h:RegAt w p lg ev mv area):
  Calls Tryz.prog 46 #[.pointer (some ⟨p,0,none⟩)] w fun e w'=>e=.returned (.int .i64 area)∧w=w':=by
 have c3:w.cell? ⟨p,3,none⟩=some (.int .i64 area):=by rw[cell_of_heap h];rfl
 clear h
 go_enter Tryz.func46,Tryz.ntmps46
 go_wp2
 go_ret
 exact⟨rfl,rfl⟩
theorem epoch_any {p:Nat}{lg mv:Value}{ev area:Int}(w:World)(h:RegAt w p lg ev mv area):
  Calls Tryz.prog 36 #[.pointer (some ⟨p,0,none⟩)] w fun e w'=>e=.returned (.int .u64 ev)∧w=w':=by
 have c1:w.cell? ⟨p,1,none⟩=some (.int .u64 ev):=by rw[cell_of_heap h];rfl
 clear h
 go_enter Tryz.func36,Tryz.ntmps36
 go_wp2
 go_ret
 exact⟨rfl,rfl⟩
def fitsF (n:Int)(m:Int):Bool:=decide (n≤40000) && decide (secsI n≤m)
theorem fits_any {a:Option Addr}{n c:Nat}{m:Int}(w:World):
  Calls Tryz.prog 97 #[.slice a n c,.int .i64 m] w fun e w'=>e=.returned (.bool (fitsF n m))∧w=w':=by
 unfold fitsF
 by_cases h:n≤40000
 ·have h1:(n:Int)≤40000:=by omega
  rw[decide_eq_true h1,Bool.true_and]
  go_enter Tryz.func97,Tryz.ntmps97
  go_wp2_with (go_at_call 113;fail)
  refine(sectors_any n w).mono ?_
  rintro e w' ⟨rfl,rfl⟩
  simp only[]
  go_wp2
  go_ret
  exact⟨rfl,rfl⟩
 ·have h1: ¬(n:Int)≤40000:=by omega
  rw[decide_eq_false h1,Bool.false_and]
  go_enter Tryz.func97,Tryz.ntmps97
  go_wp2
  go_ret
  exact⟨rfl,rfl⟩
theorem wbroken_any {q p:Nat}{X:Lg}{G:Nat→Prop}(w:World)(h:Log w q p X G):
  Calls Tryz.prog 74 #[.pointer (some ⟨q,0,none⟩)] w fun e w'=>e=.returned (.bool X.broken)∧w=w':=by
 obtain⟨PV,vs,h1,_⟩:=h
 obtain⟨c0,c1,c2,c3,c4,c5,c6,c7⟩:=cells8_of h1.main
 clear h1
 go_enter Tryz.func74,Tryz.ntmps74
 go_wp2
 go_ret
 exact⟨rfl,rfl⟩
theorem broken_any {r q p:Nat}{mv:Value}{ev area:Int}{X:Lg}{G:Nat→Prop}(w:World)(hr:RegAt w r (.pointer (some ⟨q,0,none⟩)) ev mv area)(h:Log w q p X G):
  Calls Tryz.prog 48 #[.pointer (some ⟨r,0,none⟩)] w fun e w'=>e=.returned (.bool X.broken)∧w=w':=by
 have c0:w.cell? ⟨r,0,none⟩=some (.pointer (some ⟨q,0,none⟩)):=by rw[cell_of_heap hr];rfl
 have H:=hid h
 clear hr h
 go_enter Tryz.func48,Tryz.ntmps48
 go_wp2_with (go_at_call 74;fail)
 refine(wbroken_any w H.out).mono ?_
 rintro e w' ⟨rfl,rfl⟩
 simp only[]
 go_wp2
 go_ret
 exact⟨rfl,rfl⟩
def RV (v:Value):Option (DataW Value×List MemPlace):=some (.held v,[])
theorem Tryz.underlying165:Tryz.prog.underlying 165=some (.map 9 39):=by kernel_rfl
theorem zero39 (w:World):(zeroValue 39).run Tryz.prog w=.ok (.slice none 0 0) w:=by kernel_rfl
def MapAt (w:World)(b n:Nat)(C:Nat→Prop)(M:ByteArray→Option (List Int)):Prop:= ∃D:DataW Value,w.ownsMap Tryz.prog 9 RV b n D∧RowC w C∧
 ∀s:ByteArray,s.size≤maxLen→ ∃v,D.atKey (.string s.data.toList) (.held (.slice none 0 0))=.held v∧Maps.has D (.string s.data.toList)=(M s).isSome∧BytesAt w C v ((M s).getD [])
theorem MapAt.look {w:World}{b n:Nat}{C:Nat→Prop}{M:ByteArray→Option (List Int)}(h:MapAt w b n C M){s:ByteArray}(hs:s.size≤maxLen):
  ∃v,(Instr.lookup 165 (.map (some b)) (.string s) true).run Tryz.prog w=.ok (.tuple #[v,.bool (M s).isSome]) w∧BytesAt w C v ((M s).getD []):=by
 obtain⟨D,h1,_,h2⟩:=h
 obtain⟨v,k1,k2,k3⟩:=h2 s hs
 obtain⟨v',ps,hr,hv⟩:=h1.look_ok (Maps.string_keyed Tryz.underlying9s') Tryz.underlying165 (zero39 w) (zd:=.held (.slice none 0 0)) (zp:=[]) rfl (key:=.string s) (WideMaps.keyOf_string_mk Tryz.underlying9s' hs)
 rw[k1,RV] at hv
 have e:v'=v:=by
  injection hv with hv
  injection hv with hv
  injection hv
 subst e
 rw[k2] at hr
 exact⟨_,hr,k3⟩
theorem value_any {p b n:Nat}{C:Nat→Prop}{lg:Value}{ev area:Int}{M:ByteArray→Option (List Int)}{s:ByteArray}(w:World)(h:RegAt w p lg ev (.map (some b)) area)(hm:MapAt w b n C M)(hs:s.size≤maxLen)(hl:((M s).getD []).length≤1099511627776):
  Calls Tryz.prog 34 #[.pointer (some ⟨p,0,none⟩),.string s] w fun e w'=> ∃u,e=.returned (.tuple #[u,.bool (M s).isSome])∧OwnB w' w.heap.size u ((M s).getD [])∧Upd (fun _=>False) w w':=by
 obtain⟨v,hlk,hv⟩:=hm.look hs
 obtain⟨va,vn,vc,rfl⟩: ∃a n c,v=.slice a n c:=by
  obtain⟨a,c,e,_⟩:=hv.slice
  exact⟨_,_,_,e⟩
 have c2:w.cell? ⟨p,2,none⟩=some (.map (some b)):=by rw[cell_of_heap h];rfl
 obtain⟨f,hf⟩: ∃f,f=(M s).isSome:=⟨_,rfl⟩
 obtain⟨bs,hbs⟩: ∃bs,bs=(M s).getD []:=⟨_,rfl⟩
 rw[←hf] at hlk ⊢
 rw[←hbs] at hv hl ⊢
 have HC:=hid (clone_any w hl hv.bytesIn)
 clear hv h hm hf hbs hs
 go_enter Tryz.func34,Tryz.ntmps34
 go_wp2_with (go_at_call 99;fail)
 refine HC.out.mono ?_
 rintro e w' ⟨u,rfl,g1,_,g3⟩
 obtain⟨ua,um,uc,rfl⟩:=g1.bytesAt.1.slice'
 have G1:=hid g1;have G3:=hid g3
 clear g1 g3
 simp only[]
 go_wp2
 go_returns
 exact⟨_,rfl,G1.out,G3.out⟩
theorem MapAt.made (w:World):MapAt (w.alloc (.map #[] 0)) w.heap.size 0 (fun _=>False) (fun _=>none):=
 ⟨_,World.ownsMap_made w _ _ _,fun k hk=>hk.elim,fun s _=>⟨.slice none 0 0,rfl,rfl,.inl ⟨rfl,rfl⟩⟩⟩
theorem lit_ne {s t:ByteArray}(h:t≠s):(Lit.string t.data.toList)≠.string s.data.toList:=by
 intro e
 injection e with e
 exact h (ByteArray.ext (Array.toList_inj.1 e))
theorem MapAt.isMapBlock {w:World}{b n:Nat}{C:Nat→Prop}{M:ByteArray→Option (List Int)}(h:MapAt w b n C M): ∃es c,w.heap[b]?=some (.map es c):=by
 obtain⟨D,⟨es,c,h1,_⟩,_⟩:=h
 exact⟨es,c,h1⟩
theorem MapAt.apart {w:World}{b n:Nat}{C:Nat→Prop}{M:ByteArray→Option (List Int)}(h:MapAt w b n C M){E:Nat→Prop}(hE:RowC w E): ∀k,E k→ ¬k=b:=by
 rintro k hk rfl
 obtain⟨es,c,h1⟩:=h.isMapBlock
 obtain⟨cs,h2⟩:=hE k hk
 rw[h1] at h2
 cases h2
theorem MapAt.rowC {w:World}{b n:Nat}{C:Nat→Prop}{M:ByteArray→Option (List Int)}(h:MapAt w b n C M):RowC w C:=h.choose_spec.2.1
def setM (M:ByteArray→Option (List Int))(s:ByteArray)(o:Option (List Int)):ByteArray→Option (List Int):=fun t=>if t=s then o else M t
theorem MapAt.put {w:World}{b n:Nat}{C E:Nat→Prop}{M:ByteArray→Option (List Int)}{s:ByteArray}{v:Value}{bs:List Int}(h:MapAt w b n C M)(hn:n<maxLen)(hs:s.size≤maxLen)(hv:BytesAt w E v bs)(hE:RowC w E):
  ∃w',(Instr.mapUpdate 165 (.map (some b)) (.string s) v).run Tryz.prog w=.ok () w'∧MapAt w' b (n+1) (fun k=>C k∨E k) (setM M s (some bs))∧Upd (fun k=>k=b) w w':=by
 have ha:=h.apart h.rowC
 have hb:=h.apart hE
 obtain⟨D,h1,h0,h2⟩:=h
 obtain⟨w',hr,g1,g2⟩:=h1.store (val:=v) (d:=.held v) (ps:=[]) (Maps.string_keyed Tryz.underlying9s') Tryz.underlying165 hn (key:=.string s) (WideMaps.keyOf_string_mk Tryz.underlying9s' hs) rfl
 have hu:Upd (fun k=>k=b) w w':=Upd.of_grown g2.grown (fun k hk=>by simpa using hk.symm)
 refine⟨w',hr,⟨_,g1,fun k hk=>hk.elim (h0.kept hu ha k) (hE.kept hu hb k),fun t ht=>?_⟩,hu⟩
 by_cases e:t=s
 ·subst e
  refine⟨v,Maps.atKey_put_same (k:=.string _) h1.isMap trivial _ _,?_,?_⟩
  ·rw[Maps.has_put_same (k:=.string _) h1.isMap trivial];simp[setM]
  ·have:=(hv.kept hu hb).mono (C':=fun k=>C k∨E k) (fun _=>.inr)
   simpa [setM] using this
 ·obtain⟨v',k1,k2,k3⟩:=h2 t ht
  refine⟨v',by rw[Maps.atKey_put_other (lit_ne e)];exact k1,by rw[Maps.has_put_other (lit_ne e),k2];simp[setM,e],?_⟩
  have:=(k3.kept hu ha).mono (C':=fun k=>C k∨E k) (fun _=>.inl)
  simpa [setM,e] using this
theorem MapAt.del {w:World}{b n:Nat}{C:Nat→Prop}{M:ByteArray→Option (List Int)}{s:ByteArray}(h:MapAt w b n C M)(hs:s.size≤maxLen)(ty:TypeId):
  ∃w',(Builtin.delete_ #[165,9] ty #[.map (some b),.string s]).run Tryz.prog w=.ok (.tuple #[]) w'∧MapAt w' b n C (setM M s none)∧Upd (fun k=>k=b) w w':=by
 have ha:=h.apart h.rowC
 obtain⟨D,h1,h0,h2⟩:=h
 obtain⟨w',hr,g1,g2⟩:=h1.drop (Maps.string_keyed Tryz.underlying9s') Tryz.underlying165 (key:=.string s) (WideMaps.keyOf_string_mk Tryz.underlying9s' hs) ty
 have hu:Upd (fun k=>k=b) w w':=Upd.of_grown g2.grown (fun k hk=>by simpa using hk.symm)
 refine⟨w',hr,⟨_,g1,h0.kept hu ha,fun t ht=>?_⟩,hu⟩
 by_cases e:t=s
 ·subst e
  exact⟨.slice none 0 0,Maps.atKey_del_same _,by rw[Maps.has_del_same];simp[setM],by simp[setM];exact .inl ⟨rfl,rfl⟩⟩
 ·obtain⟨v',k1,k2,k3⟩:=h2 t ht
  refine⟨v',by rw[Maps.atKey_del_other (lit_ne e)];exact k1,by rw[Maps.has_del_other (lit_ne e),k2];simp[setM,e],?_⟩
  have:=k3.kept hu ha
  simpa [setM,e] using this
theorem rformat_good {p area N K:Nat}{D:Dk}{F:Nat→Prop}(w:World)(hD:Dsk w p D F)(hg:D.Good N)(hok:D.Ok K)(hK:K≤1000000)(ha:4≤area∧area≤1000)(hlen:2+2 * area≤N):
  Calls Tryz.prog 47 #[.pointer (some ⟨p,0,none⟩),.int .i64 area] w fun e w'=> ∃r b q G' F',e=.returned (.tuple #[.pointer (some ⟨r,0,none⟩),.int .i64 0])∧RegAt w' r (.pointer (some ⟨q,0,none⟩)) 0 (.map (some b)) area∧MapAt w' b 0 (fun _=>False) (fun _=>none)∧
   WalG w' q p ⟨fmtH area,[[]],1,false⟩ (fmtD D area 3) G' F' N (K+20000)∧(∀k,G' k→w.heap.size≤k)∧(∀k,F' k→F k∨w.heap.size≤k)∧Upd F w w'∧w.heap.size≤b∧b<r∧(∀k,G' k→k<b)∧ ∀k,F' k→k<b:=by
 have HC:=hid (format_good w hD hg hok hK ha hlen)
 clear hD hg hok hK ha hlen
 have hmk: ∀W:World,(Instr.makeMap 165 none).run Tryz.prog W=.ok (.map (some W.heap.size)) (W.alloc (.map #[] 0)):=fun W=>run_makeMap 165 W
 go_enter Tryz.func47,Tryz.ntmps47
 go_wp2_with (go_at_call 41;fail)
 refine HC.out.mono ?_
 rintro e w1 ⟨q,G',F',rfl,h1,h2,h3,h4⟩
 have H1:=hid h1;have H2:=hid h2;have H3:=hid h3;have H4:=hid h4
 clear h1 h2 h3 h4 HC
 simp only[]
 obtain⟨w2,hw2⟩: ∃w2,w2=(w1.alloc (.map #[] 0)).alloc (.cells #[.pointer (some ⟨q,0,none⟩),.int .u64 0,.map (some w1.heap.size),.int .i64 area] 172):=⟨_,rfl⟩
 have hu2:Upd (fun _=>False) w1 w2:=by rw[hw2];exact((Upd.refl _ w1).alloc _).alloc _
 have hr2:RegAt w2 (w1.heap.size+1) (.pointer (some ⟨q,0,none⟩)) 0 (.map (some w1.heap.size)) area:=by
  unfold RegAt
  rw[hw2]
  exact alloc_at (by simp)
 have hm2:MapAt w2 w1.heap.size 0 (fun _=>False) (fun _=>none):=by
  obtain⟨D,g1,g0,g2⟩:=MapAt.made w1
  rw[hw2]
  exact⟨D,g1.alloc _,fun k hk=>hk.elim,fun s hs=>by
   obtain⟨v,k1,k2,k3⟩:=g2 s hs
   exact⟨v,k1,k2,k3.kept ((Upd.refl (fun _=>False) _).alloc _) (fun _ _ e=>e)⟩⟩
 have HW2:=hid hw2;have HU2:=hid hu2;have HR2:=hid hr2;have HM2:=hid hm2
 clear hw2 hu2 hr2 hm2
 go_wp2
 go_returns
 rw[←HW2.out]
 exact⟨_,_,q,G',F',rfl,HR2.out,HM2.out,H1.out.kept HU2.out (fun _ _ e=>e) (fun _ _ e=>e),H2.out,H3.out,H4.out.trans (HU2.out.mono (fun _ _ e=>e.elim)),H4.out.size,by omega,H1.out.wal.1.lt,H1.out.wal.2.1.lt⟩
structure DcAt (w:World) (r rb ob:Nat) (C:Nat→Prop) (ev:Int) (fl:Bool) (st:Option (List Int)) (bad:Bool) (l:List SetV) (W:World):Prop where
 rbs:RbS W rb r C st bad
 out: ∃a c,W.heap[ob]?=some (.cells #[.int .u64 ev,.bool fl,.slice a l.length c] 56 (0,0))∧SetRow W (ob+1) C (.slice a l.length c) l
 res:W.heap[w.heap.size]?=some (.cells #[.int .u64 0,.bool false,.slice none 0 0] 56 (0,0))
 row:RowC W C
 upd:Upd (fun _=>False) w W
theorem SetRow.addr {w:World}{B:Nat}{C:Nat→Prop}{a:Option Addr}{n c:Nat}{l:List SetV}(h:SetRow w B C (.slice a n c) l): ∀b o,a=some ⟨b,o,none⟩→B≤b∧b<w.heap.size:=fun b o e=>by
 obtain⟨L,_,q,_⟩:=h
 rcases q.2 with ⟨e1,_⟩ | ⟨g,cap,cur,e1,hb,hg,_⟩
 ·injection e1 with e1;rw[e1] at e;cases e
 ·injection e1 with e1;rw[e1] at e;injection e with e;injection e with e;subst e;exact⟨hb,lt_of_heap hg⟩
def DecAns (w:World)(bs:List Int)(e:Ending)(w':World):Prop:=
 ∃a c,e=.returned (.tuple #[batchV (decF bs).1 a c,.int .i64 (decF bs).2])∧(∃C,SetsAt w' (fun k=>w.heap.size≤k) C a (decF bs).1.sets∧RowC w' C∧(∀k,C k→w.heap.size≤k)∧ ∀b o,a=some ⟨b,o,none⟩→ ¬C b)∧(∀x∈(decF bs).1.sets,x.fine)∧(∀b o,a=some ⟨b,o,none⟩→w.heap.size≤b∧b<w'.heap.size)∧Upd (fun _=>False) w w'
def lenS:Option (List Int)→Nat
 |none=>0
 |some l=>l.length
theorem lenS_take (n:Nat)(st:Option (List Int)):lenS (takeS n st).2≤lenS st:=by
 cases st with
 |none=>exact Nat.le_refl _
 |some l=>
  simp only[takeS]
  split
  ·exact Nat.zero_le _
  ·simp[lenS]
theorem lenS_num (n:Nat)(st:Option (List Int)):lenS (numS n st).2≤lenS st:=lenS_take n st
theorem lenS_maybe (st:Option (List Int))(bad:Bool):lenS (maybeS st bad).2.2.1≤lenS st:=
 Nat.le_trans (lenS_take _ _) (Nat.le_trans (lenS_num _ _) (lenS_num _ _))
theorem lenS_set (st:Option (List Int))(bad:Bool):lenS (setS st bad).2.1≤lenS st:=
 Nat.le_trans (lenS_maybe _ _) (Nat.le_trans (lenS_maybe _ _) (Nat.le_trans (lenS_take _ _) (lenS_num _ _)))
theorem lenS_sets: ∀(n:Nat) (st:Option (List Int)) (bad:Bool),lenS (setsS n st bad).2.1≤lenS st
 | 0,_,_=>Nat.le_refl _
 |n+1,st,bad=>Nat.le_trans (lenS_sets n _ _) (lenS_set st bad)
theorem dec_err7 {bs:List Int}{b:BatchV}{x:Bool}(h:readAll bs=(b,none,x)):decF bs=(BatchV.zero,7):=by rw[decF_read,h]
theorem dec_err2 {bs r:List Int}{b:BatchV}{x:Bool}(h:readAll bs=(b,some r,x))(hc:(x || decide (0<r.length) || !b.right)=true):decF bs=(BatchV.zero,2):=by
 rw[decF_read,h]
 simp only[if_pos hc]
theorem dec_ok {bs r:List Int}{b:BatchV}{x:Bool}(h:readAll bs=(b,some r,x))(hc:(x || decide (0<r.length) || !b.right)=false):decF bs=(b,0):=by
 rw[decF_read,h]
 simp only[hc,Bool.false_eq_true,if_false]
theorem ans_zero {w W:World}{bs:List Int}{E:Int}(h:decF bs=(BatchV.zero,E))(hu:Upd (fun _=>False) w W):DecAns w bs (.returned (.tuple #[.agg #[.int .u64 0,.bool false,.slice none 0 0],.int .i64 E])) W:=by
 unfold DecAns
 rw[h]
 exact⟨none,0,rfl,⟨fun _=>False,SetsAt.nil _ _ _ _,fun k hk=>hk.elim,fun k hk=>hk.elim,fun b o e hk=>hk⟩,fun x hx=>by simp[BatchV.zero] at hx,fun b o e=>(by cases e),hu⟩
theorem Tryz.info73p:(Tryz.prog.info? 73).map (fun i=>(i.zero,i.size,i.bytes))=some (some (.agg #[.string ⟨#[]⟩,.bool false,.bool false,.slice none 0 0,.slice none 0 0]),5,72):=by kernel_rfl
theorem size56:(Tryz.prog.info? 56).map (·.size)=some 3:=by kernel_rfl
theorem decode_any {v:Value}{bs:List Int}(w:World)(hv:BytesIn w v bs)(hB:Bytes bs)(hl:bs.length≤1099511627776):
  Calls Tryz.prog 27 #[v] w (DecAns w bs):=by
 obtain⟨w1,hw1⟩: ∃w1,w1=w.alloc (.cells #[.int .u64 0,.bool false,.slice none 0 0] 56):=⟨_,rfl⟩
 have hu1:Upd (fun _=>False) w w1:=by rw[hw1];exact(Upd.refl _ w).alloc _
 have hr1:w1.heap[w.heap.size]?=some (.cells #[.int .u64 0,.bool false,.slice none 0 0] 56 (0,0)):=by rw[hw1];exact alloc_at rfl
 have hz1:w1.heap.size=w.heap.size+1:=by rw[hw1];simp
 have HC:=hid (oread_S w1 (hv.kept hu1) hB hl)
 rw[hz1] at HC
 have HW1:=hid hw1;have HU1:=hid hu1;have HR1:=hid hr1
 clear hv hB hw1 hu1 hr1 hz1
 go_enter Tryz.func27,Tryz.ntmps27
 go_wp2_with (go_at_call 88;fail)
 rw[←HW1.out]
 refine HC.out.mono ?_
 rintro e w2 ⟨rfl,C,h1,h2,h3,h4⟩
 simp only[]
 go_upto_region 2 with fail
 obtain⟨rb,hrb⟩: ∃rb,rb=w2.heap.size:=⟨_,rfl⟩
 obtain⟨w3,hw3⟩: ∃w3,w3=w2.alloc (.cells #[.pointer (some ⟨w.heap.size+1,0,none⟩),.bool false] 161):=⟨_,rfl⟩
 rw[←hw3,←hrb]
 obtain⟨r,hr⟩: ∃r,r=w.heap.size+1:=⟨_,rfl⟩
 rw[←hr] at hw3 h1 ⊢
 have hrlt:r<rb:=by rw[hrb];exact h1.lt
 have hClt: ∀k,C k→r<k∧k<rb:=fun k hk=>⟨by have:=h2 k hk;omega,by rw[hrb];exact h1.1.2 k hk⟩
 have hu3:Upd (fun _=>False) w2 w3:=by rw[hw3];exact(Upd.refl _ w2).alloc _
 have hb3:w3.heap[rb]?=some (.cells #[.pointer (some ⟨r,0,none⟩),.bool false] 161 (0,0)):=by rw[hw3];exact alloc_at hrb
 have hR3:RbS w3 rb r C (some bs) false:=⟨hb3,by omega,fun e=>by have:=hClt _ e;omega,h1.kept hu3 (fun e=>e) (fun _ _ e=>e)⟩
 have hz3:w3.heap.size=rb+1:=by rw[hw3,hrb];simp
 have HR3:=hid hR3
 have hN:w.heap.size<r:=by omega
 have HRW:=hid (h3.kept hu3 (fun _ _ e=>e))
 have HU3:=hid ((HU1.out.trans h4).trans hu3)
 have HRES:=hid ((hu3.block _ (by have:=lt_of_heap HR1.out;have:=h4.size;omega) (fun e=>e)).trans ((h4.block _ (lt_of_heap HR1.out) (fun e=>e)).trans HR1.out))
 have HCL:=hid hClt
 have HZ3:=hid hz3
 have c0:=(cells2_of hb3).1
 clear hw3 h1 h2 h3 h4 hClt hu3 hR3 hz3 hr hrb HC HW1 HU1 HR1 hb3
 go_wp2_with (go_at_call 89;fail)
 refine(u64_B w3 HR3.out).mono ?_
 rintro e w4 ⟨rfl,k1,k2⟩
 have c0:=(cells2_of k1.1).1
 have K1:=hid k1;have K2:=hid k2
 clear k1 k2
 simp only[]
 go_wp2_with (go_at_call 90;fail)
 refine(flag_S w4 K1.out).mono ?_
 rintro e w5 ⟨rfl,k3,k4⟩
 have K3:=hid k3;have K4:=hid k4
 clear k3 k4
 simp only[]
 obtain⟨ev,hev⟩: ∃ev,ev=(numS 8 (some bs)).1:=⟨_,rfl⟩
 obtain⟨fl,hfl⟩: ∃fl,fl=((numS 1 (numS 8 (some bs)).2).1 == 1):=⟨_,rfl⟩
 go_upto_region 3 with fail
 rw[←hev,←hfl]
 obtain⟨ob,hob⟩: ∃ob,ob=w5.heap.size:=⟨_,rfl⟩
 obtain⟨w6,hw6⟩: ∃w6,w6=w5.alloc (.cells #[.int .u64 ev,.bool fl,.slice none 0 0] 56):=⟨_,rfl⟩
 rw[←hw6,←hob]
 have hu6:Upd (fun _=>False) w5 w6:=by rw[hw6];exact(Upd.refl _ w5).alloc _
 have hout:w6.heap[ob]?=some (.cells #[.int .u64 ev,.bool fl,.slice none 0 0] 56 (0,0)):=by rw[hw6];exact alloc_at hob
 obtain⟨bd0,hbd0⟩: ∃bd0,bd0=decide (1<(numS 1 (numS 8 (some bs)).2).1):=⟨_,rfl⟩
 have hR6:RbS w6 rb r C (numS 1 (numS 8 (some bs)).2).2 bd0:=by
  have:=K3.out.kept hu6 (fun e=>e) (fun e=>e) (fun _ _ e=>e)
  rw[Bool.false_or,←hbd0] at this
  exact this
 have hu36:Upd (fun k=>k=r∨k=rb) w3 w6:=((K2.out.mono (fun _ _ e=>.inl e)).trans K4.out).trans (hu6.mono (fun _ _ e=>e.elim))
 have hobl:rb<ob:=by rw[hob];exact K3.out.lt
 obtain⟨cn,hcn⟩: ∃cn,cn=(numS 1 (numS 1 (numS 8 (some bs)).2).2).1:=⟨_,rfl⟩
 have hcb:=numS_bound (n:=1) hR6.2.2.2.bytes
 rw[←hcn] at hcb
 obtain⟨st0,hst0⟩: ∃st0,st0=(numS 1 (numS 1 (numS 8 (some bs)).2).2).2:=⟨_,rfl⟩
 have HLS:RowKit.Hid (lenS st0≤bs.length):=hid (by rw[hst0];exact Nat.le_trans (lenS_num _ _) (Nat.le_trans (lenS_num _ _) (lenS_num _ _)))
 have HC8:=hid (u8_B w6 hR6)
 rw[←hcn,←hst0] at HC8
 have HALL:RowKit.Hid (readAll bs=(⟨ev,fl,(setsS cn.toNat st0 bd0).1⟩,(setsS cn.toNat st0 bd0).2.1,(setsS cn.toNat st0 bd0).2.2)):=hid (by
  simp only[readAll,hev,hfl,hbd0,hcn,hst0])
 have HRES6:=hid ((hu36.block _ (lt_of_heap HRES.out) (by omega)).trans HRES.out)
 have HRW6:=hid (HRW.out.kept hu36 (fun k hk e=>by have:=HCL.out k hk;omega))
 have HU6:=hid (HU3.out.step hu36 (fun k hk e=>by omega))
 have HOUT:=hid hout
 have c0:=(cells2_of hR6.1).1
 clear K1 K2 K3 K4 hu6 hout hR6 hev hfl hbd0 hw6 hob hu36 HU3 HRES HRW HR3 HZ3 hcn hst0
 go_wp2_with (go_at_call 91;fail)
 refine HC8.out.mono ?_
 rintro e w7 ⟨rfl,k1,k2⟩
 have hD:DcAt w r rb ob C ev fl st0 bd0 [] w7:=by
  refine⟨k1,⟨none,0,(k2.block _ (lt_of_heap HOUT.out) (by omega)).trans HOUT.out,SetRow.nil _ _ _⟩,(k2.block _ (lt_of_heap HRES6.out) (by omega)).trans HRES6.out,HRW6.out.kept k2 (fun k hk e=>by have:=HCL.out k hk;omega),HU6.out.step k2 (fun k hk e=>by omega)⟩
 have HD:=hid hD
 have hci:cn≤255:=by omega
 have hci0:0≤cn:=hcb.1
 clear k1 k2 hD HC8 HOUT HRES6 HRW6 HU6 hcb
 simp only[]
 go_upto_region 4 with fail
 obtain⟨cnt,rfl⟩: ∃cnt:Nat,cn=cnt:=⟨cn.toNat,by omega⟩
 rw[show((cnt:Int)).toNat=cnt by omega] at HALL
 go_loopg [24] cnt (fun gk i wr=> ∃k:Nat,k≤cnt∧gk=cnt - k∧i=.int .u8 k∧DcAt w r rb ob C ev fl (setsS k st0 bd0).2.1 (setsS k st0 bd0).2.2 (setsS k st0 bd0).1 wr)
 case atStart=>exact⟨0,Nat.zero_le _,rfl,rfl,HD.out⟩
 case round=>
  obtain⟨k,hk,rfl,rfl,hd⟩:=hrel
  have HD:=hid hd
  clear hd
  by_cases hkn:k<cnt
  ·have hkni:(k:Int)<cnt:=by omega
   obtain⟨st,hst⟩: ∃st,st=(setsS k st0 bd0).2.1:=⟨_,rfl⟩
   obtain⟨bad,hbad⟩: ∃bad,bad=(setsS k st0 bd0).2.2:=⟨_,rfl⟩
   obtain⟨l,hl9⟩: ∃l,l=(setsS k st0 bd0).1:=⟨_,rfl⟩
   have hsn:=setsS_snoc k st0 bd0
   rw[←hst,←hbad,←hl9] at HD hsn
   have hll:l.length=k:=by rw[hl9];exact setsS_length _ _ _
   obtain⟨hfine,_⟩:=setS_fine HD.out.rbs.2.2.2.bytes bad
   obtain⟨n1,hn1⟩: ∃n1,n1=(numS 1 st).1:=⟨_,rfl⟩
   obtain⟨s1,hs1⟩: ∃s1,s1=(numS 1 st).2:=⟨_,rfl⟩
   obtain⟨nmb,hnmb⟩: ∃nmb,nmb=(takeS n1.toNat s1).1:=⟨_,rfl⟩
   obtain⟨s2,hs2⟩: ∃s2,s2=(takeS n1.toNat s1).2:=⟨_,rfl⟩
   have hn1b:=numS_bound (n:=1) HD.out.rbs.2.2.2.bytes
   rw[←hn1] at hn1b
   have HC8:RowKit.Hid (∀W,RbS W rb r C st bad→Calls Tryz.prog 91 #[.pointer (some ⟨r,0,none⟩)] W fun e w'=>e=.returned (.int .u8 n1)∧RbS w' rb r C s1 bad∧Upd (fun k=>k=r) W w'):=hid (by
    intro W hW
    have q:=u8_B W hW
    rw[←hn1,←hs1] at q
    exact q)
   have hnn:((n1.toNat:Nat):Int)=n1:=by omega
   have HC10:RowKit.Hid (∀W,RbS W rb r C s1 bad→Calls Tryz.prog 92 #[.pointer (some ⟨r,0,none⟩),.int .i64 n1] W fun e w'=> ∃u,e=.returned u∧BytesAt w' C u nmb∧RbS w' rb r C s2 bad∧Upd (fun k=>k=r) W w'):=hid (by
    intro W hW
    have q:=raw_B (n:=n1.toNat) W hW
    rw[hnn,←hnmb,←hs2] at q
    exact q)
   have hcv:IntKind.i64.wrap n1=n1:=by rw[IntKind.wrap_i64];omega
   have HST:=hid (And.intro hst (And.intro hbad (And.intro hl9 (And.intro hn1 (And.intro hs1 (And.intro hnmb hs2))))))
   have HSN:=hid hsn;have HLL:=hid hll;have HFINE:=hid hfine
   have HRR:RowKit.Hid (r<wr.heap.size):=hid HD.out.rbs.2.2.2.lt
   clear hst hbad hl9 hn1 hs1 hnmb hs2 hsn hll hfine hn1b hnn
   go_upto_region 5 with fail
   go_cut [6,24] from 24 to 66 (fun x i wx=> ∃b6,x=.pointer (some ⟨b6,0,none⟩)∧i=.int .u8 k∧RbS wx rb r C s2 bad∧wx.heap[b6]?=some (.cells #[.string (strOfNums nmb),.bool false,.bool false,.slice none 0 0,.slice none 0 0] 73 (0,0))∧wr.heap.size≤b6∧Upd (fun k=>k=r) wr wx)
   case first=>
    have hA:wr.drew.heap[rb]?=some (.cells #[.pointer (some ⟨r,0,none⟩),.bool bad] 161 (0,0)):=HD.out.rbs.1
    have HR:=hid (HD.out.rbs.kept ((Upd.refl (fun _=>False) wr).drew) (fun e=>e) (fun e=>e) (fun _ _ e=>e))
    have HU:=hid ((Upd.refl (fun k=>k=r) wr).drew)
    refine wp_region_G 14 (fun W=>W.heap[rb]?=some (.cells #[.pointer (some ⟨r,0,none⟩),.bool bad] 161 (0,0))) [false,false,false,false,false,false,false,false,false,false,false,false,false,false,false] rfl (by kernel_rfl) ?_
    generalize wr.drew=wd at hA HR HU ⊢
    refine tqZ 0 (.pointer (some ⟨rb,0,none⟩)) [10,3,2,1] hA (fun w5 q1=>?_) ?_
    ·go_simp
    simp only[pZ,nZ,bZ,List.set]
    refine tqZ 1 (.pointer (some ⟨rb,0,none⟩)) [10,3,2] hA (fun w5 q1=>?_) ?_
    ·go_simp
    simp only[pZ,nZ,bZ,List.set]
    refine tqZ 2 (.pointer (some ⟨rb,0,none⟩)) [10,3] hA (fun w5 q1=>?_) ?_
    ·go_simp
    simp only[pZ,nZ,bZ,List.set]
    refine tqZ 3 (.pointer (some ⟨r,0,none⟩)) [10] hA (fun w5 q1=>?_) ?_
    ·have c0:=(cells2_of q1).1
     go_simp
    simp only[pZ,nZ,bZ,List.set]
    refine tqZ 4 (.pointer (some ⟨rb,0,none⟩)) [10,8,7,6,5] hA (fun w5 q1=>?_) ?_
    ·go_simp
    simp only[pZ,nZ,bZ,List.set]
    refine tqZ 5 (.pointer (some ⟨rb,0,none⟩)) [10,8,7,6] hA (fun w5 q1=>?_) ?_
    ·go_simp
    simp only[pZ,nZ,bZ,List.set]
    refine tqZ 6 (.pointer (some ⟨rb,0,none⟩)) [10,8,7] hA (fun w5 q1=>?_) ?_
    ·go_simp
    simp only[pZ,nZ,bZ,List.set]
    refine tqZ 7 (.pointer (some ⟨r,0,none⟩)) [10,8] hA (fun w5 q1=>?_) ?_
    ·have c0:=(cells2_of q1).1
     go_simp
    simp only[pZ,nZ,bZ,List.set]
    refine wpG_do2 (i:=8) (j:=13) rfl rfl (by kernel_rfl) rfl rfl (fun K hK=>?_) (fun K hK=>?_)
    ·have HKK:=hid hK
     clear hK
     go_step
     refine(HC8.out _ HR.out).mono ?_
     rintro e WA ⟨rfl,k1,k2⟩
     have hA:=k1.1
     have HU:=hid (HU.out.trans k2)
     have HR:=hid k1
     clear k1 k2
     simp only[]
     refine HKK.out _ _ hA ?_
     clear HKK
     simp only[pZ,nZ,bZ,List.set]
     refine tqZ 9 (.int .i64 n1) [10] hA (fun w5 q1=>?_) ?_
     ·go_simp
     simp only[pZ,nZ,bZ,List.set]
     refine wpG_do2 (i:=10) (j:=13) rfl rfl (by kernel_rfl) rfl rfl (fun K hK=>?_) (fun K hK=>?_)
     ·have HKK:=hid hK
      clear hK
      go_step
      refine(HC10.out _ HR.out).mono ?_
      rintro e WB ⟨u,rfl,m1,k1,k2⟩
      obtain⟨ua,um,uc,rfl⟩:=m1.slice'
      have hA:=k1.1
      have HU:=hid (HU.out.trans k2)
      have HR:=hid k1
      have HBY:=hid m1
      clear k1 k2 m1
      simp only[]
      refine HKK.out _ _ hA ?_
      clear HKK
      simp only[pZ,nZ,bZ,List.set]
      refine wpG_do2 (i:=11) (j:=13) rfl rfl (by kernel_rfl) rfl rfl (fun K hK=>?_) (fun K hK=>?_)
      ·have HKK:=hid hK
       clear hK
       have hcs:=conv_str HBY.out.bytesIn
       go_step
       clear hcs
       refine HKK.out _ _ hA ?_
       clear HKK
       simp only[pZ,nZ,bZ,List.set]
       refine tqZ 12 (.agg #[.string (strOfNums nmb),.bool false,.bool false,.slice none 0 0,.slice none 0 0]) [] hA (fun w5 q1=>?_) ?_
       ·go_simp
       simp only[pZ,nZ,bZ,List.set]
       refine wpG_do (i:=13) rfl (by kernel_rfl) rfl (fun K hK=>?_)
       have HKK:=hid hK
       clear hK
       go_step
       have ua:Upd (fun _=>False) WB (WB.alloc (.cells #[.string ⟨#[]⟩,.bool false,.bool false,.slice none 0 0,.slice none 0 0] 73)):=(Upd.refl _ _).alloc _
       have HB6:RowKit.Hid (wr.heap.size≤WB.heap.size):=hid HU.out.size
       have HX:=hid (alloc_at (w:=WB) (o:=.cells #[.string ⟨#[]⟩,.bool false,.bool false,.slice none 0 0,.slice none 0 0] 73) rfl)
       have HR:=hid (HR.out.kept ua (fun e=>e) (fun e=>e) (fun _ _ e=>e))
       have HU:=hid (HU.out.trans (ua.mono (fun _ _ e=>e.elim)))
       have hA:=HR.out.1
       have HBY:=hid (HBY.out.kept ua (fun _ _ e=>e))
       clear ua
       refine HKK.out _ _ hA ?_
       clear HKK
       simp only[pZ,nZ,bZ,List.set]
       generalize WB.alloc (.cells #[.string ⟨#[]⟩,.bool false,.bool false,.slice none 0 0,.slice none 0 0] 73)=WBX at HX HR HU hA HBY ⊢
       refine wpG_tail_lit (k:=14) rfl rfl (by kernel_rfl) ?_
       simp only[List.drop]
       refine wpList_store_mid rfl 73 (.tmp 6) (.tmp 38) rfl _ 0 #[.string (strOfNums nmb),.bool false,.bool false,.slice none 0 0,.slice none 0 0] rfl rfl (by have q:=there_block HX.out;exact q) (by kernel_rfl) (by simp[Value.oneCell']) ?_
       have hb2:=heap_setCells_whole (vs:=[.string (strOfNums nmb),.bool false,.bool false,.slice none 0 0,.slice none 0 0]) HX.out rfl
       have hu2:=Upd.setCells (F:=fun k=>wr.heap.size≤k) HB6.out [.string (strOfNums nmb),.bool false,.bool false,.slice none 0 0,.slice none 0 0] 0 (Upd.refl _ WBX)
       go_wp2
       go_meet
       case rel=>
        exact⟨_,rfl,rfl,HR.out.kept hu2 (fun e=>by have:=HD.out.rbs.lt;omega) (fun e=>by have:=HRR.out;omega) (fun k hk e=>by have:=HD.out.row.lt k hk;omega),hb2,HB6.out,HU.out.step hu2 (fun k hk e=>by omega)⟩
      ·have HKK:=hid hK
       clear hK
       go_step
       have ua:Upd (fun _=>False) WB (WB.alloc (.cells #[.string ⟨#[]⟩,.bool false,.bool false,.slice none 0 0,.slice none 0 0] 73)):=(Upd.refl _ _).alloc _
       have HB6:RowKit.Hid (wr.heap.size≤WB.heap.size):=hid HU.out.size
       have HX:=hid (alloc_at (w:=WB) (o:=.cells #[.string ⟨#[]⟩,.bool false,.bool false,.slice none 0 0,.slice none 0 0] 73) rfl)
       have HR:=hid (HR.out.kept ua (fun e=>e) (fun e=>e) (fun _ _ e=>e))
       have HU:=hid (HU.out.trans (ua.mono (fun _ _ e=>e.elim)))
       have hA:=HR.out.1
       have HBY:=hid (HBY.out.kept ua (fun _ _ e=>e))
       clear ua
       refine HKK.out _ _ hA ?_
       clear HKK
       simp only[pZ,nZ,bZ,List.set]
       generalize WB.alloc (.cells #[.string ⟨#[]⟩,.bool false,.bool false,.slice none 0 0,.slice none 0 0] 73)=WBX at HX HR HU hA HBY ⊢
       refine wpG_do (i:=11) rfl (by kernel_rfl) rfl (fun K hK=>?_)
       have HKK:=hid hK
       clear hK
       have hcs:=conv_str HBY.out.bytesIn
       go_step
       clear hcs
       refine HKK.out _ _ hA ?_
       clear HKK
       simp only[pZ,nZ,bZ,List.set]
       refine tqZ 12 (.agg #[.string (strOfNums nmb),.bool false,.bool false,.slice none 0 0,.slice none 0 0]) [] hA (fun w5 q1=>?_) ?_
       ·go_simp
       simp only[pZ,nZ,bZ,List.set]
       refine wpG_tail_lit (k:=14) rfl rfl (by kernel_rfl) ?_
       simp only[List.drop]
       refine wpList_store_mid rfl 73 (.tmp 6) (.tmp 38) rfl _ 0 #[.string (strOfNums nmb),.bool false,.bool false,.slice none 0 0,.slice none 0 0] rfl rfl (by have q:=there_block HX.out;exact q) (by kernel_rfl) (by simp[Value.oneCell']) ?_
       have hb2:=heap_setCells_whole (vs:=[.string (strOfNums nmb),.bool false,.bool false,.slice none 0 0,.slice none 0 0]) HX.out rfl
       have hu2:=Upd.setCells (F:=fun k=>wr.heap.size≤k) HB6.out [.string (strOfNums nmb),.bool false,.bool false,.slice none 0 0,.slice none 0 0] 0 (Upd.refl _ WBX)
       go_wp2
       go_meet
       case rel=>
        exact⟨_,rfl,rfl,HR.out.kept hu2 (fun e=>by have:=HD.out.rbs.lt;omega) (fun e=>by have:=HRR.out;omega) (fun k hk e=>by have:=HD.out.row.lt k hk;omega),hb2,HB6.out,HU.out.step hu2 (fun k hk e=>by omega)⟩
     ·have HKK:=hid hK
      clear hK
      go_step
      have ua:Upd (fun _=>False) WA (WA.alloc (.cells #[.string ⟨#[]⟩,.bool false,.bool false,.slice none 0 0,.slice none 0 0] 73)):=(Upd.refl _ _).alloc _
      have HB6:RowKit.Hid (wr.heap.size≤WA.heap.size):=hid HU.out.size
      have HX:=hid (alloc_at (w:=WA) (o:=.cells #[.string ⟨#[]⟩,.bool false,.bool false,.slice none 0 0,.slice none 0 0] 73) rfl)
      have HR:=hid (HR.out.kept ua (fun e=>e) (fun e=>e) (fun _ _ e=>e))
      have HU:=hid (HU.out.trans (ua.mono (fun _ _ e=>e.elim)))
      have hA:=HR.out.1
      clear ua
      refine HKK.out _ _ hA ?_
      clear HKK
      simp only[pZ,nZ,bZ,List.set]
      generalize WA.alloc (.cells #[.string ⟨#[]⟩,.bool false,.bool false,.slice none 0 0,.slice none 0 0] 73)=WAX at HX HR HU hA ⊢
      refine wpG_do (i:=10) rfl (by kernel_rfl) rfl (fun K hK=>?_)
      have HKK:=hid hK
      clear hK
      go_step
      refine(HC10.out _ HR.out).mono ?_
      rintro e WB ⟨u,rfl,m1,k1,k2⟩
      obtain⟨ua,um,uc,rfl⟩:=m1.slice'
      have hA:=k1.1
      have HU:=hid (HU.out.trans k2)
      have HR:=hid k1
      have HBY:=hid m1
      have HX:=hid ((k2.block _ (lt_of_heap HX.out) (fun e=>by have:=HB6.out;have:=HRR.out;omega)).trans HX.out)
      clear k1 k2 m1
      simp only[]
      refine HKK.out _ _ hA ?_
      clear HKK
      simp only[pZ,nZ,bZ,List.set]
      refine wpG_do (i:=11) rfl (by kernel_rfl) rfl (fun K hK=>?_)
      have HKK:=hid hK
      clear hK
      have hcs:=conv_str HBY.out.bytesIn
      go_step
      clear hcs
      refine HKK.out _ _ hA ?_
      clear HKK
      simp only[pZ,nZ,bZ,List.set]
      refine tqZ 12 (.agg #[.string (strOfNums nmb),.bool false,.bool false,.slice none 0 0,.slice none 0 0]) [] hA (fun w5 q1=>?_) ?_
      ·go_simp
      simp only[pZ,nZ,bZ,List.set]
      refine wpG_tail_lit (k:=14) rfl rfl (by kernel_rfl) ?_
      simp only[List.drop]
      refine wpList_store_mid rfl 73 (.tmp 6) (.tmp 38) rfl _ 0 #[.string (strOfNums nmb),.bool false,.bool false,.slice none 0 0,.slice none 0 0] rfl rfl (by have q:=there_block HX.out;exact q) (by kernel_rfl) (by simp[Value.oneCell']) ?_
      have hb2:=heap_setCells_whole (vs:=[.string (strOfNums nmb),.bool false,.bool false,.slice none 0 0,.slice none 0 0]) HX.out rfl
      have hu2:=Upd.setCells (F:=fun k=>wr.heap.size≤k) HB6.out [.string (strOfNums nmb),.bool false,.bool false,.slice none 0 0,.slice none 0 0] 0 (Upd.refl _ WB)
      go_wp2
      go_meet
      case rel=>
       exact⟨_,rfl,rfl,HR.out.kept hu2 (fun e=>by have:=HD.out.rbs.lt;omega) (fun e=>by have:=HRR.out;omega) (fun k hk e=>by have:=HD.out.row.lt k hk;omega),hb2,HB6.out,HU.out.step hu2 (fun k hk e=>by omega)⟩
    ·have HKK:=hid hK
     clear hK
     go_step
     have ua:Upd (fun _=>False) wd (wd.alloc (.cells #[.string ⟨#[]⟩,.bool false,.bool false,.slice none 0 0,.slice none 0 0] 73)):=(Upd.refl _ _).alloc _
     have HB6:RowKit.Hid (wr.heap.size≤wd.heap.size):=hid HU.out.size
     have HX:=hid (alloc_at (w:=wd) (o:=.cells #[.string ⟨#[]⟩,.bool false,.bool false,.slice none 0 0,.slice none 0 0] 73) rfl)
     have HR:=hid (HR.out.kept ua (fun e=>e) (fun e=>e) (fun _ _ e=>e))
     have HU:=hid (HU.out.trans (ua.mono (fun _ _ e=>e.elim)))
     have hA:=HR.out.1
     clear ua
     refine HKK.out _ _ hA ?_
     clear HKK
     simp only[pZ,nZ,bZ,List.set]
     generalize wd.alloc (.cells #[.string ⟨#[]⟩,.bool false,.bool false,.slice none 0 0,.slice none 0 0] 73)=wdX at HX HR HU hA ⊢
     refine wpG_do (i:=8) rfl (by kernel_rfl) rfl (fun K hK=>?_)
     have HKK:=hid hK
     clear hK
     go_step
     refine(HC8.out _ HR.out).mono ?_
     rintro e WA ⟨rfl,k1,k2⟩
     have hA:=k1.1
     have HU:=hid (HU.out.trans k2)
     have HR:=hid k1
     have HX:=hid ((k2.block _ (lt_of_heap HX.out) (fun e=>by have:=HB6.out;have:=HRR.out;omega)).trans HX.out)
     clear k1 k2
     simp only[]
     refine HKK.out _ _ hA ?_
     clear HKK
     simp only[pZ,nZ,bZ,List.set]
     refine tqZ 9 (.int .i64 n1) [10] hA (fun w5 q1=>?_) ?_
     ·go_simp
     simp only[pZ,nZ,bZ,List.set]
     refine wpG_do (i:=10) rfl (by kernel_rfl) rfl (fun K hK=>?_)
     have HKK:=hid hK
     clear hK
     go_step
     refine(HC10.out _ HR.out).mono ?_
     rintro e WB ⟨u,rfl,m1,k1,k2⟩
     obtain⟨ua,um,uc,rfl⟩:=m1.slice'
     have hA:=k1.1
     have HU:=hid (HU.out.trans k2)
     have HR:=hid k1
     have HBY:=hid m1
     have HX:=hid ((k2.block _ (lt_of_heap HX.out) (fun e=>by have:=HB6.out;have:=HRR.out;omega)).trans HX.out)
     clear k1 k2 m1
     simp only[]
     refine HKK.out _ _ hA ?_
     clear HKK
     simp only[pZ,nZ,bZ,List.set]
     refine wpG_do (i:=11) rfl (by kernel_rfl) rfl (fun K hK=>?_)
     have HKK:=hid hK
     clear hK
     have hcs:=conv_str HBY.out.bytesIn
     go_step
     clear hcs
     refine HKK.out _ _ hA ?_
     clear HKK
     simp only[pZ,nZ,bZ,List.set]
     refine tqZ 12 (.agg #[.string (strOfNums nmb),.bool false,.bool false,.slice none 0 0,.slice none 0 0]) [] hA (fun w5 q1=>?_) ?_
     ·go_simp
     simp only[pZ,nZ,bZ,List.set]
     refine wpG_tail_lit (k:=14) rfl rfl (by kernel_rfl) ?_
     simp only[List.drop]
     refine wpList_store_mid rfl 73 (.tmp 6) (.tmp 38) rfl _ 0 #[.string (strOfNums nmb),.bool false,.bool false,.slice none 0 0,.slice none 0 0] rfl rfl (by have q:=there_block HX.out;exact q) (by kernel_rfl) (by simp[Value.oneCell']) ?_
     have hb2:=heap_setCells_whole (vs:=[.string (strOfNums nmb),.bool false,.bool false,.slice none 0 0,.slice none 0 0]) HX.out rfl
     have hu2:=Upd.setCells (F:=fun k=>wr.heap.size≤k) HB6.out [.string (strOfNums nmb),.bool false,.bool false,.slice none 0 0,.slice none 0 0] 0 (Upd.refl _ WB)
     go_wp2
     go_meet
     case rel=>
      exact⟨_,rfl,rfl,HR.out.kept hu2 (fun e=>by have:=HD.out.rbs.lt;omega) (fun e=>by have:=HRR.out;omega) (fun k hk e=>by have:=HD.out.row.lt k hk;omega),hb2,HB6.out,HU.out.step hu2 (fun k hk e=>by omega)⟩
   case rest=>
    obtain⟨b6,rfl,rfl,hR,hX,hb6,hu⟩:=hcut
    obtain⟨m3,hm3⟩: ∃m3,m3=maybeS s2 bad:=⟨_,rfl⟩
    obtain⟨m4,hm4⟩: ∃m4,m4=maybeS m3.2.2.1 m3.2.2.2:=⟨_,rfl⟩
    have hset:setS st bad=(⟨strOfNums nmb,m3.1,m4.1,m3.2.1,m4.2.1⟩,m4.2.2.1,m4.2.2.2):=by
     obtain⟨_,_,_,q4,q5,q6,q7⟩:=HST.out
     simp only[setS,←q4,←q5,←q6,←q7,←hm3,←hm4]
    have HM3:RowKit.Hid (∀W,RbS W rb r C s2 bad→Calls Tryz.prog 93 #[.pointer (some ⟨rb,0,none⟩)] W fun e w'=> ∃u,e=.returned (.tuple #[.bool m3.1,u])∧BytesAt w' C u m3.2.1∧RbS w' rb r C m3.2.2.1 m3.2.2.2∧Upd (fun k=>k=r∨k=rb) W w'):=hid (by
     intro W hW
     have q:=maybe_S W hW
     rw[←hm3] at q
     exact q)
    have HM4:RowKit.Hid (∀W,RbS W rb r C m3.2.2.1 m3.2.2.2→Calls Tryz.prog 93 #[.pointer (some ⟨rb,0,none⟩)] W fun e w'=> ∃u,e=.returned (.tuple #[.bool m4.1,u])∧BytesAt w' C u m4.2.1∧RbS w' rb r C m4.2.2.1 m4.2.2.2∧Upd (fun k=>k=r∨k=rb) W w'):=hid (by
     intro W hW
     have q:=maybe_S W hW
     rw[←hm4] at q
     exact q)
    have HSET:=hid hset
    have hb6r:r<b6:=Nat.lt_of_lt_of_le HRR.out hb6
    have hb6b:rb<b6:=Nat.lt_of_lt_of_le HD.out.rbs.lt hb6
    have hb6c: ∀k,C k→k<b6:=fun k hk=>Nat.lt_of_lt_of_le (HD.out.row.lt k hk) hb6
    have HB6C:=hid hb6c
    obtain⟨oa0,oc0,hO,_⟩:=HD.out.out
    have hb6o:ob<b6:=Nat.lt_of_lt_of_le (lt_of_heap hO) hb6
    have HR:=hid hR;have HX:=hid hX;have HU:=hid hu
    clear hm3 hm4 hset hR hX hu HC8 HC10 hcv hO hb6c
    go_wp2_with (go_at_call 93;fail)
    refine(HM3.out _ HR.out).mono ?_
    rintro e wd ⟨u,rfl,m1,k1,k2⟩
    obtain⟨ua,um,uc,rfl⟩:=m1.slice'
    have hx:=(k2.block _ (lt_of_heap HX.out) (fun e=>by rcases e with e | e<;> omega)).trans HX.out
    obtain⟨x0,x1,x2,x3,x4⟩:=cells5_of hx
    have f1:wd.frozen? ⟨b6,1,none⟩=false:=frozen_of_heap hx
    have f3:wd.frozen? ⟨b6,3,none⟩=false:=frozen_of_heap hx
    have HX:=hid hx;have HU:=hid ((HU.out.mono (fun _ _ e=>.inl e)).trans k2);have HR:=hid k1;have M1:=hid m1
    clear hx k1 k2 m1 HM3
    simp only[]
    go_wp2_with (go_at_call 93;fail)
    obtain⟨w8,hw8⟩: ∃w8,w8=(wd.setCell ⟨b6,1,none⟩ (.bool m3.1)).setCell ⟨b6,3,none⟩ (.slice ua um uc):=⟨_,rfl⟩
    rw[←hw8]
    have hu8:Upd (fun k=>k=b6) wd w8:=by rw[hw8];exact(upd_own wd b6 1 _).trans (upd_own _ b6 3 _)
    have hx8:w8.heap[b6]?=some (.cells #[.string (strOfNums nmb),.bool m3.1,.bool false,.slice ua um uc,.slice none 0 0] 73 (0,0)):=by
     rw[hw8]
     have:=blk_set (i:=3) (v:=.slice ua um uc) (blk_set (i:=1) (v:=.bool m3.1) HX.out)
     simpa using this
    have HR:=hid (HR.out.kept hu8 (by omega) (by omega) (fun k hk e=>by have:=HB6C.out k hk;omega))
    have HX:=hid hx8;have M1:=hid (M1.out.kept hu8 (fun k hk e=>by have:=HB6C.out k hk;omega))
    have HU:=hid (HU.out.step (F:=fun k=>k=r∨k=rb) hu8 (fun k hk e=>by omega))
    clear hw8 hu8 hx8 x0 x1 x2 x3 x4 f1 f3
    refine(HM4.out _ HR.out).mono ?_
    rintro e wd2 ⟨u,rfl,m2,k1,k2⟩
    obtain⟨va,vm,vc,rfl⟩:=m2.slice'
    have hx:=(k2.block _ (lt_of_heap HX.out) (fun e=>by rcases e with e | e<;> omega)).trans HX.out
    obtain⟨x0,x1,x2,x3,x4⟩:=cells5_of hx
    have f1:wd2.frozen? ⟨b6,2,none⟩=false:=frozen_of_heap hx
    have f3:wd2.frozen? ⟨b6,4,none⟩=false:=frozen_of_heap hx
    have HX:=hid hx;have HU:=hid (HU.out.trans k2);have HR:=hid k1;have M2:=hid m2
    have M1:=hid (M1.out.kept k2 (fun k hk e=>by have:=HCL.out k hk;rcases e with e | e<;> omega))
    clear hx k1 k2 m2 HM4
    simp only[]
    go_upto_region 8 with fail
    obtain⟨w9,hw9⟩: ∃w9,w9=(wd2.setCell ⟨b6,2,none⟩ (.bool m4.1)).setCell ⟨b6,4,none⟩ (.slice va vm vc):=⟨_,rfl⟩
    rw[←hw9]
    have hu9:Upd (fun k=>k=b6) wd2 w9:=by rw[hw9];exact(upd_own wd2 b6 2 _).trans (upd_own _ b6 4 _)
    have hx9:w9.heap[b6]?=some (.cells #[.string (strOfNums nmb),.bool m3.1,.bool m4.1,.slice ua um uc,.slice va vm vc] 73 (0,0)):=by
     rw[hw9]
     have:=blk_set (i:=4) (v:=.slice va vm vc) (blk_set (i:=2) (v:=.bool m4.1) HX.out)
     simpa using this
    have HR:=hid (HR.out.kept hu9 (by omega) (by omega) (fun k hk e=>by have:=HB6C.out k hk;omega))
    have HX:=hid hx9;have M1:=hid (M1.out.kept hu9 (fun k hk e=>by have:=HB6C.out k hk;omega));have M2:=hid (M2.out.kept hu9 (fun k hk e=>by have:=HB6C.out k hk;omega))
    have HU:=hid (HU.out.step (F:=fun k=>k=r∨k=rb) hu9 (fun k hk e=>by omega))
    clear hw9 hu9 hx9 x0 x1 x2 x3 x4 f1 f3
    have c0:=(cells2_of HR.out.1).1
    go_wp2_with (go_at_call 94;fail)
    refine(err_S w9 HR.out.2.2.2).mono ?_
    rintro e wo ⟨rfl,rfl⟩
    simp only[]
    have hsn:=HSN.out
    rw[HSET.out] at hsn
    cases hst4:m4.2.2.1 with
    |none=>
     simp only[errS,Option.isSome_none,Bool.false_eq_true,if_false]
     have hdec:decF bs=(BatchV.zero,7):=by
      refine dec_err7 (b:=⟨ev,fl,(setsS cnt st0 bd0).1⟩) (x:=(setsS cnt st0 bd0).2.2) ?_
      have h1:(setsS (k+1) st0 bd0).2.1=none:=by rw[hsn];exact hst4
      have h2:=setsS_stuck (k+1) (cnt - (k+1)) st0 bd0 h1
      rw[show k+1+(cnt - (k+1))=cnt by omega] at h2
      rw[HALL.out,h2]
     have hres:=(HU.out.block _ (lt_of_heap HD.out.res) (by omega)).trans HD.out.res
     have HRES:=hid hres;have HDEC:=hid hdec
     have HUU:=hid (HD.out.upd.step HU.out (fun j hj e=>by omega))
     clear hres hdec hsn hst4
     go_upto_region 9 with fail
     iterate 4 go_step
     refine wpList_store_mid rfl 56 (.tmp 2) (.tmp 59) rfl w.heap.size 0 #[.int .u64 0,.bool false,.slice none 0 0] rfl rfl (by have q:=there_block HRES.out;exact q) size56 (by simp[Value.oneCell']) ?_
     have hb2:=heap_setCells_whole (vs:=[.int .u64 0,.bool false,.slice none 0 0]) HRES.out rfl
     have hu2:=Upd.setCells (F:=fun k=>k=w.heap.size) (b:=w.heap.size) rfl [.int .u64 0,.bool false,.slice none 0 0] 0 (Upd.refl _ w9)
     have hl3:=run_loadVar_mid (P:=Tryz.prog) (w9.setCells w.heap.size 0 [.int .u64 0,.bool false,.slice none 0 0]) w.heap.size 0 56 [.int .u64 0,.bool false,.slice none 0 0] _ (rangeAt_block hb2) Tryz.underlying56 rfl size56
     have HL3:=hid hl3;have HU2:=hid hu2
     clear hb2 hu2 hl3
     go_wp2
     refine bodyPost_ret (results_cell_tmp Tryz.results27 rfl HL3.out) rfl (ans_zero HDEC.out (HUU.out.step HU2.out (fun j hj e=>by omega)))
    |some r4=>
     simp only[errS,Option.isSome_some,if_true]
     obtain⟨oa,oc,ho1,ho2⟩:=HD.out.out
     have hx9:=HX.out
     have hob9:=(HU.out.block _ (lt_of_heap ho1) (by omega)).trans ho1
     have hrow9:=ho2.kept HU.out (fun k hk=>by
      obtain⟨L,_,q,_⟩:=ho2
      have:=q.lt k hk
      intro e
      omega) (fun k hk e=>by have:=HCL.out k hk;omega)
     obtain⟨x0,x1,x2,x3,x4⟩:=cells5_of hx9
     have y2:=(cells3_of hob9).2.2
     have HOB:=hid hob9;have HROW:=hid hrow9
     clear ho1 ho2 hx9 hob9 hrow9 hst4
     go_upto_region 10 with fail
     iterate 13 go_step
     obtain⟨x,hx⟩: ∃x:SetV,x=⟨strOfNums nmb,m3.1,m4.1,m3.2.1,m4.2.1⟩:=⟨_,rfl⟩
     obtain⟨L,hLm,hLo,hLb,hLf⟩:=HROW.out
     have hLl:=hLo.lt
     have hxf:x.fine:=by
      have:=HFINE.out
      rw[HSET.out,←hx] at this
      exact this
     have hkl:=HLL.out
     have hz9:ob<w9.heap.size:=lt_of_heap HOB.out
     have hel:elC (x,.slice ua um uc,.slice va vm vc)=[.string (strOfNums nmb),.bool m3.1,.bool m4.1,.slice ua um uc,.slice va vm vc]:=by rw[hx];rfl
     obtain⟨i0,hi0,hz0,hz1,hz2⟩:=info_parts Tryz.info73p
     refine wpList_append_lies _ rfl (.tmp 61) (.tmp 63) 54 rfl (ob+1) 73 i0 _ 5 72 Tryz.underlying54 hi0 hz0 hz1 hz2 rfl (by omega) (.slice oa l.length oc) _ _ rfl (hLo.alloc _) ⟨w9.heap.size,0,none⟩ 1 1 (elC (x,.slice ua um uc,.slice va vm vc)) rfl
      rfl (World.news_of_block (cs:=(elC (x,.slice ua um uc,.slice va vm vc)).toArray) (t:=73) (fr:=(0,0)) (by rw[hel];exact heap_alloc_new _ _)) (by rw[hel];simp[Value.oneCell']) (by omega) (by unfold maxLen;omega) (by omega) (by simp;omega) (w9.heap.size+1) (by simp) ?_
     intro g cap w10 hown hgrow hat hlt
     have hu10:Upd (fun k=>(Value.slice oa l.length oc).ownBlock=some k) w9 w10:=((Upd.refl _ w9).alloc _).trans (Upd.of_grown hgrow (fun k hk=>hk))
     have hob10:=(hu10.block _ hz9 (fun e=>by have:=hLl ob e;omega)).trans HOB.out
     have hgob:ob<g:=by
      rcases hat with e | e
      ·have:=hLl g e;omega
      ·omega
     have y2:=(cells3_of hob10).2.2
     have g2:w10.frozen? ⟨ob,2,none⟩=false:=frozen_of_heap hob10
     have hcu: ∀k,C k→ ¬(Value.slice oa l.length oc).ownBlock=some k:=fun k hk e=>by have:=hLl k e;have:=HCL.out k hk;omega
     have hnew:SetRow w10 (ob+1) C (.slice (some ⟨g,0,none⟩) (l.length+1) cap) (l++[x]):=by
      refine⟨L++[(x,.slice ua um uc,.slice va vm vc)],by rw[List.map_append,hLm];rfl,?_,fun y hy=>?_,fun y hy=>?_⟩
      ·rw[List.flatMap_append,List.length_append]
       simpa using hown
      ·rw[List.mem_append] at hy
       rcases hy with hy | hy
       ·exact⟨(hLb y hy).1.kept hu10 hcu,(hLb y hy).2.kept hu10 hcu⟩
       ·simp only[List.mem_singleton] at hy
        subst hy
        refine⟨?_,?_⟩
        ·have:=M1.out.kept hu10 hcu;rw[hx];exact this
        ·have:=M2.out.kept hu10 hcu;rw[hx];exact this
      ·rw[List.mem_append] at hy
       rcases hy with hy | hy
       ·exact hLf y hy
       ·simp only[List.mem_singleton] at hy
        subst hy
        exact hxf
     have HNEW:=hid hnew;have HOB10:=hid hob10;have HU10:=hid hu10;have HCU:=hid hcu;have HLLT:=hid hLl;have HX9:=hid hx;have HSN9:=hid hsn;have HKL:=hid hkl
     clear hnew hob10 hu10 hcu hown hgrow hat hi0 hz0 hz1 hz2 hLm hLo hLb hLf hLl hel hxf hx x0 x1 x2 x3 x4 hsn hkl
     have hwr:IntKind.u8.wrap ((k:Int)+1)=(k:Int)+1:=by rw[IntKind.wrap_u8];omega
     go_wp2
     obtain⟨w11,hw11⟩: ∃w11,w11=w10.setCell ⟨ob,2,none⟩ (.slice (some ⟨g,0,none⟩) (l.length+1) cap):=⟨_,rfl⟩
     rw[←hw11]
     have hu11:Upd (fun k=>k=ob) w10 w11:=by rw[hw11];exact upd_own w10 ob 2 _
     have hob11:w11.heap[ob]?=some (.cells #[.int .u64 ev,.bool fl,.slice (some ⟨g,0,none⟩) (l.length+1) cap] 56 (0,0)):=by
      rw[hw11]
      have:=blk_set (i:=2) (v:=.slice (some ⟨g,0,none⟩) (l.length+1) cap) HOB10.out
      simpa using this
     have hll1:(l++[x]).length=l.length+1:=by simp
     have hdc:DcAt w r rb ob C ev fl (setsS (k+1) st0 bd0).2.1 (setsS (k+1) st0 bd0).2.2 (setsS (k+1) st0 bd0).1 w11:=by
      have e1:=HSN9.out
      rw[e1,←HX9.out]
      have u1:Upd (fun j=>j=r∨j=rb∨(Value.slice oa l.length oc).ownBlock=some j) wr w10:=(HU.out.mono (fun _ _ e=>by rcases e with e | e;exact .inl e;exact .inr (.inl e))).trans (HU10.out.mono (fun _ _ e=>.inr (.inr e)))
      have n1: ∀j,j≤ob→ ¬(Value.slice oa l.length oc).ownBlock=some j:=fun j hj e=>by have:=HLLT.out j e;omega
      refine⟨(HR.out.kept HU10.out (n1 rb (by omega)) (n1 r (by omega)) HCU.out).kept hu11 (by omega) (by omega) (fun j hj e=>by have:=HCL.out j hj;omega),⟨_,_,by rw[hll1];exact hob11,by rw[hll1];exact HNEW.out.kept hu11 (fun j hj e=>by simp[Value.ownBlock] at hj;omega) (fun j hj e=>by have:=HCL.out j hj;omega)⟩,?_,?_,?_⟩
      ·refine(hu11.block _ ?_ (by omega)).trans ((u1.block _ (lt_of_heap HD.out.res) ?_).trans HD.out.res)
       ·have:=lt_of_heap HD.out.res;have:=u1.size;omega
       ·intro e
        rcases e with e | e | e
        ·omega
        ·omega
        ·exact n1 _ (by omega) e
      ·exact(HD.out.row.kept u1 (fun j hj e=>by
        have:=HCL.out j hj
        rcases e with e | e | e
        ·omega
        ·omega
        ·exact HCU.out j hj e)).kept hu11 (fun j hj e=>by have:=HCL.out j hj;omega)
      ·refine(HD.out.upd.step u1 (fun j hj e=>?_)).step hu11 (fun j hj e=>by omega)
       rcases e with e | e | e
       ·omega
       ·omega
       ·exact n1 j (by omega) e
     go_roundg (cnt - (k+1))
     case measure=>omega
     case rel=>exact⟨k+1,by omega,rfl,congrArg _ (by omega),hdc⟩
  ·obtain rfl:k=cnt:=by omega
   obtain⟨st,hst⟩: ∃st,st=(setsS k st0 bd0).2.1:=⟨_,rfl⟩
   obtain⟨bad,hbad⟩: ∃bad,bad=(setsS k st0 bd0).2.2:=⟨_,rfl⟩
   obtain⟨l,hl9⟩: ∃l,l=(setsS k st0 bd0).1:=⟨_,rfl⟩
   have hlen:lenS st≤bs.length:=by rw[hst];exact Nat.le_trans (lenS_sets _ _ _) HLS.out
   have hall:=HALL.out
   rw[←hst,←hbad,←hl9] at HD hall
   have HALL:=hid hall;have HLEN:=hid hlen
   have hll:l.length≤255:=by rw[hl9,setsS_length];omega
   have HRES:=hid HD.out.res
   have HUU:=hid HD.out.upd
   have c0:=(cells2_of HD.out.rbs.1).1
   clear hst hbad hl9 hlen hall
   go_wp2_with (go_at_call 94;fail)
   refine(err_S wr HD.out.rbs.2.2.2).mono ?_
   rintro e wo ⟨rfl,rfl⟩
   simp only[]
   cases st with
   |none=>
    simp only[errS,Option.isSome_none,Bool.false_eq_true,if_false]
    have HDEC:=hid (dec_err7 HALL.out)
    go_upto_region 13 with fail
    iterate 4 go_step
    refine wpList_store_mid rfl 56 (.tmp 2) (.tmp 74) rfl w.heap.size 0 #[.int .u64 0,.bool false,.slice none 0 0] rfl rfl (by have q:=there_block HRES.out;exact q) size56 (by simp[Value.oneCell']) ?_
    have hb2:=heap_setCells_whole (vs:=[.int .u64 0,.bool false,.slice none 0 0]) HRES.out rfl
    have hu2:=Upd.setCells (F:=fun k=>k=w.heap.size) (b:=w.heap.size) rfl [.int .u64 0,.bool false,.slice none 0 0] 0 (Upd.refl _ wr)
    have hl3:=run_loadVar_mid (P:=Tryz.prog) (wr.setCells w.heap.size 0 [.int .u64 0,.bool false,.slice none 0 0]) w.heap.size 0 56 [.int .u64 0,.bool false,.slice none 0 0] _ (rangeAt_block hb2) Tryz.underlying56 rfl size56
    have HL3:=hid hl3;have HU2:=hid hu2
    clear hb2 hu2 hl3
    go_wp2
    refine bodyPost_ret (results_cell_tmp Tryz.results27 rfl HL3.out) rfl (ans_zero HDEC.out (HUU.out.step HU2.out (fun j hj e=>by omega)))
   |some r4=>
    simp only[errS,Option.isSome_some,if_true]
    have c1:=(cells2_of HD.out.rbs.1).2
    cases bad with
    |true=>
     have HDEC:=hid (dec_err2 HALL.out rfl)
     go_upto_region 15 with fail
     iterate 4 go_step
     refine wpList_store_mid rfl 56 (.tmp 2) (.tmp 93) rfl w.heap.size 0 #[.int .u64 0,.bool false,.slice none 0 0] rfl rfl (by have q:=there_block HRES.out;exact q) size56 (by simp[Value.oneCell']) ?_
     have hb2:=heap_setCells_whole (vs:=[.int .u64 0,.bool false,.slice none 0 0]) HRES.out rfl
     have hu2:=Upd.setCells (F:=fun k=>k=w.heap.size) (b:=w.heap.size) rfl [.int .u64 0,.bool false,.slice none 0 0] 0 (Upd.refl _ wr)
     have hl3:=run_loadVar_mid (P:=Tryz.prog) (wr.setCells w.heap.size 0 [.int .u64 0,.bool false,.slice none 0 0]) w.heap.size 0 56 [.int .u64 0,.bool false,.slice none 0 0] _ (rangeAt_block hb2) Tryz.underlying56 rfl size56
     have HL3:=hid hl3;have HU2:=hid hu2
     clear hb2 hu2 hl3
     go_wp2
     refine bodyPost_ret (results_cell_tmp Tryz.results27 rfl HL3.out) rfl (ans_zero HDEC.out (HUU.out.step HU2.out (fun j hj e=>by omega)))
    |false=>
     go_wp2_with (go_at_call 95;fail)
     refine(left_S wr HD.out.rbs.2.2.2 (Nat.le_trans HLEN.out hl)).mono ?_
     rintro e w12 ⟨rfl,hu⟩
     have HU12:=hid hu
     have HRES:=hid ((hu.block _ (lt_of_heap HRES.out) (fun e=>e)).trans HRES.out)
     have HUU:=hid (HUU.out.trans hu)
     obtain⟨oa,oc,ho1,ho2⟩:=HD.out.out
     have hob:=(hu.block _ (lt_of_heap ho1) (fun e=>e)).trans ho1
     have hrow:=ho2.kept hu (fun _ _ e=>e) (fun _ _ e=>e)
     obtain⟨z0,z1,z2⟩:=cells3_of hob
     have HOB:=hid hob;have HROW:=hid hrow
     clear hu ho1 ho2 hob hrow
     simp only[]
     by_cases hr4:0<r4.length
     ·have HDEC:=hid (dec_err2 HALL.out (by simp[hr4]))
      have hr4':(r4.length:Int) > 0:=by omega
      go_upto_region 15 with fail
      iterate 4 go_step
      refine wpList_store_mid rfl 56 (.tmp 2) (.tmp 93) rfl w.heap.size 0 #[.int .u64 0,.bool false,.slice none 0 0] rfl rfl (by have q:=there_block HRES.out;exact q) size56 (by simp[Value.oneCell']) ?_
      have hb2:=heap_setCells_whole (vs:=[.int .u64 0,.bool false,.slice none 0 0]) HRES.out rfl
      have hu2:=Upd.setCells (F:=fun k=>k=w.heap.size) (b:=w.heap.size) rfl [.int .u64 0,.bool false,.slice none 0 0] 0 (Upd.refl _ w12)
      have hl3:=run_loadVar_mid (P:=Tryz.prog) (w12.setCells w.heap.size 0 [.int .u64 0,.bool false,.slice none 0 0]) w.heap.size 0 56 [.int .u64 0,.bool false,.slice none 0 0] _ (rangeAt_block hb2) Tryz.underlying56 rfl size56
      have HL3:=hid hl3;have HU2:=hid hu2
      clear hb2 hu2 hl3
      go_wp2
      refine bodyPost_ret (results_cell_tmp Tryz.results27 rfl HL3.out) rfl (ans_zero HDEC.out (HUU.out.step HU2.out (fun j hj e=>by omega)))
     ·have hr4': ¬((r4.length:Int) > 0):=by omega
      have HR4:=hid hr4
      have hs:=HROW.out.setsAt.setsIn
      have HCK:=hid (checked_any (B:=⟨ev,fl,l⟩) (c:=oc) w12 hs (by simp only;omega) (fun b o e=>by
       obtain⟨L,_,q,_⟩:=HROW.out
       subst e
       exact(q.lt b rfl).2))
      unfold batchV at HCK
      have hr40:decide (0<r4.length)=false:=decide_eq_false hr4
      have hr41:r4.length≤0:=by omega
      clear hs
      obtain⟨rg,hrg⟩: ∃rg,rg=(⟨ev,fl,l⟩:BatchV).right:=⟨_,rfl⟩
      rw[←hrg] at HCK
      have HRG:=hid hrg
      clear hrg
      go_wp2_with (go_at_call 81;fail)
      refine HCK.out.mono ?_
      rintro e w13 ⟨rfl,hu⟩
      have HU13:=hid hu
      have HRES:=hid ((hu.block _ (lt_of_heap HRES.out) (fun e=>e)).trans HRES.out)
      have HUU:=hid (HUU.out.trans hu)
      have hob:=(hu.block _ (lt_of_heap HOB.out) (fun e=>e)).trans HOB.out
      have hrow:=HROW.out.kept hu (fun _ _ e=>e) (fun _ _ e=>e)
      obtain⟨z0,z1,z2⟩:=cells3_of hob
      have HOB:=hid hob;have HROW:=hid hrow
      clear hu hob hrow HCK
      simp only[]
      cases rg with
      |false=>
       have HDEC:=hid (dec_err2 HALL.out (by rw[←HRG.out];simp))
       go_upto_region 15 with fail
       iterate 4 go_step
       refine wpList_store_mid rfl 56 (.tmp 2) (.tmp 93) rfl w.heap.size 0 #[.int .u64 0,.bool false,.slice none 0 0] rfl rfl (by have q:=there_block HRES.out;exact q) size56 (by simp[Value.oneCell']) ?_
       have hb2:=heap_setCells_whole (vs:=[.int .u64 0,.bool false,.slice none 0 0]) HRES.out rfl
       have hu2:=Upd.setCells (F:=fun k=>k=w.heap.size) (b:=w.heap.size) rfl [.int .u64 0,.bool false,.slice none 0 0] 0 (Upd.refl _ w13)
       have hl3:=run_loadVar_mid (P:=Tryz.prog) (w13.setCells w.heap.size 0 [.int .u64 0,.bool false,.slice none 0 0]) w.heap.size 0 56 [.int .u64 0,.bool false,.slice none 0 0] _ (rangeAt_block hb2) Tryz.underlying56 rfl size56
       have HL3:=hid hl3;have HU2:=hid hu2
       clear hb2 hu2 hl3
       go_wp2
       refine bodyPost_ret (results_cell_tmp Tryz.results27 rfl HL3.out) rfl (ans_zero HDEC.out (HUU.out.step HU2.out (fun j hj e=>by omega)))
      |true=>
       have hdec:=dec_ok HALL.out (by rw[←HRG.out,decide_eq_false HR4.out];rfl)
       have HDEC:=hid hdec
       clear hdec
       go_upto_region 16 with fail
       iterate 4 go_step
       refine wpList_store_mid rfl 56 (.tmp 2) (.tmp 94) rfl w.heap.size 0 #[.int .u64 ev,.bool fl,.slice oa l.length oc] rfl rfl (by have q:=there_block HRES.out;exact q) size56 (by simp[Value.oneCell']) ?_
       have hb2:=heap_setCells_whole (vs:=[.int .u64 ev,.bool fl,.slice oa l.length oc]) HRES.out rfl
       have hu2:=Upd.setCells (F:=fun k=>k=w.heap.size) (b:=w.heap.size) rfl [.int .u64 ev,.bool fl,.slice oa l.length oc] 0 (Upd.refl _ w13)
       have hl3:=run_loadVar_mid (P:=Tryz.prog) (w13.setCells w.heap.size 0 [.int .u64 ev,.bool fl,.slice oa l.length oc]) w.heap.size 0 56 [.int .u64 ev,.bool fl,.slice oa l.length oc] _ (rangeAt_block hb2) Tryz.underlying56 rfl size56
       have HL3:=hid hl3;have HU2:=hid hu2
       clear hb2 hu2 hl3
       go_wp2
       refine bodyPost_ret (results_cell_tmp Tryz.results27 rfl HL3.out) rfl ?_
       have hrow:=HROW.out.kept HU2.out (fun j hj e=>by
        obtain⟨L,_,q,_⟩:=HROW.out
        have:=(q.lt j hj).1
        omega) (fun j hj e=>by have:=HCL.out j hj;omega)
       have hcr:=((HD.out.row.kept HU12.out (fun _ _ e=>e)).kept HU13.out (fun _ _ e=>e)).kept HU2.out (fun j hj e=>by have:=HCL.out j hj;omega)
       unfold DecAns
       rw[HDEC.out]
       refine⟨oa,oc,rfl,⟨C,?_,hcr,fun j hj=>by have:=HCL.out j hj;omega,fun b o e hk=>by
        obtain⟨L,_,q,_⟩:=hrow
        obtain⟨cs,hcs⟩:=hcr b hk
        rcases q.2 with ⟨e1,_⟩ | ⟨g,cap,cur,e1,_,hg,_⟩
        ·injection e1 with e1;rw[e1] at e;cases e
        ·injection e1 with e1;rw[e1] at e;injection e with e;injection e with e;subst e;rw[hg] at hcs;injection hcs with hcs;injection hcs with _ hcs;exact absurd hcs (by decide)⟩,?_,fun b o e=>by have:=hrow.addr b o e;exact⟨by omega,this.2⟩,HUU.out.step HU2.out (fun j hj e=>by omega)⟩
       ·intro i x hx
        obtain⟨a1,a2,a3,b,o,e,h4,h5⟩:=hrow.setsAt i x hx
        exact⟨a1,a2,a3,b,o,e,by omega,h5⟩
       ·obtain⟨L,_,_,_,q⟩:=hrow
        exact q
theorem wp_appB {o:Oper}{a:Act}{K:Act→World→Prop}{Q:Exit→Act→World→Prop}{w:World}(s x:Operand)(ho:o.op=.call {callee:=.builtin .append,args:=#[s,x],argTypes:=#[39,39]})
  {base:Nat} {v vx:Value} {bs cs:List Int} (hs:a.eval s=v) (hown:OwnB w base v bs) (hx:a.eval x=vx) (hxx:BytesIn w vx cs) (hm:bs.length+cs.length≤1099511627776) (hbase:base≤w.heap.size)
  (h: ∀v' w',OwnB w' base v' (bs++cs)→Upd (fun k=>v.ownBlock=some k) w w'→K (a.put o.dst v') w'):o.wp Tryz.prog a w K Q:=by
 obtain⟨v',w',hr,g1,g2⟩:=run_appB (ty:=o.type) hown hxx hm hbase
 exact Lib.wp_append_run w s x 39 39 ho v vx hs hx v' w' hr (h v' w' g1 g2)
theorem strCells_nums (s:ByteArray):Lib.strCells s=bcells (numsOf s):=by
 simp[Lib.strCells,bcells,numsOf]
theorem wp_appS {o:Oper}{a:Act}{K:Act→World→Prop}{Q:Exit→Act→World→Prop}{w:World}(s x:Operand)(ho:o.op=.call {callee:=.builtin .append,args:=#[s,x],argTypes:=#[39,9]})
  {base:Nat} {v:Value} {bs:List Int} {nm:ByteArray} (hs:a.eval s=v) (hown:OwnB w base v bs) (hx:a.eval x=.string nm) (hm:bs.length+nm.size≤1099511627776) (hbase:base≤w.heap.size)
  (h: ∀v' w',OwnB w' base v' (bs++numsOf nm)→Upd (fun k=>v.ownBlock=some k) w w'→K (a.put o.dst v') w'):o.wp Tryz.prog a w K Q:=by
 obtain⟨i,hi,hz,hsz,hb⟩:=info_parts Tryz.info5p
 obtain⟨v',w',hr,g1,g2,_⟩:=Lib.run_append_own_string (P:=Tryz.prog) w base 39 9 o.type 5 i Tryz.underlying39 Tryz.underlying9s' hi hz hsz hb v bs.length (bcells bs) hown nm (by unfold maxLen;omega) (by omega) hbase
 refine Lib.wp_append_run w s x 39 9 ho v _ hs hx v' w' hr (h v' w' ?_ (Upd.of_grown g2 (fun k hk=>hk)))
 unfold OwnB
 rw[bcells_append,List.length_append,numsOf_length,←strCells_nums]
 exact g1
theorem flagv_any (f:Bool)(w:World):Calls Tryz.prog 145 #[.bool f] w fun e w'=>e=.returned (.int .u8 (flagF f))∧w=w':=by
 cases f
 ·go_enter Tryz.func145,Tryz.ntmps145
  go_wp2
  go_ret
  exact⟨rfl,rfl⟩
 ·go_enter Tryz.func145,Tryz.ntmps145
  go_wp2
  go_ret
  exact⟨rfl,rfl⟩
theorem one_in (w:World)(x:Int):BytesIn (w.alloc (.cells #[.int .u8 x] 5)) (.slice (some ⟨w.heap.size,0,none⟩) 1 1) [x]:=by
 refine .inr ⟨⟨w.heap.size,0,none⟩,1,rfl,by simp,by unfold maxLen;omega,fun i u hi=>?_⟩
 rw[Addr.add_mid,Nat.zero_add,cell_of_heap (alloc_at rfl)]
 simpa [bcells] using hi
theorem own_apart {W:World}{B bo:Nat}{v:Value}{bs:List Int}{cs:Array Value}{t:TypeId}{fr:Nat×Nat}(h:OwnB W B v bs)(hb:W.heap[bo]?=some (.cells cs t fr))(ht:t≠5): ∀k,v.ownBlock=some k→k≠bo:=by
 rintro k hk rfl
 obtain⟨cs',h2⟩:=h.bytesAt.2.1 k hk
 rw[hb] at h2
 injection h2 with h2
 injection h2 with h2 h3 h4
 exact ht h3
def Keeps73 (w W:World):Prop:= ∀(k:Nat) (cs:Array Value),w.heap[k]?=some (.cells cs 73 (0,0))→W.heap[k]?=some (.cells cs 73 (0,0))
theorem Keeps73.step {F:Nat→Prop}{w W W':World}(h:Keeps73 w W)(hu:Upd F W W')(hf: ∀(k:Nat) (cs:Array Value),W.heap[k]?=some (.cells cs 73 (0,0))→ ¬F k):Keeps73 w W':=fun k cs hk=>
 (hu.block _ (lt_of_heap (h k cs hk)) (hf k cs (h k cs hk))).trans (h k cs hk)
def EncAt (w0 W:World)(bo:Nat)(out:List Int):Prop:=
 ∃v,W.heap[bo]?=some (.cells #[v] 39 (0,0))∧OwnB W w0.heap.size v out∧(∀k,v.ownBlock=some k→k≠bo)∧w0.heap.size≤bo∧Upd (fun _=>False) w0 W
theorem maybe1_any {bo xc:Nat}{xa:Option Addr}{f:Bool}{xs out:List Int}(w0 w:World)(h:EncAt w0 w bo out)(hx:BytesIn w0 (.slice xa xs.length xc) xs)(hl:xs.length≤65535)(hol:out.length≤1000000000):
  Calls Tryz.prog 146 #[.bool f,.slice xa xs.length xc,.pointer (some ⟨bo,0,none⟩)] w fun e w'=>(∃v,e=.returned v)∧EncAt w0 w' bo (out++maybeF f xs)∧Keeps73 w w':=by
 obtain⟨v0,h1,h2,h3,h4,h5⟩:=h
 obtain⟨va,vm,vc,rfl⟩:=h2.bytesAt.1.slice'
 have hcv:IntKind.u16.wrap (xs.length:Int)=xs.length:=by rw[IntKind.wrap_u16];omega
 have HX:=hid hx;have HNB:=hid h3;have HB:=hid h4
 obtain⟨v0,hv0⟩: ∃v0,v0=Value.slice va vm vc:=⟨_,rfl⟩
 rw[←hv0] at h1 h2 HNB
 have hA:w.drew.heap[bo]?=some (.cells #[v0] 39 (0,0)):=h1
 have HU:=hid (h5.drew);have HO:=hid (show OwnB w.drew w0.heap.size v0 out from h2)
 have HV0:=hid hv0
 have HK7:RowKit.Hid (Keeps73 w w.drew):=hid (fun k cs h=>h)
 clear hx h1 h2 h3 h4 h5 hv0
 go_enter Tryz.func146,Tryz.ntmps146
 go_upto_region 0 with fail
 refine wp_region_G 11 (fun W=>W.heap[bo]?=some (.cells #[v0] 39 (0,0))) [false,false,false,false,false,false,false,false,false,false,false,false] rfl (by kernel_rfl) ?_
 generalize w.drew=wd at hA HU HO HK7 ⊢
 refine tqZ 0 (v0) [10,8,4] hA (fun w5 q1=>?_) ?_
 ·have c0:=cells1_of q1
  go_simp
 simp only[pZ,nZ,bZ,List.set]
 refine tqZ 1 (.bool f) [10,8,4,2] hA (fun w5 q1=>?_) ?_
 ·go_simp
 simp only[pZ,nZ,bZ,List.set]
 refine tqZ 5 (.slice xa xs.length xc) [10,8,7,6] hA (fun w5 q1=>?_) ?_
 ·go_simp
 simp only[pZ,nZ,bZ,List.set]
 refine tqZ 6 (.int .i64 xs.length) [10,8,7] hA (fun w5 q1=>?_) ?_
 ·go_simp
 simp only[pZ,nZ,bZ,List.set]
 refine tqZ 7 (.int .u16 xs.length) [10,8] hA (fun w5 q1=>?_) ?_
 ·go_simp
 simp only[pZ,nZ,bZ,List.set]
 refine tqZ 9 (.slice xa xs.length xc) [10] hA (fun w5 q1=>?_) ?_
 ·go_simp
 simp only[pZ,nZ,bZ,List.set]
 refine wpG_do (i:=2) rfl (by kernel_rfl) rfl (fun K hK=>?_)
 have HKK:=hid hK
 clear hK
 go_step
 refine(flagv_any f _).mono ?_
 rintro e wf ⟨rfl,rfl⟩
 simp only[]
 refine HKK.out _ _ hA ?_
 clear HKK
 simp only[pZ,nZ,bZ,List.set]
 refine wpG_do (i:=3) rfl (by kernel_rfl) rfl (fun K hK=>?_)
 have HKK:=hid hK
 clear hK
 go_step
 have ua:Upd (fun _=>False) wd (wd.alloc (.cells #[.int .u8 (flagF f)] 5)):=(Upd.refl _ _).alloc _
 have HB1:=hid (one_in wd (flagF f))
 have hA:=(ua.block _ (lt_of_heap hA) (fun e=>e)).trans hA
 have HK7:=hid (HK7.out.step ua (fun _ _ _ e=>e))
 have HU:=hid (HU.out.trans ua);have HO:=hid (OwnB.keptF HO.out ua (fun _ _ e=>e))
 refine HKK.out _ _ hA ?_
 generalize wd.alloc (.cells #[.int .u8 (flagF f)] 5)=we at HB1 hA HU HO HK7 ⊢
 clear ua
 clear HKK
 simp only[pZ,nZ,bZ,List.set]
 refine wpG_do (i:=4) rfl (by kernel_rfl) rfl (fun K hK=>?_)
 have HKK:=hid hK
 clear hK
 refine wp_appB (.tmp 5) (.tmp 8) rfl rfl HO.out rfl HB1.out (by simp;omega) HU.out.size ?_
 intro v1 w1 g1 g2
 have hA:=(g2.block _ (lt_of_heap hA) (fun e=>HNB.out _ e rfl)).trans hA
 have HK7:=hid (HK7.out.step g2 (fun k cs hk e=>own_apart HO.out hk (by decide) k e rfl))
 have HU:=hid (HU.out.step g2 (fun j hj e=>by have:=(HO.out.lt j e).1;omega));have HO:=hid g1
 refine HKK.out _ _ hA ?_
 clear g1 g2
 clear HKK
 simp only[pZ,nZ,bZ,List.set]
 refine wpG_do (i:=8) rfl (by kernel_rfl) rfl (fun K hK=>?_)
 have HKK:=hid hK
 clear hK
 go_step
 refine(put16_any w1 (by simp;omega) HO.out.bytesIn (by omega)).mono ?_
 rintro e w2 ⟨v2,rfl,g1,g2⟩
 have HBO:=hid (lt_of_heap hA)
 have hA:=(g2.block _ (lt_of_heap hA) (fun e=>e)).trans hA
 have HSZ2:=hid g2.size
 have HSZ:=hid HU.out.size
 have HK7:=hid (HK7.out.step g2 (fun _ _ _ e=>e))
 have HU:=hid (HU.out.trans g2);have HO:=hid g1
 simp only[]
 refine HKK.out _ _ hA ?_
 clear g1 g2
 clear HKK
 simp only[pZ,nZ,bZ,List.set]
 refine wpG_do (i:=10) rfl (by kernel_rfl) rfl (fun K hK=>?_)
 have HKK:=hid hK
 clear hK
 refine wp_appB (.tmp 13) (.tmp 14) rfl rfl HO.out rfl (HX.out.kept HU.out) (by simp[layF_length];omega) HSZ2.out ?_
 intro v3 w3 g1 g2
 have hA:=(g2.block _ (lt_of_heap hA) (fun e=>by have:=(HO.out.lt bo e).1;have:=HBO.out;omega)).trans hA
 have HK7:=hid (HK7.out.step g2 (fun k cs hk e=>own_apart HO.out hk (by decide) k e rfl))
 have HU:=hid (HU.out.step g2 (fun j hj e=>by have:=(HO.out.lt j e).1;have:=HSZ.out;omega));have HO:=hid g1
 obtain⟨ta,tm,tc,ht3⟩:=g1.bytesAt.1.slice'
 refine HKK.out _ _ hA ?_
 clear g1 g2
 subst ht3
 clear HKK
 simp only[pZ,nZ,bZ,List.set]
 refine wpG_tail_lit (k:=11) rfl rfl (by kernel_rfl) ?_
 simp only[List.drop]
 have c0:=cells1_of hA
 have f0:w3.frozen? ⟨bo,0,none⟩=false:=frozen_of_heap hA
 have HA:=hid hA
 clear hA
 go_wp2
 refine bodyPost_end (results_none rfl _ _ _) rfl ?_
 have hu9:Upd (fun k=>k=bo) w3 (w3.setCell ⟨bo,0,none⟩ (.slice ta tm tc)):=upd_own w3 bo 0 _
 have hne: ∀k,(Value.slice ta tm tc).ownBlock=some k→ ¬k=bo:=fun k hk e=>by have:=(HO.out.lt k hk).1;have:=HBO.out;omega
 refine⟨⟨_,rfl⟩,⟨.slice ta tm tc,?_,?_,hne,HB.out,HU.out.step hu9 (fun j hj e=>by have:=HB.out;omega)⟩,HK7.out.step hu9 (fun k cs hk e=>by
  rw[e,HA.out] at hk
  injection hk with hk
  injection hk with _ hk _
  exact absurd hk (by decide))⟩
 ·have:=blk_set (i:=0) (v:=.slice ta tm tc) HA.out
  simpa using this
 ·have:=OwnB.keptF (OwnB.mono HO.out HSZ.out) hu9 hne
  simpa [maybeF] using this
end
end Go.Proofs.YtbimkhdiplnbfaaGreat
