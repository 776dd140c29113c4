/- The register's map, cloned. -/
import Derived.Test.YtbimkhdiplnbfaaGreatO3
import Derived.Test.YtbimkhdiplnbfaaGreatO18
import Derived.Test.YtbimkhdiplnbfaaGreatO20
import Derived.Test.YtbimkhdiplnbfaaGreatO21
import Derived.Test.YtbimkhdiplnbfaaGreatO23
import Derived.Test.YtbimkhdiplnbfaaGreatO24
import Derived.Sort.KeysCollected
import Derived.Deep.CutBlock
open Go.Lib (hid)
set_option linter.unusedVariables false
set_option linter.unusedSimpArgs false
namespace Go.Proofs.YtbimkhdiplnbfaaGreat
set_option maxRecDepth 1000000
set_option maxHeartbeats 16000000
section
open Go.RowKit Go.Shelf
theorem mapclone_any {b n:Nat}{C:Nat→Prop}{M:ByteArray→Option (List Int)}(w:World)(h:MapAt w b n C M):
  Calls Tryz.prog 153 #[.map (some b)] w fun e w'=>e=.returned (.map (some w.heap.size))∧MapAt w' w.heap.size n C M∧MapAt w' b n C M∧Upd (fun _=>False) w w':=by
 obtain⟨D,h1,h0,h2⟩:=h
 obtain⟨es,clock,hb,F,hs,hD⟩:=h1
 have hcon:=AnyW.maps_Clone Tryz.cloneMap b es clock w hb
 change Calls Tryz.prog 153 _ _ _ at hcon
 refine hcon.mono ?_
 rintro e w' ⟨he,rfl⟩
 have hu:Upd (fun _=>False) w (w.alloc (.map es clock)):=(Upd.refl _ w).alloc _
 have hv: ∀s:ByteArray,s.size≤maxLen→ ∃v,D.atKey (.string s.data.toList) (.held (.slice none 0 0))=.held v∧Maps.has D (.string s.data.toList)=(M s).isSome∧BytesAt (w.alloc (.map es clock)) C v ((M s).getD []):=fun s hs=>by
  obtain⟨v,k1,k2,k3⟩:=h2 s hs
  exact⟨v,k1,k2,k3.kept hu (fun _ _ e=>e)⟩
 exact⟨he,⟨D,⟨es,clock,alloc_at rfl,F,hs,hD⟩,h0.kept hu (fun _ _ e=>e),hv⟩,⟨D,⟨es,clock,(hu.block _ (lt_of_heap hb) (fun e=>e)).trans hb,F,hs,hD⟩,h0.kept hu (fun _ _ e=>e),hv⟩,hu⟩
abbrev KV:=List (ByteArray×List Int)
def nb (s:ByteArray):List UInt8:=s.data.toList
theorem nb_inj {s t:ByteArray}(h:nb s=nb t):s=t:=ByteArray.ext (Array.toList_inj.1 h)
def KV.get (l:KV)(s:ByteArray):Option (List Int):=(l.find? (fun p=>decide (p.1=s))).map (·.2)
def KV.del (l:KV)(s:ByteArray):KV:=l.filter (fun p=>!decide (p.1=s))
def KV.ins:KV→ByteArray→List Int→KV
 | [],s,v=>[(s,v)]
 |p :: r,s,v=>if nb s<nb p.1 then(s,v) :: p :: r else p :: KV.ins r s v
def KV.put (l:KV)(s:ByteArray)(v:List Int):KV:=(l.del s).ins s v
def KV.Rising (l:KV):Prop:=l.Pairwise (fun p q=>nb p.1<nb q.1)
theorem KV.mem_ins: ∀(l:KV) (s:ByteArray) (v:List Int) (x:ByteArray×List Int),x∈l.ins s v↔x=(s,v)∨x∈l
 | [],s,v,x=>by simp[KV.ins]
 |p :: r,s,v,x=>by
  simp only[KV.ins]
  split
  ·simp
  ·simp only[List.mem_cons,KV.mem_ins r s v x]
   constructor
   ·rintro(h | h | h)
    ·exact .inr (.inl h)
    ·exact .inl h
    ·exact .inr (.inr h)
   ·rintro(h | h | h)
    ·exact .inr (.inl h)
    ·exact .inl h
    ·exact .inr (.inr h)
theorem KV.mem_del (l:KV)(s:ByteArray)(x:ByteArray×List Int):x∈l.del s↔x∈l∧x.1≠s:=by
 simp[KV.del]
theorem KV.Rising.del {l:KV}(h:l.Rising)(s:ByteArray):(l.del s).Rising:=h.filter _
theorem KV.Rising.ins: ∀{l:KV},l.Rising→ ∀(s:ByteArray) (v:List Int),(∀p∈l,p.1≠s)→(l.ins s v).Rising
 | [],_,s,v,_=>by simp[KV.ins,KV.Rising]
 |p :: r,h,s,v,hn=>by
  simp only[KV.ins]
  unfold KV.Rising at h ⊢
  rw[List.pairwise_cons] at h
  split
  ·rename_i hlt
   rw[List.pairwise_cons,List.pairwise_cons]
   refine⟨fun q hq=>?_,h.1,h.2⟩
   rcases List.mem_cons.1 hq with rfl | hq
   ·exact hlt
   ·exact List.lt_trans hlt (h.1 q hq)
  ·rename_i hlt
   rw[List.pairwise_cons]
   refine⟨fun q hq=>?_,KV.Rising.ins h.2 s v (fun q hq=>hn q (List.mem_cons_of_mem _ hq))⟩
   rcases(KV.mem_ins r s v q).1 hq with rfl | hq
   ·have hne:=hn p (List.mem_cons_self ..)
    rcases Decidable.em (nb p.1<nb s) with h1 | h1
    ·exact h1
    ·exact absurd (nb_inj (List.le_antisymm (List.not_lt.1 hlt) (List.not_lt.1 h1))) hne
   ·exact h.1 q hq
theorem KV.Rising.put {l:KV}(h:l.Rising)(s:ByteArray)(v:List Int):(l.put s v).Rising:=
 (h.del s).ins s v (fun p hp=>((KV.mem_del l s p).1 hp).2)
theorem KV.Rising.one {l:KV}(h:l.Rising){x y:ByteArray×List Int}(hx:x∈l)(hy:y∈l)(e:x.1=y.1):x=y:=by
 induction l with
 |nil=>cases hx
 |cons p r ih=>
  unfold KV.Rising at h
  rw[List.pairwise_cons] at h
  rcases List.mem_cons.1 hx with hx' | hx'
  ·rcases List.mem_cons.1 hy with hy' | hy'
   ·rw[hx',hy']
   ·have:=h.1 y hy'
    rw[←hx',e] at this
    exact absurd this (List.lt_irrefl _)
  ·rcases List.mem_cons.1 hy with hy' | hy'
   ·have:=h.1 x hx'
    rw[←hy',e] at this
    exact absurd this (List.lt_irrefl _)
   ·exact ih h.2 hx' hy'
theorem KV.get_some {l:KV}(h:l.Rising){s:ByteArray}{v:List Int}:l.get s=some v↔(s,v)∈l:=by
 unfold KV.get
 constructor
 ·intro e
  rw[Option.map_eq_some_iff] at e
  obtain⟨x,hx,rfl⟩:=e
  have h1:=List.find?_some hx
  have h2:=List.mem_of_find?_eq_some hx
  simp only[decide_eq_true_eq] at h1
  rw[←h1]
  exact h2
 ·intro hm
  cases hf:l.find? (fun p=>decide (p.1=s)) with
  |none=>
   have:=List.find?_eq_none.1 hf _ hm
   simp at this
  |some x=>
   have h1:=List.find?_some hf
   have h2:=List.mem_of_find?_eq_some hf
   simp only[decide_eq_true_eq] at h1
   have:=h.one h2 hm h1
   rw[this]
   rfl
theorem opt_ext {o o':Option (List Int)}(h: ∀v,o=some v↔o'=some v):o=o':=by
 cases o with
 |none=>
  cases o' with
  |none=>rfl
  |some v=>have:=(h v).2 rfl;cases this
 |some v=>exact((h v).1 rfl).symm
theorem KV.get_put {l:KV}(h:l.Rising)(s:ByteArray)(v:List Int):(l.put s v).get=setM l.get s (some v):=by
 funext t
 refine opt_ext fun x=>?_
 rw[KV.get_some (h.put s v)]
 unfold KV.put setM
 rw[KV.mem_ins,KV.mem_del]
 by_cases e:t=s
 ·subst e
  simp
  exact eq_comm
 ·simp only[if_neg e,KV.get_some h]
  constructor
  ·rintro(h1 | h1)
   ·exact absurd (Prod.mk.inj h1).1 e
   ·exact h1.1
  ·exact fun h1=>.inr ⟨h1,e⟩
theorem KV.get_del {l:KV}(h:l.Rising)(s:ByteArray):(l.del s).get=setM l.get s none:=by
 funext t
 refine opt_ext fun x=>?_
 rw[KV.get_some (h.del s)]
 unfold setM
 rw[KV.mem_del]
 by_cases e:t=s
 ·subst e
  simp
 ·simp only[if_neg e,KV.get_some h]
  exact⟨fun h1=>h1.1,fun h1=>⟨h1,e⟩⟩
def MapKV (w:World)(b n:Nat)(C:Nat→Prop)(l:KV):Prop:=MapAt w b n C l.get∧l.Rising∧ ∀x∈l,x.1.size≤maxLen
theorem MapKV.perm {w:World}{b n:Nat}{C:Nat→Prop}{l:KV}(h:MapKV w b n C l): ∃D:DataW Value,w.ownsMap Tryz.prog 9 RV b n D∧(l.map (fun p=>nb p.1)).Perm (strKeys D)∧Maps.size D=l.length:=by
 obtain⟨⟨D,h1,_,h2⟩,h3,h4⟩:=h
 obtain⟨es,rfl,hp⟩:=h1.tidy (Maps.string_keyed Tryz.underlying9s')
 obtain⟨es',e,hk⟩:=h1.keysOf
 injection e with e
 subst e
 have hks: ∀p∈es,∃x,p.1=.string x:=fun p hp=>by
  obtain⟨v,hv⟩:=hk p hp
  obtain⟨x,_,hx,_⟩:=Maps.keyOf_str Tryz.underlying9s' hv
  exact⟨x,hx⟩
 have hnd:(l.map (fun p=>nb p.1)).Nodup:=by
  refine List.pairwise_map.2 (h3.imp fun {p q} hpq e=>?_)
  rw[e] at hpq
  exact absurd hpq (List.lt_irrefl _)
 have hm: ∀x,x∈l.map (fun p=>nb p.1)↔Maps.has (.map es) (.string x)=true:=fun x=>by
  rw[List.mem_map]
  constructor
  ·rintro⟨p,hp,rfl⟩
   obtain⟨v,_,k2,_⟩:=h2 p.1 (h4 p hp)
   have:l.get p.1=some p.2:=(KV.get_some h3).2 hp
   rw[this] at k2
   exact k2
  ·intro hx
   have hx':=hx
   rw[Maps.has_eq,List.any_eq_true] at hx'
   obtain⟨p,hp,hs⟩:=hx'
   have e1:=WideAt.sameKey_eq hs
   obtain⟨v,hv⟩:=hk p hp
   obtain⟨y,_,hy,hlen⟩:=Maps.keyOf_str Tryz.underlying9s' hv
   rw[hy] at e1
   injection e1 with e1
   subst e1
   obtain⟨v',_,k2,_⟩:=h2 ⟨⟨y⟩⟩ (by simpa [ByteArray.size] using hlen)
   have k2':(l.get ⟨⟨y⟩⟩).isSome=true:=by rw[←k2];exact hx
   obtain⟨bs,hbs⟩:=Option.isSome_iff_exists.1 k2'
   exact⟨(⟨⟨y⟩⟩,bs),(KV.get_some h3).1 hbs,rfl⟩
 have hperm:=perm_strKeys hp hks hnd hm
 refine⟨_,h1,hperm,?_⟩
 have:=hperm.length_eq
 simp only[List.length_map,strKeys] at this
 rw[Maps.size_eq]
 exact this.symm
theorem MapKV.made (w:World):MapKV (w.alloc (.map #[] 0)) w.heap.size 0 (fun _=>False) []:=⟨MapAt.made w,List.Pairwise.nil,fun x hx=>by cases hx⟩
theorem MapAt.kept {F C:Nat→Prop}{w w':World}{b n:Nat}{M:ByteArray→Option (List Int)}(h:MapAt w b n C M)(hu:Upd F w w')(hb: ¬F b)(hc: ∀k,C k→ ¬F k):MapAt w' b n C M:=by
 obtain⟨D,⟨es,c,hb',r⟩,h0,h2⟩:=h
 refine⟨D,⟨es,c,(hu.block _ (lt_of_heap hb') hb).trans hb',r⟩,h0.kept hu hc,fun s hs=>?_⟩
 obtain⟨v,k1,k2,k3⟩:=h2 s hs
 exact⟨v,k1,k2,k3.kept hu hc⟩
theorem MapKV.kept {F C:Nat→Prop}{w w':World}{b n:Nat}{l:KV}(h:MapKV w b n C l)(hu:Upd F w w')(hb: ¬F b)(hc: ∀k,C k→ ¬F k):MapKV w' b n C l:=⟨h.1.kept hu hb hc,h.2⟩
theorem MapKV.kept0 {C:Nat→Prop}{w w':World}{b n:Nat}{l:KV}(h:MapKV w b n C l)(hu:Upd (fun _=>False) w w'):MapKV w' b n C l:=h.kept hu (fun e=>e) (fun _ _ e=>e)
theorem MapKV.lt {C:Nat→Prop}{w:World}{b n:Nat}{l:KV}(h:MapKV w b n C l):b<w.heap.size:=by
 obtain⟨es,c,h1⟩:=h.1.isMapBlock
 exact lt_of_heap h1
theorem MapKV.put {w:World}{b n:Nat}{C E:Nat→Prop}{l:KV}{s:ByteArray}{v:Value}{bs:List Int}(h:MapKV w b n C l)(hn:n<maxLen)(hs:s.size≤maxLen)(hv:BytesAt w E v bs)(hE:RowC w E):
  ∃w',(Instr.mapUpdate 165 (.map (some b)) (.string s) v).run Tryz.prog w=.ok () w'∧MapKV w' b (n+1) (fun k=>C k∨E k) (l.put s bs)∧Upd (fun k=>k=b) w w':=by
 obtain⟨w',hr,h1,h2⟩:=h.1.put hn hs hv hE
 refine⟨w',hr,⟨by rw[KV.get_put h.2.1];exact h1,h.2.1.put s bs,fun x hx=>?_⟩,h2⟩
 unfold KV.put at hx
 rw[KV.mem_ins,KV.mem_del] at hx
 rcases hx with rfl | hx
 ·exact hs
 ·exact h.2.2 x hx.1
theorem MapKV.del {w:World}{b n:Nat}{C:Nat→Prop}{l:KV}{s:ByteArray}(h:MapKV w b n C l)(hs:s.size≤maxLen)(ty:TypeId):
  ∃w',(Builtin.delete_ #[165,9] ty #[.map (some b),.string s]).run Tryz.prog w=.ok (.tuple #[]) w'∧MapKV w' b n C (l.del s)∧Upd (fun k=>k=b) w w':=by
 obtain⟨w',hr,h1,h2⟩:=h.1.del hs ty
 exact⟨w',hr,⟨by rw[KV.get_del h.2.1];exact h1,h.2.1.del s,fun x hx=>h.2.2 x ((KV.mem_del l s x).1 hx).1⟩,h2⟩
theorem MapKV.len {w:World}{b n:Nat}{C:Nat→Prop}{l:KV}(h:MapKV w b n C l)(ty:TypeId):(Builtin.len_ #[165] ty #[.map (some b)]).run Tryz.prog w=.ok (.int .i64 l.length) w:=by
 obtain⟨D,h1,_,h3⟩:=h.perm
 rw[←h3]
 exact h1.len Tryz.underlying165 ty
def SetV.thought (l0:KV)(x:SetV):Bool:=((l0.get x.name).isSome == x.was) && decide ((l0.get x.name).getD []=x.old)
def KV.with (l:KV)(x:SetV):KV:=if x.is then l.put x.name x.new else l.del x.name
def KV.withs (l:KV)(r:List SetV):KV:=r.foldl KV.with l
def doE (ev:Int)(l:KV)(B:BatchV):Int:=
 if B.epoch<ev then 300 else if B.sets.all (SetV.thought l) then(if 48<(l.withs B.sets).length then 6 else 0) else 301
theorem KV.withs_snoc (l:KV)(r:List SetV)(x:SetV):l.withs (r++[x])=(l.withs r).with x:=by simp[KV.withs]
structure KV.Fine (l:KV):Prop where
 rising:l.Rising
 len:l.length≤48
 each: ∀p∈l,1≤p.1.size∧p.1.size≤24∧p.2.length≤3000∧Bytes p.2
theorem KV.Fine.nil:KV.Fine []:=⟨List.Pairwise.nil,by simp,fun p hp=>by cases hp⟩
theorem KV.mem_with {l:KV}{x:SetV}{p:ByteArray×List Int}(h:p∈l.with x):p=(x.name,x.new)∨p∈l:=by
 unfold KV.with at h
 split at h
 ·unfold KV.put at h
  rw[KV.mem_ins,KV.mem_del] at h
  exact h.imp_right (·.1)
 ·rw[KV.mem_del] at h
  exact .inr h.1
theorem KV.rising_withs {l:KV}(h:l.Rising): ∀(r:List SetV),(l.withs r).Rising:=by
 intro r
 induction r generalizing l with
 |nil=>exact h
 |cons x r ih=>
  show((l.with x).withs r).Rising
  refine ih ?_
  unfold KV.with
  split
  ·exact h.put _ _
  ·exact h.del _
theorem KV.mem_withs {p:ByteArray×List Int}: ∀(r:List SetV) {l:KV},p∈l.withs r→(∃x∈r,p=(x.name,x.new))∨p∈l
 | [],l,h=>.inr h
 |x :: r,l,h=>by
  rcases KV.mem_withs r (l:=l.with x) h with ⟨y,hy,e⟩ | h1
  ·exact .inl ⟨y,by simp[hy],e⟩
  ·rcases KV.mem_with h1 with e | h2
   ·exact .inl ⟨x,by simp,e⟩
   ·exact .inr h2
theorem BatchV.right_sets {B:BatchV}(h:B.right=true):B.epoch≤4611686018427387904∧B.sets.length≤48∧ ∀x∈B.sets,x.right=true:=by
 simp only[BatchV.right,Bool.and_eq_true,decide_eq_true_eq,List.all_eq_true] at h
 exact⟨h.1.1.1,h.1.1.2,h.1.2⟩
theorem SetV.right_of {x:SetV}(h:x.right=true):1≤x.name.size∧x.name.size≤24∧x.old.length≤3000∧x.new.length≤3000∧(x.was=false→x.old=[])∧(x.is=false→x.new=[]):=by
 simpa only[SetV.right,decide_eq_true_eq] using h
theorem doE_fine {ev:Int}{l:KV}{B:BatchV}(hl:l.Fine)(hr:B.right=true)(hk:B.Ok)(h:doE ev l B=0):(l.withs B.sets).Fine∧ev≤B.epoch:=by
 unfold doE at h
 split at h
 ·omega
 ·rename_i h1
  split at h
  ·split at h
   ·omega
   ·rename_i h2
    refine⟨⟨KV.rising_withs hl.rising _,by omega,fun p hp=>?_⟩,by omega⟩
    rcases KV.mem_withs _ hp with ⟨x,hx,rfl⟩ | hp
    ·have:=SetV.right_of ((BatchV.right_sets hr).2.2 x hx)
     exact⟨this.1,this.2.1,this.2.2.2.1,(hk.sets x hx).new⟩
    ·exact hl.each p hp
  ·omega
def wholeB (ev:Int)(l:KV):BatchV:=⟨ev,false,l.map fun p=>⟨p.1,false,true,[],p.2⟩⟩
def wholeF (ev:Int)(l:KV):List Int:=encF (wholeB ev l)
theorem onceF_of {l:List SetV}(h:l.Pairwise (fun x y=>y.name≠x.name)):onceF l=true:=by
 induction l with
 |nil=>rfl
 |cons x l ih=>
  rw[List.pairwise_cons] at h
  simp only[onceF,Bool.and_eq_true,ih h.2,true_and,Bool.not_eq_true',List.any_eq_false,decide_eq_true_eq]
  exact fun y hy=>h.1 y hy
theorem whole_right {ev:Int}{l:KV}(hl:l.Fine)(he:ev≤4611686018427387904):(wholeB ev l).right=true:=by
 unfold BatchV.right
 rw[Bool.and_eq_true,Bool.and_eq_true,Bool.and_eq_true]
 refine⟨⟨⟨decide_eq_true he,decide_eq_true (by simpa [wholeB] using hl.len)⟩,List.all_eq_true.2 fun x hx=>?_⟩,onceF_of (List.pairwise_map.2 (hl.rising.imp fun {p q} hpq e=>?_))⟩
 ·simp only[wholeB] at hx
  rw[List.mem_map] at hx
  obtain⟨p,hp,rfl⟩:=hx
  have:=hl.each p hp
  simp only[SetV.right,decide_eq_true_eq]
  exact⟨this.1,this.2.1,by simp,this.2.2.1,by simp,by simp⟩
 ·simp only at e
  rw[e] at hpq
  exact absurd hpq (List.lt_irrefl _)
theorem whole_ok {ev:Int}{l:KV}(hl:l.Fine)(h0:0≤ev)(he:ev≤4611686018427387904):(wholeB ev l).Ok:=by
 refine⟨by show 0≤ev∧ev≤18446744073709551615;omega,fun x hx=>?_⟩
 simp only[wholeB,List.mem_map] at hx
 obtain⟨p,hp,rfl⟩:=hx
 exact⟨fun y hy=>by simp at hy,(hl.each p hp).2.2.2⟩
end
section
open Go.RowKit Go.Maps Go.Sort Go.Shelf
theorem Tryz.sorts101 (m:Nat):AnyZ.SortsIn Tryz.prog Tryz.sorted101_ren Fence.wide m:=
 ⟨fun blk off cap ss W hH hblk hsz=>callsIn_wide.2 (AnyM.slices_Sort_string Tryz.sort156 blk off cap ss W hH hblk hsz),
  fun p cap W=>callsIn_wide.2 (AnyM.slices_Sort_string_none Tryz.sort156 p cap W)⟩
theorem Tryz.maps_Keys_102 (mb:Option Nat)(W:World):CallsIn Fence.wide 5 Tryz.prog 102 #[.map mb] W fun e w'=>e=.returned (.func (.func 157) #[] #[.pointer (some ⟨W.heap.size,0,none⟩)])∧w'=W.alloc (.cells #[.map mb] 165):=
 AnyZ.keys_in Tryz.keys102 Fence.wide 5 trivial rfl mb W
theorem Tryz.slices_Sorted_keys_101_102 {H:Type}(b nn:Nat)(D0:DataW H)(R:Value→Option (DataW H×List MemPlace))(w:World)(hown:w.ownsMap Tryz.prog 9 R b nn D0)(hmax:Maps.size D0≤maxLen)(hbytes:Maps.size D0 * 16≤140737488355328):
  CallsIn Fence.wide 5 Tryz.prog 101 #[.func (.func 157) #[] #[.pointer (some ⟨w.heap.size,0,none⟩)]] (w.alloc (.cells #[.map (some b)] 165)) fun e w'=> ∃(v:Value) (ss:List (List UInt8)),e=.returned v∧ss.Perm (strKeys D0)∧
   w'.ownsRow (w.alloc (.cells #[.map (some b)] 165)).heap.size 9 1 v ss.length ((ss.mergeSort (fun x y=>decide (x≤y))).map encStr)∧(v=.slice none 0 0↔ss=[])∧Below (w.alloc (.cells #[.map (some b)] 165)).heap.size (w.alloc (.cells #[.map (some b)] 165)) w':=by
 have hbl:=hown.lt
 have hseq:SeqGives Fence.wide 2 Tryz.prog 157 #[.pointer (some ⟨w.heap.size,0,none⟩)] encStr (fun ss=>ss.Perm (strKeys D0)) (Maps.size D0) (w.alloc (.cells #[.map (some b)] 165)):=
  AnyZ.keys_gives (ρ:=Tryz.keys102_ren) {Tryz.keys102 with} Fence.wide _ trivial rfl (by omega) w.heap.size b nn D0 _ (by simp) (by simp) (by
   obtain⟨es,clock,hb,Ft,hs,hD⟩:=hown
   exact⟨es,clock,(Below.heap_alloc _ _ b hbl).trans hb,Ft,hs,hD⟩)
 exact AnyZ.sorted_in Tryz.sorted101 Fence.wide 5 trivial trivial trivial trivial rfl (by omega) (Tryz.sorts101 _) (enters_of Tryz.func156 (by kernel_rfl) rfl) 157 #[.pointer (some ⟨w.heap.size,0,none⟩)] trivial (enters_of Tryz.func157 (by kernel_rfl) rfl) _ _ hmax hbytes _ hseq
theorem keys_any (mb:Option Nat)(W:World):Calls Tryz.prog 102 #[.map mb] W fun e w'=>e=.returned (.func (.func 157) #[] #[.pointer (some ⟨W.heap.size,0,none⟩)])∧w'=W.alloc (.cells #[.map mb] 165):=callsIn_wide.1 (Tryz.maps_Keys_102 mb W)
theorem names_sorted {l:KV}(h:l.Rising):(l.map fun p=>nb p.1).mergeSort leB=l.map fun p=>nb p.1:=by
 refine List.mergeSort_of_pairwise ?_
 refine List.pairwise_map.2 (h.imp fun {p q} hpq=>?_)
 simp only[leB,decide_eq_true_eq]
 exact List.le_of_lt hpq
theorem enc_nb (s:ByteArray):Go.Proofs.encStr (nb s)=.string s:=by simp[Go.Proofs.encStr,nb]
theorem sorted_any {b n:Nat}{C:Nat→Prop}{l:KV}(w:World)(h:MapKV w b n C l)(hl:l.length≤1000):
  Calls Tryz.prog 101 #[.func (.func 157) #[] #[.pointer (some ⟨w.heap.size,0,none⟩)]] (w.alloc (.cells #[.map (some b)] 165)) fun e w'=> ∃v,e=.returned v∧w'.ownsRow w.heap.size 9 1 v l.length (l.map fun p=>.string p.1)∧Upd (fun _=>False) w w':=by
 obtain⟨D,h1,h2,h3⟩:=h.perm
 refine(callsIn_wide.1 (Tryz.slices_Sorted_keys_101_102 b n D RV w h1 (by rw[h3];unfold maxLen;omega) (by rw[h3];omega))).mono ?_
 rintro e w' ⟨v,ss,rfl,hS,hrow,hnil,hb⟩
 have hlen:ss.length=l.length:=by
  have:=(hS.trans h2.symm).length_eq
  simpa using this
 have hval:(ss.mergeSort (fun x y=>decide (x≤y))).map Go.Proofs.encStr=l.map fun p=>Value.string p.1:=by
  have e1:ss.mergeSort leB=l.map fun p=>nb p.1:=by rw[mergeSort_of_perm (hS.trans h2.symm),names_sorted h.2.1]
  have e2:ss.mergeSort (fun x y=>decide (x≤y))=l.map fun p=>nb p.1:=e1
  rw[e2,List.map_map]
  exact List.map_congr_left fun p _=>enc_nb p.1
 rw[hval,hlen] at hrow
 exact⟨v,rfl,ownsRow_base_a hrow (by simp),((Upd.refl _ w).alloc _).trans (Upd.of_below hb)⟩
end
section
open Go.RowKit Go.Shelf
def stV (ev:Int)(b:Nat):Value:=.agg #[.int .u64 ev,.map (some b)]
def DoAns (w:World)(ev:Int)(b n:Nat)(C:Nat→Prop)(l:KV)(B:BatchV)(e:Ending)(w':World):Prop:=
 Upd (fun _=>False) w w'∧((doE ev l B≠0∧e=.returned (.tuple #[stV ev b,.int .i64 (doE ev l B)]))∨
  (doE ev l B=0∧ ∃b' n' C',e=.returned (.tuple #[stV B.epoch b',.int .i64 0])∧MapKV w' b' n' C' (l.withs B.sets)∧w.heap.size≤b'∧n'≤n+B.sets.length∧ ∀k,C' k→C k∨w.heap.size≤k))
structure DoAt (w1:World) (n:Nat) (C:Nat→Prop) (l:KV) (B:BatchV) (t6 bt nn:Nat) (Ct:Nat→Prop) (k:Nat) (W:World):Prop where
 s6:W.heap[t6]?=some (.cells #[.int .u64 B.epoch,.map (some bt)] 167 (0,0))
 new:MapKV W bt nn Ct (l.withs (B.sets.take k))
 lo:w1.heap.size≤bt
 ne:bt≠t6
 lo6:w1.heap.size≤t6
 cnt:nn≤n+k
 own: ∀k,Ct k→C k∨w1.heap.size≤k
 upd:Upd (fun _=>False) w1 W
 all:(B.sets.take k).all (SetV.thought l)=true
theorem size167:(Tryz.prog.info? 167).map (·.size)=some 2:=by kernel_rfl
theorem res_at {W:World}{t:Nat}{u v:Value}(h:W.heap[t]?=some (.cells #[u,v] 167 (0,0))):(loadVar 167 ⟨t,0,none⟩).run Tryz.prog W=.ok (.agg #[u,v]) W:=
 run_loadVar_mid (P:=Tryz.prog) W t 0 167 [u,v] _ (rangeAt_block h) Tryz.underlying167 rfl size167
theorem put2 {W:World}{t:Nat}{x y u v:Value}{ty:TypeId}(h:W.heap[t]?=some (.cells #[x,y] ty (0,0))):
  ((W.setCell ⟨t,0,none⟩ u).setCell ⟨t,1,none⟩ v).heap[t]?=some (.cells #[u,v] ty (0,0))∧Upd (fun k=>k=t) W ((W.setCell ⟨t,0,none⟩ u).setCell ⟨t,1,none⟩ v):=by
 refine⟨?_,(upd_own W t 0 _).trans (upd_own _ t 1 _)⟩
 have:=blk_set (i:=1) (v:=v) (blk_set (i:=0) (v:=u) h)
 simpa using this
theorem do_any {b n c:Nat}{C:Nat→Prop}{ev:Int}{a:Option Addr}{l:KV}{B:BatchV}(w:World)(hm:MapKV w b n C l)(hn:n≤1000000)(hl:l.Fine)(hs:SetsIn w a B.sets)(hr:B.right=true):
  Calls Tryz.prog 96 #[stV ev b,batchV B a c] w (DoAns w ev b n C l B):=by
 obtain⟨w1,hw1⟩: ∃w1,w1=((w.alloc (.cells #[.int .u64 ev,.map (some b)] 167)).alloc (.cells #[.int .u64 B.epoch,.bool B.large,.slice a B.sets.length c] 56)).alloc (.cells #[.int .u64 0,.map none] 167):=⟨_,rfl⟩
 have hx2:w1.heap[w.heap.size]?=some (.cells #[.int .u64 ev,.map (some b)] 167 (0,0)):=by rw[hw1,alloc_lt (by simp;omega),alloc_lt (by simp)];exact alloc_at rfl
 have hx3:w1.heap[w.heap.size+1]?=some (.cells #[.int .u64 B.epoch,.bool B.large,.slice a B.sets.length c] 56 (0,0)):=by rw[hw1,alloc_lt (by simp)];exact alloc_at (by simp)
 have hx4:w1.heap[w.heap.size+2]?=some (.cells #[.int .u64 0,.map none] 167 (0,0)):=by rw[hw1];exact alloc_at (by simp)
 have hz1:w.heap.size+3≤w1.heap.size:=by rw[hw1];simp
 have hu1:Upd (fun _=>False) w w1:=by rw[hw1];exact(((Upd.refl _ w).alloc _).alloc _).alloc _
 have HM:=hid hm;have HS:=hid hs;have HW1:=hid hw1;have HX2:=hid hx2;have HX3:=hid hx3;have HX4:=hid hx4;have HZ:=hid hz1;have HU:=hid hu1;have HU0:=hid hu1;have HL:=hid hl;have HR:=hid hr
 have HSL:=hid (BatchV.right_sets hr).2.1
 obtain⟨x0,x1⟩:=cells2_of hx2
 obtain⟨y0,y1,y2⟩:=cells3_of hx3
 clear hm hs hw1 hx2 hx3 hx4 hz1 hu1 hl hr
 unfold stV batchV
 go_enter Tryz.func96,Tryz.ntmps96
 go_upto_region 1 with fail
 rw[←HW1.out]
 clear HW1
 by_cases hp:B.epoch<ev
 ·have HE:=hid (show doE ev l B=300 by unfold doE;rw[if_pos hp])
  obtain⟨z0,z1⟩:=cells2_of HX4.out
  have f0:w1.frozen? ⟨w.heap.size+2,0,none⟩=false:=frozen_of_heap HX4.out
  have f1:w1.frozen? ⟨w.heap.size+2,1,none⟩=false:=frozen_of_heap HX4.out
  go_wp2
  obtain⟨p1,p2⟩:=put2 (u:=.int .u64 ev) (v:=.map (some b)) HX4.out
  refine bodyPost_ret (results_cell_tmp Tryz.results96 rfl (res_at p1)) rfl ?_
  exact⟨HU.out.step p2 (fun k hk e=>by omega),.inl ⟨by rw[HE.out];decide,by rw[HE.out];rfl⟩⟩
 ·go_upto_region 3 with fail
  have hA:w1.drew.cell? ⟨w.heap.size+1,0,none⟩=some (.int .u64 B.epoch)∧w1.drew.cell? ⟨w.heap.size,1,none⟩=some (.map (some b)):=⟨y0,x1⟩
  have HMD:=hid ((HM.out.kept0 HU.out).kept0 ((Upd.refl (fun _=>False) w1).drew))
  have HU:=hid ((Upd.refl (fun _=>False) w1).drew)
  have HP:=hid hp
  clear x0 x1 y0 y1 y2 hp
  go_cut [6] from 17 to 23 (fun v wx=> ∃t6 bt nn Ct,v=.pointer (some ⟨t6,0,none⟩)∧DoAt w1 n C l B t6 bt nn Ct 0 wx)
  case first=>
   refine wp_region_G 7 (fun W=>W.cell? ⟨w.heap.size+1,0,none⟩=some (.int .u64 B.epoch)∧W.cell? ⟨w.heap.size,1,none⟩=some (.map (some b))) [false,false,false,false,false,false,false,false] rfl (by kernel_rfl) ?_
   generalize w1.drew=wd at hA HU HMD ⊢
   refine tqZ 0 (.pointer (some ⟨w.heap.size+1,0,none⟩)) [] hA (fun w5 q1=>?_) ?_
   ·go_simp
   simp only[pZ,nZ,bZ,List.set]
   refine tqZ 1 (.int .u64 B.epoch) [] hA (fun w5 q1=>?_) ?_
   ·obtain⟨c0,c1⟩:=q1
    go_simp
   simp only[pZ,nZ,bZ,List.set]
   refine tqZ 2 (.pointer (some ⟨w.heap.size,1,none⟩)) [] hA (fun w5 q1=>?_) ?_
   ·go_simp
   simp only[pZ,nZ,bZ,List.set]
   refine tqZ 3 (.map (some b)) [] hA (fun w5 q1=>?_) ?_
   ·obtain⟨c0,c1⟩:=q1
    go_simp
   simp only[pZ,nZ,bZ,List.set]
   refine wpG_do2 (i:=4) (j:=6) rfl rfl (by kernel_rfl) rfl rfl (fun K hK=>?_) (fun K hK=>?_)
   ·have HKK:=hid hK
    clear hK
    go_step
    refine(mapclone_any wd HMD.out.1).mono ?_
    rintro e wd1 ⟨rfl,g1,g2,g3⟩
    have HT:=hid (show MapKV wd1 wd.heap.size n C l from⟨g1,HMD.out.2⟩)
    have HLO:=hid (show w1.heap.size≤wd.heap.size from HU.out.size)
    have hA:=(⟨cell_keptF g3 (fun e=>e) hA.1,cell_keptF g3 (fun e=>e) hA.2⟩:_∧_)
    have HU:=hid (HU.out.trans g3)
    clear g1 g2
    refine HKK.out _ _ hA ?_
    clear HKK
    simp only[pZ,nZ,bZ,List.set]
    generalize wd.heap.size=bt at HT HLO ⊢
    clear g3
    refine tqZ 5 (.agg #[.int .u64 B.epoch,.map (some bt)]) [] hA (fun w5 q1=>?_) ?_
    ·go_simp
    simp only[pZ,nZ,bZ,List.set]
    refine wpG_do (i:=6) rfl (by kernel_rfl) rfl (fun K hK=>?_)
    have HKK:=hid hK
    clear hK
    go_step
    have ua:Upd (fun _=>False) wd1 (wd1.alloc (.cells #[.int .u64 0,.map none] 167)):=(Upd.refl _ _).alloc _
    have HT6:=hid (show w1.heap.size≤wd1.heap.size from HU.out.size)
    have HX:=hid (alloc_at (w:=wd1) (o:=.cells #[.int .u64 0,.map none] 167) (k:=wd1.heap.size) rfl)
    have hA:=(⟨cell_keptF ua (fun e=>e) hA.1,cell_keptF ua (fun e=>e) hA.2⟩:_∧_)
    have HNE:=hid (show bt≠wd1.heap.size from Nat.ne_of_lt HT.out.lt)
    have HT:=hid (HT.out.kept0 ua)
    have HU:=hid (HU.out.trans ua)
    clear ua
    refine HKK.out _ _ hA ?_
    clear HKK
    simp only[pZ,nZ,bZ,List.set]
    generalize wd1.alloc (.cells #[.int .u64 0,.map none] 167)=wd2 at HX hA HU HT ⊢
    generalize wd1.heap.size=t6 at HX HT6 HNE ⊢
    refine wpG_tail_lit (k:=7) rfl rfl (by kernel_rfl) ?_
    simp only[List.drop]
    have f0:wd2.frozen? ⟨t6,0,none⟩=false:=frozen_of_heap HX.out
    have f1:wd2.frozen? ⟨t6,1,none⟩=false:=frozen_of_heap HX.out
    obtain⟨d0,d1⟩:=cells2_of HX.out
    go_wp2
    go_meet
    case rel=>
     obtain⟨w9,hw9⟩: ∃w9,w9=(wd2.setCell ⟨t6,0,none⟩ (.int .u64 B.epoch)).setCell ⟨t6,1,none⟩ (.map (some bt)):=⟨_,rfl⟩
     rw[←hw9]
     have hu9:Upd (fun k=>k=t6) wd2 w9:=by rw[hw9];exact(upd_own wd2 t6 0 _).trans (upd_own _ t6 1 _)
     have hx9:w9.heap[t6]?=some (.cells #[.int .u64 B.epoch,.map (some bt)] 167 (0,0)):=by
      rw[hw9]
      have:=blk_set (i:=1) (v:=.map (some bt)) (blk_set (i:=0) (v:=.int .u64 B.epoch) HX.out)
      simpa using this
     have hap:=HT.out.1.rowC
     have hC: ∀k,C k→ ¬k=t6:=fun k hk e=>by
      obtain⟨cs,h1⟩:=hap k hk
      rw[e,HX.out] at h1
      injection h1 with h1
      injection h1 with _ h1
      exact absurd h1 (by decide)
     have q6:=HT6.out
     exact⟨t6,bt,n,C,rfl,⟨hx9,HT.out.kept hu9 (HNE.out) hC,HLO.out,HNE.out,q6,by omega,fun k hk=>.inl hk,HU.out.step hu9 (fun k hk e=>by omega),rfl⟩⟩
   ·have HKK:=hid hK
    clear hK
    go_step
    have ua:Upd (fun _=>False) wd (wd.alloc (.cells #[.int .u64 0,.map none] 167)):=(Upd.refl _ _).alloc _
    have HT6:=hid (show w1.heap.size≤wd.heap.size from HU.out.size)
    have HX:=hid (alloc_at (w:=wd) (o:=.cells #[.int .u64 0,.map none] 167) (k:=wd.heap.size) rfl)
    have hA:=(⟨cell_keptF ua (fun e=>e) hA.1,cell_keptF ua (fun e=>e) hA.2⟩:_∧_)
    have HU:=hid (HU.out.trans ua)
    have HMD:=hid (HMD.out.kept0 ua)
    clear ua
    refine HKK.out _ _ hA ?_
    clear HKK
    simp only[pZ,nZ,bZ,List.set]
    generalize wd.alloc (.cells #[.int .u64 0,.map none] 167)=wd1 at HX hA HU HMD ⊢
    generalize wd.heap.size=t6 at HX HT6 ⊢
    refine wpG_do (i:=4) rfl (by kernel_rfl) rfl (fun K hK=>?_)
    have HKK:=hid hK
    clear hK
    go_step
    refine(mapclone_any wd1 HMD.out.1).mono ?_
    rintro e wd2 ⟨rfl,g1,g2,g3⟩
    have HT:=hid (show MapKV wd2 wd1.heap.size n C l from⟨g1,HMD.out.2⟩)
    have HLO:=hid (show w1.heap.size≤wd1.heap.size from HU.out.size)
    have hA:=(⟨cell_keptF g3 (fun e=>e) hA.1,cell_keptF g3 (fun e=>e) hA.2⟩:_∧_)
    have HU:=hid (HU.out.trans g3)
    clear g1 g2
    have HNE:=hid (show wd1.heap.size≠t6 from fun e=>by have:=lt_of_heap HX.out;omega)
    have HX:=hid ((g3.block _ (lt_of_heap HX.out) (fun e=>e)).trans HX.out)
    refine HKK.out _ _ hA ?_
    clear HKK
    simp only[pZ,nZ,bZ,List.set]
    generalize wd1.heap.size=bt at HT HLO HNE ⊢
    clear g3
    refine tqZ 5 (.agg #[.int .u64 B.epoch,.map (some bt)]) [] hA (fun w5 q1=>?_) ?_
    ·go_simp
    simp only[pZ,nZ,bZ,List.set]
    refine wpG_tail_lit (k:=7) rfl rfl (by kernel_rfl) ?_
    simp only[List.drop]
    have f0:wd2.frozen? ⟨t6,0,none⟩=false:=frozen_of_heap HX.out
    have f1:wd2.frozen? ⟨t6,1,none⟩=false:=frozen_of_heap HX.out
    obtain⟨d0,d1⟩:=cells2_of HX.out
    go_wp2
    go_meet
    case rel=>
     obtain⟨w9,hw9⟩: ∃w9,w9=(wd2.setCell ⟨t6,0,none⟩ (.int .u64 B.epoch)).setCell ⟨t6,1,none⟩ (.map (some bt)):=⟨_,rfl⟩
     rw[←hw9]
     have hu9:Upd (fun k=>k=t6) wd2 w9:=by rw[hw9];exact(upd_own wd2 t6 0 _).trans (upd_own _ t6 1 _)
     have hx9:w9.heap[t6]?=some (.cells #[.int .u64 B.epoch,.map (some bt)] 167 (0,0)):=by
      rw[hw9]
      have:=blk_set (i:=1) (v:=.map (some bt)) (blk_set (i:=0) (v:=.int .u64 B.epoch) HX.out)
      simpa using this
     have hap:=HT.out.1.rowC
     have hC: ∀k,C k→ ¬k=t6:=fun k hk e=>by
      obtain⟨cs,h1⟩:=hap k hk
      rw[e,HX.out] at h1
      injection h1 with h1
      injection h1 with _ h1
      exact absurd h1 (by decide)
     have q6:=HT6.out
     exact⟨t6,bt,n,C,rfl,⟨hx9,HT.out.kept hu9 (HNE.out) hC,HLO.out,HNE.out,q6,by omega,fun k hk=>.inl hk,HU.out.step hu9 (fun k hk e=>by omega),rfl⟩⟩
  case rest=>
   obtain⟨t6,bt,nn0,Ct0,rfl,hd⟩:=hcut
   have HD:=hid hd
   have HT6:=hid hd.lo6;have HNE:=hid hd.ne;have HLO:=hid hd.lo
   have hx3:=(hd.upd.block _ (lt_of_heap HX3.out) (fun e=>e)).trans HX3.out
   obtain⟨y0,y1,y2⟩:=cells3_of hx3
   clear hd hx3
   go_upto_block 0 with fail
   clear y0 y1 y2 HMD HU hA
   go_upto_region 5 with fail
   go_loopg [26] B.sets.length (fun gk i wr=> ∃(k nn:Nat) (Ct:Nat→Prop),k≤B.sets.length∧gk=B.sets.length - k∧i=.int .i64 k∧DoAt w1 n C l B t6 bt nn Ct k wr)
   case atStart=>exact⟨0,nn0,Ct0,Nat.zero_le _,rfl,rfl,HD.out⟩
   case round=>
    obtain⟨k,nn,Ct,hk,rfl,rfl,hd⟩:=hrel
    have HD:=hid hd
    clear hd
    by_cases hkn:k<B.sets.length
    ·have hkni:(k:Int)<B.sets.length:=by omega
     obtain⟨x,hx⟩: ∃x,B.sets[k]?=some x:=⟨_,List.getElem?_eq_getElem hkn⟩
     obtain⟨g1,g2,g3,b0,o,ea,oa,oc,na,nc,h0,h1,h2,h3,h4,h5,h6,h7,h8⟩:=HS.out k x hx
     subst ea
     have hwu:=HU0.out.trans HD.out.upd
     have kc: ∀{o:Nat} {v:Value},w.cell? ⟨b0,o,none⟩=some v→wr.cell? ⟨b0,o,none⟩=some v:=fun h=>cell_keptF hwu (fun e=>e) h
     have q0:=kc h0;have q1:=kc h1;have q2:=kc h2;have q3:=kc h3;have q4:=kc h4
     have hxx:B.sets[k]=x:=by rw[List.getElem?_eq_getElem hkn] at hx;injection hx
     have hnext:B.sets.take (k+1)=B.sets.take k++[x]:=by rw[List.take_succ_eq_append_getElem hkn,hxx]
     have HNEXT:=hid hnext
     have HMEM:=hid (List.mem_of_getElem? hx)
     have HRX:=hid (SetV.right_of ((BatchV.right_sets HR.out).2.2 x (List.mem_of_getElem? hx)))
     have HBY:=hid h7
     have H5:=hid (h5.kept hwu);have H6:=hid (h6.kept hwu)
     clear h0 h1 h2 h3 h4 h5 h6 h7 h8 kc hx hxx hnext hwu
     go_upto_region 7 with fail
     obtain⟨b8,hb8⟩: ∃b8,b8=wr.heap.size:=⟨_,rfl⟩
     obtain⟨w3,hw3⟩: ∃w3,w3=wr.alloc (.cells #[.string x.name,.bool x.was,.bool x.is,.slice oa x.old.length oc,.slice na x.new.length nc] 73):=⟨_,rfl⟩
     rw[←hw3,←hb8]
     have hu3:Upd (fun _=>False) wr w3:=by rw[hw3];exact(Upd.refl _ wr).alloc _
     have hx8:w3.heap[b8]?=some (.cells #[.string x.name,.bool x.was,.bool x.is,.slice oa x.old.length oc,.slice na x.new.length nc] 73 (0,0)):=by rw[hw3];exact alloc_at hb8
     have hub:Upd (fun _=>False) w1 w3:=HD.out.upd.trans hu3
     have HB8:=hid (show w1.heap.size≤b8 by rw[hb8];exact HD.out.upd.size)
     have hx2:=(hub.block _ (lt_of_heap HX2.out) (fun e=>e)).trans HX2.out
     have hx4:=(hub.block _ (lt_of_heap HX4.out) (fun e=>e)).trans HX4.out
     have hx6:=(hu3.block _ (lt_of_heap HD.out.s6) (fun e=>e)).trans HD.out.s6
     have hmk:=(HM.out.kept0 HU0.out).kept0 hub
     obtain⟨v,hlk,hv⟩:=hmk.1.look (s:=x.name) (by have:=HRX.out;unfold maxLen;omega)
     obtain⟨va,vc,rfl,_⟩:=hv.slice
     obtain⟨f,hf⟩: ∃f,f=(l.get x.name).isSome:=⟨_,rfl⟩
     obtain⟨bs,hbs⟩: ∃bs,bs=(l.get x.name).getD []:=⟨_,rfl⟩
     have hbsB:Bytes bs:=by
      cases hg:l.get x.name with
      |none=>rw[hbs,hg];exact fun y hy=>by simp at hy
      |some z=>rw[hbs,hg];exact(HL.out.each _ ((KV.get_some HL.out.rising).1 hg)).2.2.2
     rw[←hf,←hbs] at hlk
     rw[←hbs] at hv
     have HV:=hid hv.bytesIn
     obtain⟨x0,x1⟩:=cells2_of hx2
     obtain⟨c0,c1,c2,c3,c4⟩:=cells5_of hx8
     obtain⟨z0,z1⟩:=cells2_of hx4
     have f0:w3.frozen? ⟨w.heap.size+2,0,none⟩=false:=frozen_of_heap hx4
     have f1:w3.frozen? ⟨w.heap.size+2,1,none⟩=false:=frozen_of_heap hx4
     have HX44:=hid hx4;have HX66:=hid hx6;have HX88:=hid hx8
     have HUB:=hid hub;have HU3:=hid hu3;have HBSB:=hid hbsB;have HF:=hid hf;have HBS:=hid hbs
     clear hw3 hu3 hx8 q0 q1 q2 q3 q4 hb8 hub hx2 hx4 hx6 hmk hv hbsB hf hbs
     have HNO:RowKit.Hid (SetV.thought l x=false→doE ev l B=301):=hid (fun h=>by
      unfold doE
      rw[if_neg (by have:=HP.out;omega),if_neg (fun ha=>by have:=List.all_eq_true.1 ha x HMEM.out;rw[h] at this;cases this)])
     by_cases hfw:f=x.was
     rotate_left
     ·have hfw':(f !=x.was)=true:=by simpa using hfw
      have hfw'':(f == x.was)=false:=by simpa using hfw
      have HE:=hid (HNO.out (by unfold SetV.thought;rw[←HF.out,beq_eq_false_iff_ne.2 hfw];rfl))
      clear hfw
      go_wp2
      obtain⟨p1,p2⟩:=put2 (u:=.int .u64 ev) (v:=.map (some b)) HX44.out
      refine bodyPost_ret (results_cell_tmp Tryz.results96 rfl (res_at p1)) rfl ?_
      exact⟨(HU0.out.trans HUB.out).step p2 (fun k hk e=>by omega),.inl ⟨by rw[HE.out];decide,by rw[HE.out];rfl⟩⟩
     ·have HFW:=hid hfw
      subst hfw
      go_wp2_with (go_at_call 24;fail)
      refine(equal_any w3 HV.out (H5.out.kept HU3.out) HBSB.out HBY.out).mono ?_
      rintro e w4 ⟨rfl,rfl⟩
      by_cases hbo:bs=x.old
      rotate_left
      ·have hbo':(bs == x.old)=false:=by simpa using hbo
       have HE:=hid (HNO.out (by unfold SetV.thought;rw[←HBS.out,decide_eq_false hbo,Bool.and_false]))
       clear hbo
       go_wp2
       obtain⟨p1,p2⟩:=put2 (u:=.int .u64 ev) (v:=.map (some b)) HX44.out
       refine bodyPost_ret (results_cell_tmp Tryz.results96 rfl (res_at p1)) rfl ?_
       exact⟨(HU0.out.trans HUB.out).step p2 (fun k hk e=>by omega),.inl ⟨by rw[HE.out];decide,by rw[HE.out];rfl⟩⟩
      ·have hbo':(bs == x.old)=true:=by simpa using hbo
       have HTH:=hid (show(B.sets.take (k+1)).all (SetV.thought l)=true by
        rw[HNEXT.out,List.all_append,HD.out.all,Bool.true_and]
        simp only[List.all_cons,List.all_nil,Bool.and_true]
        unfold SetV.thought
        rw[←HBS.out,←HF.out,decide_eq_true hbo]
        simp)
       clear hbo
       have HNEW:=hid (HD.out.new.kept0 HU3.out)
       have HCNT:=hid (show nn<maxLen by have:=HD.out.cnt;have:=HSL.out;unfold maxLen;omega)
       have HNS:=hid (show x.name.size≤maxLen by have:=HRX.out;unfold maxLen;omega)
       cases his:x.is with
       |true=>
        rw[his] at c2
        go_upto_region 11 with fail
        obtain⟨d0,d1⟩:=cells2_of HX66.out
        have hA:w3.drew.cell? ⟨t6,1,none⟩=some (.map (some bt))∧w3.drew.cell? ⟨b8,0,none⟩=some (.string x.name)∧w3.drew.cell? ⟨b8,4,none⟩=some (.slice na x.new.length nc):=⟨d1,c0,c4⟩
        have HNW:=hid ((H6.out.kept HU3.out).kept ((Upd.refl (fun _=>False) w3).drew))
        have HNEW:=hid (HNEW.out.kept0 ((Upd.refl (fun _=>False) w3).drew))
        have HU:=hid (HUB.out.drew)
        clear hlk x0 x1 c0 c1 c2 c3 c4 z0 z1 f0 f1 d0 d1
        refine wp_region_G 7 (fun W=>W.cell? ⟨t6,1,none⟩=some (.map (some bt))∧W.cell? ⟨b8,0,none⟩=some (.string x.name)∧W.cell? ⟨b8,4,none⟩=some (.slice na x.new.length nc)) [false,false,false,false,false,false,false,false] rfl (by kernel_rfl) ?_
        have HX6:RowKit.Hid (w3.drew.heap[t6]?=some (.cells #[.int .u64 B.epoch,.map (some bt)] 167 (0,0))):=HX66
        generalize w3.drew=wd at hA HNEW HNW HU HX6 ⊢
        have HWD:=hid HU.out.size
        refine tqZ 0 (.pointer (some ⟨t6,1,none⟩)) [] hA (fun w5 q1=>?_) ?_
        ·go_simp
        simp only[pZ,nZ,bZ,List.set]
        refine tqZ 1 (.map (some bt)) [] hA (fun w5 q1=>?_) ?_
        ·obtain⟨c0,c1,c2⟩:=q1
         go_simp
        simp only[pZ,nZ,bZ,List.set]
        refine tqZ 2 (.pointer (some ⟨b8,0,none⟩)) [] hA (fun w5 q1=>?_) ?_
        ·go_simp
        simp only[pZ,nZ,bZ,List.set]
        refine tqZ 3 (.string x.name) [] hA (fun w5 q1=>?_) ?_
        ·obtain⟨c0,c1,c2⟩:=q1
         go_simp
        simp only[pZ,nZ,bZ,List.set]
        refine tqZ 4 (.pointer (some ⟨b8,4,none⟩)) [] hA (fun w5 q1=>?_) ?_
        ·go_simp
        simp only[pZ,nZ,bZ,List.set]
        refine tqZ 5 (.slice na x.new.length nc) [] hA (fun w5 q1=>?_) ?_
        ·obtain⟨c0,c1,c2⟩:=q1
         go_simp
        simp only[pZ,nZ,bZ,List.set]
        refine wpG_do (i:=6) rfl (by kernel_rfl) rfl (fun K hK=>?_)
        have HKK:=hid hK
        clear hK
        go_step
        refine(clone_any wd (by have:=HRX.out;omega) HNW.out).mono ?_
        rintro e wd1 ⟨u,rfl,g1,_,g3⟩
        have hA:=(⟨cell_keptF g3 (fun e=>e) hA.1,cell_keptF g3 (fun e=>e) hA.2.1,cell_keptF g3 (fun e=>e) hA.2.2⟩:_∧_∧_)
        obtain⟨ua,um,uc,rfl⟩:=g1.bytesAt.1.slice'
        have HOB:=hid g1
        have HU:=hid (HU.out.trans g3)
        have HNEW:=hid (HNEW.out.kept0 g3)
        have HX6:=hid ((g3.block _ (lt_of_heap HX6.out) (fun e=>e)).trans HX6.out)
        refine HKK.out _ _ hA ?_
        clear HKK g1 g3
        simp only[pZ,nZ,bZ,List.set]
        refine wpG_tail_lit (k:=7) rfl rfl (by kernel_rfl) ?_
        simp only[List.drop]
        obtain⟨w6,hmu,hp6,hu6⟩:=HNEW.out.put HCNT.out HNS.out HOB.out.bytesAt.1 HOB.out.bytesAt.2.1
        have HP6:=hid hp6;have HU6:=hid hu6;have HBLO:=hid HOB.out.bytesAt.2.2
        clear hp6 hu6 hA
        have hcv2:IntKind.i64.wrap ((k:Int)+1)=(k:Int)+1:=by rw[IntKind.wrap_i64];have:=HSL.out;omega
        go_wp2
        go_roundg (B.sets.length - (k+1))
        case measure=>omega
        case rel=>
         refine⟨k+1,nn+1,fun j=>Ct j∨(Value.slice ua um uc).ownBlock=some j,by omega,rfl,congrArg _ (by omega),⟨(HU6.out.block _ (lt_of_heap HX6.out) (fun e=>HNE.out e.symm)).trans HX6.out,?_,HLO.out,HNE.out,HT6.out,by have:=HD.out.cnt;omega,?_,HU.out.step HU6.out (fun j hj e=>by have:=HLO.out;omega),HTH.out⟩⟩
         ·have:=HP6.out
          rw[HNEXT.out,KV.withs_snoc]
          unfold KV.with
          rw[if_pos his]
          exact this
         ·rintro j (hj | hj)
          ·exact HD.out.own j hj
          ·have h1:=HBLO.out j hj
           have h2:=HWD.out
           exact .inr (by omega)
       |false=>
        rw[his] at c2
        go_upto_region 12 with fail
        obtain⟨d0,d1⟩:=cells2_of HX66.out
        obtain⟨w6,hde,hp6,hu6⟩:=HNEW.out.del HNS.out 0
        have HP6:=hid hp6;have HU6:=hid hu6
        clear hp6 hu6
        have hcv2:IntKind.i64.wrap ((k:Int)+1)=(k:Int)+1:=by rw[IntKind.wrap_i64];have:=HSL.out;omega
        go_wp2
        go_roundg (B.sets.length - (k+1))
        case measure=>omega
        case rel=>
         refine⟨k+1,nn,Ct,by omega,rfl,congrArg _ (by omega),⟨(HU6.out.block _ (lt_of_heap HX66.out) (fun e=>HNE.out e.symm)).trans HX66.out,?_,HLO.out,HNE.out,HT6.out,by have:=HD.out.cnt;omega,HD.out.own,HUB.out.step HU6.out (fun j hj e=>by have:=HLO.out;omega),HTH.out⟩⟩
         have:=HP6.out
         rw[HNEXT.out,KV.withs_snoc]
         unfold KV.with
         rw[if_neg (by rw[his];decide)]
         exact this
    ·obtain rfl:k=B.sets.length:=by omega
     have hnew:=HD.out.new
     rw[List.take_length] at hnew
     have hall:=HD.out.all
     rw[List.take_length] at hall
     have hlen:=hnew.len 3
     have hx4:=(HD.out.upd.block _ (lt_of_heap HX4.out) (fun e=>e)).trans HX4.out
     have hx2:=(HD.out.upd.block _ (lt_of_heap HX2.out) (fun e=>e)).trans HX2.out
     obtain⟨x0,x1⟩:=cells2_of hx2
     obtain⟨d0,d1⟩:=cells2_of HD.out.s6
     obtain⟨z0,z1⟩:=cells2_of hx4
     have f0:wr.frozen? ⟨w.heap.size+2,0,none⟩=false:=frozen_of_heap hx4
     have f1:wr.frozen? ⟨w.heap.size+2,1,none⟩=false:=frozen_of_heap hx4
     obtain⟨m,hm⟩: ∃m,m=(l.withs B.sets).length:=⟨_,rfl⟩
     rw[←hm] at hlen
     have HM2:=hid hm;have HNEW:=hid hnew;have HALL:=hid hall;have HX44:=hid hx4
     clear hnew hall hx4 hx2 hm
     by_cases hm48:(48:Int)<m
     ·have HE:=hid (show doE ev l B=6 by
       unfold doE
       rw[if_neg (by have:=HP.out;omega),if_pos HALL.out,if_pos (by have:=HM2.out;omega)])
      go_wp2
      obtain⟨p1,p2⟩:=put2 (u:=.int .u64 ev) (v:=.map (some b)) HX44.out
      refine bodyPost_ret (results_cell_tmp Tryz.results96 rfl (res_at p1)) rfl ?_
      exact⟨(HU0.out.trans HD.out.upd).step p2 (fun k hk e=>by omega),.inl ⟨by rw[HE.out];decide,by rw[HE.out];rfl⟩⟩
     ·have HE:=hid (show doE ev l B=0 by
       unfold doE
       rw[if_neg (by have:=HP.out;omega),if_pos HALL.out,if_neg (by have:=HM2.out;omega)])
      go_wp2
      obtain⟨p1,p2⟩:=put2 (u:=.int .u64 B.epoch) (v:=.map (some bt)) HX44.out
      refine bodyPost_ret (results_cell_tmp Tryz.results96 rfl (res_at p1)) rfl ?_
      have hw1:=HU0.out.size
      have hlo:=HD.out.lo
      have hne:bt≠w.heap.size+2:=by have:=HZ.out;omega
      have hap:=HNEW.out.1.rowC
      refine⟨(HU0.out.trans HD.out.upd).step p2 (fun k hk e=>by omega),.inr ⟨HE.out,bt,nn,Ct,rfl,HNEW.out.kept p2 hne (fun k hk e=>?_),by omega,HD.out.cnt,fun k hk=>(HD.out.own k hk).imp_right (fun h=>by omega)⟩⟩
      obtain⟨cs,h1⟩:=hap k hk
      rw[e,HX44.out] at h1
      injection h1 with h1
      injection h1 with _ h1
      exact absurd h1 (by decide)
theorem MapAt.look1 {w:World}{b n:Nat}{C:Nat→Prop}{M:ByteArray→Option (List Int)}(h:MapAt w b n C M){s:ByteArray}(hs:s.size≤maxLen):
  ∃v,(Instr.lookup 165 (.map (some b)) (.string s) false).run Tryz.prog w=.ok v w∧BytesAt w C v ((M s).getD []):=by
 obtain⟨D,h1,_,h2⟩:=h
 obtain⟨v,k1,k2,k3⟩:=h2 s hs
 obtain⟨v',ps,hr,hv⟩:=h1.lookup (Maps.string_keyed Tryz.underlying9s') Tryz.underlying165 (zero39 w) (zd:=.held (.slice none 0 0)) (zp:=[]) rfl (key:=.string s) (WideMaps.keyOf_string_mk Tryz.underlying9s' hs)
 rw[k1,RV] at hv
 have e:v'=v:=by
  injection hv with hv
  injection hv with hv
  injection hv
 subst e
 exact⟨_,hr,k3⟩
structure WlAt (w3:World) (sb:Nat) (ev:Int) (C:Nat→Prop) (l:KV) (k:Nat) (W:World):Prop where
 out: ∃(a:Option Addr) (c:Nat),W.heap[sb]?=some (.cells #[.int .u64 ev,.bool false,.slice a k c] 56 (0,0))∧SetRow W w3.heap.size C (.slice a k c) (wholeB ev (l.take k)).sets
 upd:Upd (fun j=>j=sb) w3 W
theorem row_cell {w:World}{B:Nat}{e:TypeId}{sa:Option Addr}{n c:Nat}{xs:List Value}{k:Nat}{u:Value}(h:w.ownsRow B e 1 (.slice sa n c) n xs)(hk:xs[k]?=some u): ∃g,sa=some ⟨g,0,none⟩∧w.cell? ⟨g,k,none⟩=some u:=by
 obtain⟨h0,h1⟩:=h
 have hkl:=(List.getElem?_eq_some_iff.1 hk).1
 rcases h1 with ⟨_,e⟩ | ⟨g,cap,cur,e,_,hg,h2,h3,h4,h5⟩
 ·omega
 ·injection e with e1 _ _
  refine⟨g,e1,?_⟩
  rw[cell_of_heap hg,←Array.getElem?_toList]
  rw[←h5,List.getElem?_take_of_lt (by omega)] at hk
  exact hk
theorem wholeB_take (ev:Int)(l:KV)(k:Nat){p:ByteArray×List Int}(hk:l[k]?=some p):(wholeB ev (l.take (k+1))).sets=(wholeB ev (l.take k)).sets++[⟨p.1,false,true,[],p.2⟩]:=by
 obtain⟨h1,h2⟩:=List.getElem?_eq_some_iff.1 hk
 simp only[wholeB]
 rw[List.take_succ_eq_append_getElem h1,List.map_append,h2]
 rfl
theorem rwhole_any {b n:Nat}{C:Nat→Prop}{ev:Int}{l:KV}(w:World)(hm:MapKV w b n C l)(hl:l.Fine)(h0:0≤ev)(he:ev≤4611686018427387904):
  Calls Tryz.prog 98 #[stV ev b] w fun e w'=> ∃u,e=.returned u∧OwnB w' w.heap.size u (wholeF ev l)∧Upd (fun _=>False) w w':=by
 obtain⟨w1,hw1⟩: ∃w1,w1=(w.alloc (.cells #[.int .u64 ev,.map (some b)] 167)).alloc (.cells #[.int .u64 ev,.bool false,.slice none 0 0] 56):=⟨_,rfl⟩
 have hx1:w1.heap[w.heap.size]?=some (.cells #[.int .u64 ev,.map (some b)] 167 (0,0)):=by rw[hw1,alloc_lt (by simp)];exact alloc_at rfl
 have hx3:w1.heap[w.heap.size+1]?=some (.cells #[.int .u64 ev,.bool false,.slice none 0 0] 56 (0,0)):=by rw[hw1];exact alloc_at (by simp)
 have hu1:Upd (fun _=>False) w w1:=by rw[hw1];exact((Upd.refl _ w).alloc _).alloc _
 have hz1:w1.heap.size=w.heap.size+2:=by rw[hw1];simp
 have HM:=hid hm;have HL:=hid hl;have HW1:=hid hw1;have HX1:=hid hx1;have HX3:=hid hx3;have HU1:=hid hu1;have HZ1:=hid hz1
 have HE:=hid (show 0≤ev∧ev≤4611686018427387904 from⟨h0,he⟩)
 obtain⟨x0,x1⟩:=cells2_of hx1
 clear hm hl hw1 hx1 hx3 hu1 hz1 h0 he
 unfold stV
 go_enter Tryz.func98,Tryz.ntmps98
 go_upto_region 2 with fail
 rw[←HW1.out]
 have hmk:=HM.out.kept0 HU1.out
 go_wp2_with (go_at_call 102;fail)
 refine(keys_any (some b) w1).mono ?_
 rintro e w2 ⟨rfl,rfl⟩
 simp only[]
 go_wp2_with (go_at_call 101;fail)
 refine(sorted_any w1 hmk (by have:=HL.out.len;omega)).mono ?_
 rintro e w3 ⟨v,rfl,hrow,hu3⟩
 obtain⟨sa,sc,rfl⟩:=rowV hrow
 simp only[]
 obtain⟨sb,hsb⟩: ∃sb,sb=w.heap.size+1:=⟨_,rfl⟩
 rw[←hsb]
 have hx3:=(hu3.block _ (lt_of_heap HX3.out) (fun e=>e)).trans HX3.out
 rw[←hsb] at hx3
 have hd:WlAt w3 sb ev C l 0 w3:=⟨⟨none,0,hx3,SetRow.nil _ _ _⟩,Upd.refl _ _⟩
 have hx1:=(hu3.block _ (lt_of_heap HX1.out) (fun e=>e)).trans HX1.out
 have HD:=hid hd;have HROW:=hid hrow;have HU3:=hid hu3;have HX13:=hid hx1;have HSB:=hid hsb
 have HM3:=hid (hmk.kept0 hu3)
 have HBL:=hid (show b<w.heap.size from HM.out.lt)
 have HCL:=hid (show∀k,C k→k<w.heap.size from HM.out.1.rowC.lt)
 clear x0 x1 hmk hrow hu3 hd hx1 hx3 hsb HW1
 go_upto_block 0 with fail
 go_upto_region 3 with fail
 go_loopg [14] l.length (fun gk i wr=> ∃k:Nat,k≤l.length∧gk=l.length - k∧i=.int .i64 k∧WlAt w3 sb ev C l k wr)
 case atStart=>exact⟨0,Nat.zero_le _,rfl,rfl,HD.out⟩
 case round=>
  obtain⟨k,hk,rfl,rfl,hd⟩:=hrel
  have HD:=hid hd
  clear hd
  by_cases hkn:k<l.length
  ·have hkni:(k:Int)<l.length:=by omega
   obtain⟨p,hp⟩: ∃p,l[k]?=some p:=⟨_,List.getElem?_eq_getElem hkn⟩
   have hpm:=List.mem_of_getElem? hp
   have HP:=hid hp
   have HEA:=hid (HL.out.each p hpm)
   have hget:l.get p.1=some p.2:=(KV.get_some HL.out.rising).2 hpm
   have hupd:=HD.out.upd
   have hrow':=ownsRow_any HROW.out hupd (fun j hj e=>by have:=(World.ownsRow.lt HROW.out j hj).1;have:=HSB.out;have:=HZ1.out;omega)
   obtain⟨g,rfl,hcell⟩:=row_cell hrow' (k:=k) (u:=.string p.1) (by rw[List.getElem?_map,hp];rfl)
   have hmk:=HM3.out.kept hupd (fun e=>by have:=HBL.out;have:=HSB.out;omega) (fun j hj e=>by have:=HCL.out j hj;have:=HSB.out;omega)
   obtain⟨va0,hlk,hv⟩:=hmk.1.look1 (s:=p.1) (by have:=HEA.out;unfold maxLen;omega)
   rw[hget] at hv
   simp only[Option.getD_some] at hv
   obtain⟨va,vc,rfl,_⟩:=hv.slice
   obtain⟨la,lc,ho1,ho2⟩:=HD.out.out
   have hx1:=(hupd.block _ (lt_of_heap HX13.out) (fun e=>by have:=HSB.out;omega)).trans HX13.out
   obtain⟨x0,x1⟩:=cells2_of hx1
   obtain⟨y0,y1,y2⟩:=cells3_of ho1
   have HOB:=hid ho1;have HRW:=hid ho2;have HV:=hid hv;have HRC:=hid hmk.1.rowC
   clear hpm hget hupd hrow' hmk hv ho1 ho2 hx1 hp
   go_upto_region 5 with fail
   iterate 28 go_step
   obtain⟨L,hLm,hLo,hLb,hLf⟩:=HRW.out
   have hwl:(wholeB ev (l.take k)).sets.length=k:=by simp[wholeB];omega
   rw[hwl] at hLo
   have hLl:=hLo.lt
   have hz9:sb<wr.heap.size:=lt_of_heap HOB.out
   obtain⟨x,hx⟩: ∃x:SetV,x=⟨p.1,false,true,[],p.2⟩:=⟨_,rfl⟩
   have hel:elC (x,.slice none 0 0,.slice va p.2.length vc)=[.string p.1,.bool false,.bool true,.slice none 0 0,.slice va p.2.length vc]:=by rw[hx];rfl
   obtain⟨i0,hi0,hz0,hz1,hz2⟩:=info_parts Tryz.info73p
   refine wpList_append_lies _ rfl (.tmp 19) (.tmp 26) 54 rfl w3.heap.size 73 i0 _ 5 72 Tryz.underlying54 hi0 hz0 hz1 hz2 rfl (by omega) (.slice la k lc) _ _ rfl (hLo.alloc _) ⟨wr.heap.size,0,none⟩ 1 1 (elC (x,.slice none 0 0,.slice va p.2.length vc)) rfl
    rfl (World.news_of_block (cs:=(elC (x,.slice none 0 0,.slice va p.2.length vc)).toArray) (t:=73) (fr:=(0,0)) (by rw[hel];exact heap_alloc_new _ _)) (by rw[hel];simp[Value.oneCell']) (by omega) (by unfold maxLen;have:=HL.out.len;omega) (by have:=HL.out.len;omega) (by have:=HD.out.upd.size;simp;omega) (wr.heap.size+1) (by simp) ?_
   intro g' cap w16 hown hgrow hat hlt
   have hu16:Upd (fun k'=>(Value.slice la k lc).ownBlock=some k') wr w16:=((Upd.refl _ wr).alloc _).trans (Upd.of_grown hgrow (fun k hk=>hk))
   have hsb3:sb<w3.heap.size:=lt_of_heap (show w3.heap[sb]?=some _ from by
    have:=HX3.out
    exact(by rw[HSB.out];exact(HU3.out.block _ (lt_of_heap this) (fun e=>e)).trans this))
   have hob10:=(hu16.block _ hz9 (fun e=>by have:=(hLl sb e).1;omega)).trans HOB.out
   have hgob:w3.heap.size≤g':=by
    have:=HD.out.upd.size
    rcases hat with e | e
    ·exact(hLl g' e).1
    ·omega
   have y2:=(cells3_of hob10).2.2
   have g2:w16.frozen? ⟨sb,2,none⟩=false:=frozen_of_heap hob10
   have hcu:=HRW.out.apart HRC.out
   have hrow16:SetRow w16 w3.heap.size C (.slice (some ⟨g',0,none⟩) (k+1) cap) ((wholeB ev (l.take k)).sets++[x]):=by
    refine⟨L++[(x,.slice none 0 0,.slice va p.2.length vc)],by rw[List.map_append,hLm];rfl,?_,fun y hy=>?_,fun y hy=>?_⟩
    ·rw[List.flatMap_append,List.length_append,hwl]
     simpa using hown
    ·rw[List.mem_append] at hy
     rcases hy with hy | hy
     ·exact⟨(hLb y hy).1.kept hu16 hcu,(hLb y hy).2.kept hu16 hcu⟩
     ·simp only[List.mem_singleton] at hy
      subst hy
      rw[hx]
      exact⟨.inl ⟨rfl,rfl⟩,HV.out.kept hu16 hcu⟩
    ·rw[List.mem_append] at hy
     rcases hy with hy | hy
     ·exact hLf y hy
     ·simp only[List.mem_singleton] at hy
      subst hy
      rw[hx]
      have:=HEA.out
      exact⟨by simp only;omega,by simp,by simp only;omega,fun z hz=>by simp at hz,this.2.2.2⟩
   have HNEW:=hid hrow16;have HOB10:=hid hob10;have HU16:=hid hu16;have HLLT:=hid hLl;have HGOB:=hid hgob;have HSB3:=hid hsb3;have HXX:=hid hx
   clear hrow16 hob10 hu16 hcu hown hgrow hat hi0 hz0 hz1 hz2 hLm hLo hLb hLf hLl hel x0 x1 y0 y1 hgob hsb3 hx
   have hcv2:IntKind.i64.wrap ((k:Int)+1)=(k:Int)+1:=by rw[IntKind.wrap_i64];have:=HL.out.len;omega
   go_wp2
   obtain⟨w17,hw17⟩: ∃w17,w17=w16.setCell ⟨sb,2,none⟩ (.slice (some ⟨g',0,none⟩) (k+1) cap):=⟨_,rfl⟩
   rw[←hw17]
   have hu17:Upd (fun k=>k=sb) w16 w17:=by rw[hw17];exact upd_own w16 sb 2 _
   have hob17:w17.heap[sb]?=some (.cells #[.int .u64 ev,.bool false,.slice (some ⟨g',0,none⟩) (k+1) cap] 56 (0,0)):=by
    rw[hw17]
    have:=blk_set (i:=2) (v:=.slice (some ⟨g',0,none⟩) (k+1) cap) HOB10.out
    simpa using this
   have hdc:WlAt w3 sb ev C l (k+1) w17:=by
    refine⟨⟨_,_,hob17,?_⟩,(HD.out.upd.step HU16.out (fun j hj e=>by have:=(HLLT.out j e).1;omega)).trans hu17⟩
    rw[wholeB_take ev l k HP.out,←HXX.out]
    exact HNEW.out.kept hu17 (fun j hj e=>by simp[Value.ownBlock] at hj;have:=HGOB.out;have:=HSB3.out;omega) (fun j hj e=>by have:=HCL.out j hj;have:=HSB.out;omega)
   go_roundg (l.length - (k+1))
   case measure=>omega
   case rel=>exact⟨k+1,by omega,rfl,congrArg _ (by omega),hdc⟩
  ·obtain rfl:k=l.length:=by omega
   obtain⟨la,lc,ho1,ho2⟩:=HD.out.out
   rw[List.take_length] at ho2
   obtain⟨y0,y1,y2⟩:=cells3_of ho1
   have HENC:=hid (encoded_any (B:=wholeB ev l) wr (a:=la) (c:=lc) ho2.setsAt.setsIn (whole_right HL.out HE.out.2) (whole_ok HL.out HE.out.1 HE.out.2))
   have hlw:(wholeB ev l).sets.length=l.length:=by simp[wholeB]
   unfold batchV at HENC
   rw[hlw] at HENC
   clear ho1 ho2
   go_wp2_with (go_at_call 82;fail)
   refine HENC.out.mono ?_
   rintro e w5 ⟨u,rfl,g1,g2⟩
   have hszl:w.heap.size≤wr.heap.size:=Nat.le_trans HU1.out.size (Nat.le_trans HU3.out.size HD.out.upd.size)
   have G1:=hid (show OwnB w5 w.heap.size u (wholeF ev l) from ownsRow_base_a g1 hszl)
   have G2:=hid (show Upd (fun _=>False) w w5 from((((HU1.out.trans HU3.out)).step HD.out.upd (fun j hj e=>by have:=HSB.out;omega)).trans g2))
   obtain⟨ua,um,uc,rfl⟩:=g1.bytesAt.1.slice'
   clear g1 g2
   simp only[]
   go_wp2
   go_ret
   exact⟨_,rfl,G1.out,G2.out⟩
structure RegMem (w:World) (r q p:Nat) (ev:Int) (b n:Nat) (C:Nat→Prop) (l:KV) (area:Int) (X:Lg) (D:Dk) (G F:Nat→Prop):Prop where
 reg:RegAt w r (.pointer (some ⟨q,0,none⟩)) ev (.map (some b)) area
 map:MapKV w b n C l
 wal:Wal w q p X D G F
 nr: ¬G r∧ ¬F r
 nb: ¬G b∧ ¬F b
 nC: ∀k,C k→ ¬G k∧ ¬F k
theorem RegMem.lt {w:World}{r q p:Nat}{ev:Int}{b n:Nat}{C:Nat→Prop}{l:KV}{area:Int}{X:Lg}{D:Dk}{G F:Nat→Prop}(h:RegMem w r q p ev b n C l area X D G F):r<w.heap.size∧b<w.heap.size∧(∀k,C k→k<w.heap.size)∧(∀k,G k→k<w.heap.size)∧(∀k,F k→k<w.heap.size):=
 ⟨lt_of_heap h.reg,h.map.lt,h.map.1.rowC.lt,h.wal.1.lt,h.wal.2.1.lt⟩
theorem RegMem.kept0 {w w':World}{r q p:Nat}{ev:Int}{b n:Nat}{C:Nat→Prop}{l:KV}{area:Int}{X:Lg}{D:Dk}{G F:Nat→Prop}(h:RegMem w r q p ev b n C l area X D G F)(hu:Upd (fun _=>False) w w'):RegMem w' r q p ev b n C l area X D G F:=
 ⟨(hu.block _ (lt_of_heap h.reg) (fun e=>e)).trans h.reg,h.map.kept0 hu,⟨h.wal.1.kept hu (fun _ _ e=>e),h.wal.2.1.kept hu (fun _ _ e=>e),h.wal.2.2⟩,h.nr,h.nb,h.nC⟩
theorem flagF_by (f:Bool):Bytes [flagF f]:=fun x hx=>by
 simp only[List.mem_singleton] at hx
 subst hx
 unfold flagF
 split<;> omega
theorem maybeF_by {f:Bool}{x:List Int}(h:Bytes x):Bytes (maybeF f x):=by
 show Bytes ([flagF f]++(layF x.length 16++x))
 exact(flagF_by f).append ((layF_bytes _ _).append h)
theorem byte_by (n:Int):Bytes [n % 256]:=fun x hx=>by
 simp only[List.mem_singleton] at hx
 subst hx
 omega
theorem setF_by {x:SetV}(h:x.Ok):Bytes (setF x):=by
 show Bytes ([((x.name.size:Int) % 256)]++(numsOf x.name++(maybeF x.was x.old++maybeF x.is x.new)))
 exact(byte_by _).append ((numsOf_bytes _).append ((maybeF_by h.old).append (maybeF_by h.new)))
theorem setsF_by: ∀{l:List SetV},(∀x∈l,x.Ok)→Bytes (setsF l)
 | [],_=>fun x hx=>by simp[setsF] at hx
 |x :: l,h=>by
  show Bytes (setF x++setsF l)
  exact(setF_by (h x (by simp))).append (setsF_by (fun y hy=>h y (by simp[hy])))
theorem encF_by {B:BatchV}(h:B.Ok):Bytes (encF B):=by
 unfold encF
 refine(layF_bytes _ _).append (Bytes.append ?_ (setsF_by h.sets))
 show Bytes ([flagF B.large]++[(B.sets.length:Int) % 256])
 exact(flagF_by _).append (byte_by _)
theorem encF_len {B:BatchV}(h:B.right=true):(encF B).length≤300000:=by
 obtain⟨h1,h2,h3⟩:=BatchV.right_sets h
 have:=setsF_length h3
 simp only[encF,List.length_append,layF_length,List.length_cons,List.length_nil]
 omega
inductive Plan where
 |no (E:Int)
 |app
 |cp
def planF (ev area:Int)(l:KV)(X:Lg)(B:BatchV):Plan:=
 if X.broken=true then .no 8 else if B.right=false then .no 2 else if doE ev l B≠0 then .no (doE ev l B)
 else if(B.large && !fitsF (wholeF B.epoch (l.withs B.sets)).length (area - 8))=true then .no 6
 else if B.sets=[]∧B.epoch=ev then .no 0
 else if fitsF (encF B).length (X.h.area - X.used)=true then .app
 else if fitsF (wholeF B.epoch (l.withs B.sets)).length area=true then .cp else .no 6
def DoneAns (w:World)(r q p:Nat)(ev:Int)(b n:Nat)(C:Nat→Prop)(l:KV)(area:Int)(G F:Nat→Prop)(B:BatchV)(E:Int)(X':Lg)(D':Dk)(e:Ending)(w':World):Prop:=
 e=.returned (.int .i64 E)∧ ∃ev' b' n' C' l' G' F',RegMem w' r q p ev' b' n' C' l' area X' D' G' F'∧(E=0→ev'=B.epoch∧l'=l.withs B.sets)∧(E≠0→ev'=ev∧l'=l)∧n'≤n+48∧
  (b'=b∨w.heap.size≤b')∧(∀k,C' k→C k∨w.heap.size≤k)∧(∀k,G' k→G k∨w.heap.size≤k)∧(∀k,F' k→F k∨w.heap.size≤k)∧Upd (fun k=>G k∨F k∨k=r) w w'
def NoAns (w:World)(E:Int)(e:Ending)(w':World):Prop:=e=.returned (.int .i64 E)∧Upd (fun _=>False) w w'
def CommitAns (w:World)(r q p:Nat)(ev:Int)(b n:Nat)(C:Nat→Prop)(l:KV)(area:Int)(X:Lg)(D:Dk)(G F:Nat→Prop)(B:BatchV)(e:Ending)(w':World):Prop:=
 match planF ev area l X B with
 |.no E=>NoAns w E e w'
 |.app=> ∃hb:Bytes (encF B),(X.refuses (encF B).length X.used≠0∧NoAns w (X.refuses (encF B).length X.used) e w')∨
   (X.refuses (encF B).length X.used=0∧DoneAns w r q p ev b n C l area G F B (D.laysE (X.apS (encF B) hb)) (X.after (encF B) (D.laysE (X.apS (encF B) hb))) (D.lays (X.apS (encF B) hb)) e w')
 |.cp=> ∃hb:Bytes (wholeF B.epoch (l.withs B.sets)),(X.refuses (wholeF B.epoch (l.withs B.sets)).length 0≠0∧NoAns w (X.refuses (wholeF B.epoch (l.withs B.sets)).length 0) e w')∨
   (X.refuses (wholeF B.epoch (l.withs B.sets)).length 0=0∧X.h.turn=1073741824∧NoAns w 6 e w')∨
   (X.refuses (wholeF B.epoch (l.withs B.sets)).length 0=0∧X.h.turn≠1073741824∧DoneAns w r q p ev b n C l area G F B (X.cpE D (wholeF B.epoch (l.withs B.sets)) hb) (X.cp (wholeF B.epoch (l.withs B.sets)) (X.cpE D (wholeF B.epoch (l.withs B.sets)) hb)) (X.cpD D (wholeF B.epoch (l.withs B.sets)) hb) e w')
theorem RegMem.after1 {w wA wB:World}{r q p:Nat}{ev:Int}{b n:Nat}{C:Nat→Prop}{l:KV}{area:Int}{X X':Lg}{D D':Dk}{G F G' F':Nat→Prop}(h:RegMem w r q p ev b n C l area X D G F)(hA:Upd (fun _=>False) w wA)(hW:Wal wB q p X' D' G' F')
  (hG: ∀k,G' k→G k∨wA.heap.size≤k) (hF: ∀k,F' k→F k∨wA.heap.size≤k) (hB:Upd (fun k=>G k∨F k) wA wB):RegMem wB r q p ev b n C l area X' D' G' F':=by
 obtain⟨z1,z2,z3,z4,z5⟩:=(h.kept0 hA).lt
 have hh:=h.kept0 hA
 refine⟨(hB.block _ z1 (fun e=>e.elim h.nr.1 h.nr.2)).trans hh.reg,hh.map.kept hB (fun e=>e.elim h.nb.1 h.nb.2) (fun k hk e=>e.elim (h.nC k hk).1 (h.nC k hk).2),hW,⟨fun e=>?_,fun e=>?_⟩,⟨fun e=>?_,fun e=>?_⟩,fun k hk=>⟨fun e=>?_,fun e=>?_⟩⟩
 ·rcases hG _ e with e | e
  ·exact h.nr.1 e
  ·omega
 ·rcases hF _ e with e | e
  ·exact h.nr.2 e
  ·omega
 ·rcases hG _ e with e | e
  ·exact h.nb.1 e
  ·omega
 ·rcases hF _ e with e | e
  ·exact h.nb.2 e
  ·omega
 ·have:=z3 k hk
  rcases hG _ e with e | e
  ·exact(h.nC k hk).1 e
  ·omega
 ·have:=z3 k hk
  rcases hF _ e with e | e
  ·exact(h.nC k hk).2 e
  ·omega
theorem RegMem.after2 {w wA wB:World}{r q p:Nat}{ev ev':Int}{b n b' n':Nat}{C C':Nat→Prop}{l l':KV}{area:Int}{X X':Lg}{D D':Dk}{G F G' F':Nat→Prop}(h:RegMem w r q p ev b n C l area X D G F)(hA:Upd (fun _=>False) w wA)(hW:Wal wB q p X' D' G' F')
  (hG: ∀k,G' k→G k∨wA.heap.size≤k) (hF: ∀k,F' k→F k∨wA.heap.size≤k) (hB:Upd (fun k=>G k∨F k) wA wB) (hm:MapKV wA b' n' C' l') (hb:w.heap.size≤b') (hC: ∀k,C' k→C k∨w.heap.size≤k):
  RegMem ((wB.setCell ⟨r,1,none⟩ (.int .u64 ev')).setCell ⟨r,2,none⟩ (.map (some b'))) r q p ev' b' n' C' l' area X' D' G' F'∧Upd (fun k=>G k∨F k∨k=r) w ((wB.setCell ⟨r,1,none⟩ (.int .u64 ev')).setCell ⟨r,2,none⟩ (.map (some b'))):=by
 have h1:=h.after1 hA hW hG hF hB
 obtain⟨z1,z2,z3,z4,z5⟩:=h.lt
 have hsz:=hA.size
 have hu:Upd (fun k=>k=r) wB ((wB.setCell ⟨r,1,none⟩ (.int .u64 ev')).setCell ⟨r,2,none⟩ (.map (some b'))):=(upd_own wB r 1 _).trans (upd_own _ r 2 _)
 have hbl:=hm.lt
 have hcl:=hm.1.rowC.lt
 have hCr: ∀k,C' k→ ¬k=r:=fun k hk e=>by
  obtain⟨cs,q1⟩:=hm.1.rowC k hk
  have q2:=(h.kept0 hA).reg
  unfold RegAt at q2
  rw[e,q2] at q1
  injection q1 with q1
  injection q1 with _ q1
  exact absurd q1 (by decide)
 have hbGF: ¬G b'∧ ¬F b':=⟨fun e=>by have:=z4 _ e;omega,fun e=>by have:=z5 _ e;omega⟩
 have hCGF: ∀k,C' k→ ¬G k∧ ¬F k:=fun k hk=>by
  rcases hC k hk with e | e
  ·exact h.nC k e
  ·exact⟨fun e'=>by have:=z4 _ e';omega,fun e'=>by have:=z5 _ e';omega⟩
 refine⟨⟨?_,(hm.kept hB (fun e=>e.elim hbGF.1 hbGF.2) (fun k hk e=>e.elim (hCGF k hk).1 (hCGF k hk).2)).kept hu (fun e=>by omega) hCr,⟨hW.1.kept hu (fun k hk e=>h1.nr.1 (e ▸ hk)),hW.2.1.kept hu (fun k hk e=>h1.nr.2 (e ▸ hk)),hW.2.2⟩,h1.nr,⟨fun e=>?_,fun e=>?_⟩,fun k hk=>⟨fun e=>?_,fun e=>?_⟩⟩,?_⟩
 ·have q2:=h1.reg
  unfold RegAt at q2 ⊢
  have:=blk_set (i:=2) (v:=.map (some b')) (blk_set (i:=1) (v:=.int .u64 ev') q2)
  simpa using this
 ·rcases hG _ e with e | e
  ·exact hbGF.1 e
  ·omega
 ·rcases hF _ e with e | e
  ·exact hbGF.2 e
  ·omega
 ·have:=hcl k hk
  rcases hG _ e with e | e
  ·exact(hCGF k hk).1 e
  ·omega
 ·have:=hcl k hk
  rcases hF _ e with e | e
  ·exact(hCGF k hk).2 e
  ·omega
 ·exact((hA.mono (F:=fun _=>False) (G:=fun k=>G k∨F k∨k=r) (fun _ _ e=>e.elim)).step (hB.mono (F:=fun k=>G k∨F k) (G:=fun k=>G k∨F k∨k=r) (fun _ _ e=>e.elim .inl (fun e=>.inr (.inl e)))) (fun _ _ e=>e)).step (hu.mono (F:=fun k=>k=r) (G:=fun k=>G k∨F k∨k=r) (fun _ _ e=>.inr (.inr e))) (fun _ _ e=>e)
theorem cells4_of {w:World}{b:Nat}{x0 x1 x2 x3:Value}{t:TypeId}(h:w.heap[b]?=some (.cells #[x0,x1,x2,x3] t (0,0))):w.cell? ⟨b,0,none⟩=some x0∧w.cell? ⟨b,1,none⟩=some x1∧w.cell? ⟨b,2,none⟩=some x2∧w.cell? ⟨b,3,none⟩=some x3:=by simp[World.cell?,h]
theorem rwhole_any2 {b n:Nat}{C:Nat→Prop}{ev:Int}{l:KV}(w:World)(hm:MapKV w b n C l)(hl:l.Fine)(h0:0≤ev)(he:ev≤4611686018427387904):
  Calls Tryz.prog 98 #[.agg #[.int .u64 ev,.map (some b)]] w fun e w'=> ∃ua uc,e=.returned (.slice ua (wholeF ev l).length uc)∧OwnB w' w.heap.size (.slice ua (wholeF ev l).length uc) (wholeF ev l)∧Upd (fun _=>False) w w':=by
 refine(rwhole_any w hm hl h0 he).mono ?_
 rintro e w' ⟨u,rfl,g1,g2⟩
 obtain⟨ua,uc,rfl,_⟩:=g1.bytesAt.1.slice
 exact⟨ua,uc,rfl,g1,g2⟩
theorem encoded_any2 {c:Nat}{a:Option Addr}{B:BatchV}(w:World)(hs:SetsIn w a B.sets)(hr:B.right=true)(hk:B.Ok):
  Calls Tryz.prog 82 #[.agg #[.int .u64 B.epoch,.bool B.large,.slice a B.sets.length c]] w fun e w'=> ∃ua uc,e=.returned (.slice ua (encF B).length uc)∧OwnB w' w.heap.size (.slice ua (encF B).length uc) (encF B)∧Upd (fun _=>False) w w':=by
 refine(encoded_any (c:=c) w hs hr hk).mono ?_
 rintro e w' ⟨u,rfl,g1,g2⟩
 obtain⟨ua,uc,rfl,_⟩:=g1.bytesAt.1.slice
 exact⟨ua,uc,rfl,g1,g2⟩
theorem append_any2 {q p:Nat}{X:Lg}{D:Dk}{G F:Nat→Prop}{K:Nat}{v:Value}{b:List Int}(w:World)(hX:Wal w q p X D G F)(hok:X.Ok)(hlen:X.parts.length<1000)(hDok:D.Ok K)(hK:K≤1000000000)(hb:Bytes b)(hbl:b.length≤1000000)(hbi:BytesIn w v b)
  (hsv:b≠[]→ ∀a n c,v=.slice (some a) n c→ ¬F a.block∧a.block≠q):
  Calls Tryz.prog 43 #[.pointer (some ⟨q,0,none⟩),v] w fun e w'=>
   (X.refuses b.length X.used≠0∧e=.returned (.int .i64 (X.refuses b.length X.used))∧Upd (fun _=>False) w w')∨
   (X.refuses b.length X.used=0∧ ∃E1,E1=D.laysE (X.apS b hb)∧e=.returned (.int .i64 E1)∧ ∃G' F',Wal w' q p (X.after b E1) (D.lays (X.apS b hb)) G' F'∧
     (∀k,G' k→G k∨w.heap.size≤k)∧(∀k,F' k→F k∨w.heap.size≤k)∧Upd (fun k=>G k∨F k) w w'):=by
 refine(append_any w hX hok hlen hDok (by omega) hb (by omega) hbi hsv).mono ?_
 rintro e w' (h | ⟨h1,h2,h3⟩)
 ·exact .inl h
 ·exact .inr ⟨h1,_,rfl,h2,h3⟩
theorem cp_any2 {q p:Nat}{X:Lg}{D:Dk}{G F:Nat→Prop}{K:Nat}{v:Value}{b:List Int}(w:World)(hX:Wal w q p X D G F)(hok:X.Ok)(hDok:D.Ok K)(hK:K≤1000000000)(hb:Bytes b)(hbl:b.length≤1000000)(hbi:BytesIn w v b)
  (hsv:b≠[]→ ∀a n c,v=.slice (some a) n c→ ¬F a.block∧a.block≠q):
  Calls Tryz.prog 42 #[.pointer (some ⟨q,0,none⟩),v] w fun e w'=>
   (∃E1,e=.returned (.int .i64 E1)∧E1≠0∧((X.refuses b.length 0≠0∧E1=X.refuses b.length 0)∨(X.refuses b.length 0=0∧X.h.turn=1073741824∧E1=6))∧Upd (fun _=>False) w w')∨
   ((X.refuses b.length 0=0∧X.h.turn≠1073741824)∧ ∃E1,E1=X.cpE D b hb∧e=.returned (.int .i64 E1)∧ ∃G' F',Wal w' q p (X.cp b E1) (X.cpD D b hb) G' F'∧
     (∀k,G' k→G k∨w.heap.size≤k)∧(∀k,F' k→F k∨w.heap.size≤k)∧Upd (fun k=>G k∨F k) w w'):=by
 refine(cp_any w hX hok hDok (by omega) hb (by omega) hbi hsv).mono ?_
 rintro e w' (⟨h1,h2,h3⟩ | ⟨h0,h1,h2,h3⟩ | ⟨h0,h1,h2,h3⟩)
 ·exact .inl ⟨_,h2,h1,.inl ⟨h1,rfl⟩,h3⟩
 ·exact .inl ⟨6,h2,by decide,.inr ⟨h0,h1,rfl⟩,h3⟩
 ·exact .inr ⟨⟨h0,h1⟩,_,rfl,h2,h3⟩
def DidIn (w0:World)(n:Nat)(C:Nat→Prop)(ev:Int)(l:KV)(B:BatchV)(ev':Int)(b':Nat)(W:World):Prop:=
 doE ev l B=0→ev'=B.epoch∧w0.heap.size≤b'∧ ∃n' C',MapKV W b' n' C' (l.withs B.sets)∧n'≤n+48∧ ∀k,C' k→C k∨w0.heap.size≤k
theorem DidIn.kept0 {w0 W W':World}{n:Nat}{C:Nat→Prop}{ev ev':Int}{l:KV}{B:BatchV}{b':Nat}(h:DidIn w0 n C ev l B ev' b' W)(hu:Upd (fun _=>False) W W'):DidIn w0 n C ev l B ev' b' W':=fun e=>by
 obtain⟨h1,h2,n',C',h3,h4⟩:=h e
 exact⟨h1,h2,n',C',h3.kept0 hu,h4⟩
theorem do_any2 {b n c:Nat}{C:Nat→Prop}{ev:Int}{a:Option Addr}{l:KV}{B:BatchV}(w0 w:World)(h0:w0.heap.size≤w.heap.size)(hm:MapKV w b n C l)(hn:n≤1000000)(hl:l.Fine)(hs:SetsIn w a B.sets)(hr:B.right=true):
  Calls Tryz.prog 96 #[.agg #[.int .u64 ev,.map (some b)],.agg #[.int .u64 B.epoch,.bool B.large,.slice a B.sets.length c]] w fun e w'=> ∃ev' b',e=.returned (.tuple #[.agg #[.int .u64 ev',.map (some b')],.int .i64 (doE ev l B)])∧DidIn w0 n C ev l B ev' b' w'∧Upd (fun _=>False) w w':=by
 refine(do_any (c:=c) w hm hn hl hs hr).mono ?_
 rintro e w' ⟨hu,⟨hE,rfl⟩ | ⟨hE,b',n',C',rfl,h1,h2,h3,h4⟩⟩
 ·exact⟨ev,b,rfl,fun e=>absurd e hE,hu⟩
 ·refine⟨B.epoch,b',by rw[hE];rfl,fun _=>⟨rfl,by omega,n',C',h1,?_,fun k hk=>(h4 k hk).imp_right (by omega)⟩,hu⟩
  have:=(BatchV.right_sets hr).2.1
  omega
theorem commit_any {r q p:Nat}{ev area:Int}{b n c K:Nat}{C G F:Nat→Prop}{l:KV}{X:Lg}{D:Dk}{a:Option Addr}{B:BatchV}(w:World)(hm:RegMem w r q p ev b n C l area X D G F)(hX:X.Ok)(hpl:X.parts.length<1000)(hD:D.Ok K)(hK:K≤1000000000)
  (hn:n≤1000000) (hl:l.Fine) (hev:0≤ev) (har:4≤area∧area≤1000) (hs:SetsIn w a B.sets) (hsl:B.sets.length≤900) (hk:B.Ok) (hal: ∀b o,a=some ⟨b,o,none⟩→b<w.heap.size):
  Calls Tryz.prog 31 #[.pointer (some ⟨r,0,none⟩),batchV B a c] w (CommitAns w r q p ev b n C l area X D G F B):=by
 obtain⟨w1,hw1⟩: ∃w1,w1=w.alloc (.cells #[.int .u64 B.epoch,.bool B.large,.slice a B.sets.length c] 56):=⟨_,rfl⟩
 have hx1:w1.heap[w.heap.size]?=some (.cells #[.int .u64 B.epoch,.bool B.large,.slice a B.sets.length c] 56 (0,0)):=by rw[hw1];exact alloc_at rfl
 have hu1:Upd (fun _=>False) w w1:=by rw[hw1];exact(Upd.refl _ w).alloc _
 have hm1:=hm.kept0 hu1
 have hcheck:=checked_any (c:=c) w1 (hs.kept hu1) hsl (fun b o e=>Nat.lt_of_lt_of_le (hal b o e) hu1.size)
 unfold batchV at hcheck
 obtain⟨y0,y1,y2⟩:=cells3_of hx1
 have HM:=hid hm;have HX:=hid hX;have HD:=hid hD;have HL:=hid hl;have HS:=hid hs;have HK:=hid hk;have HW1:=hid hw1;have HX1:=hid hx1;have HU1:=hid hu1;have HM1:=hid hm1;have HCH:=hid hcheck
 clear hm hX hD hl hs hk hw1 hx1 hu1 hm1 hcheck hal
 unfold batchV
 go_enter Tryz.func31,Tryz.ntmps31
 go_upto_region 1 with fail
 rw[←HW1.out]
 clear HW1
 go_wp2_with (go_at_call 48;fail)
 refine(broken_any w1 HM1.out.reg HM1.out.wal.1).mono ?_
 rintro e w2 ⟨rfl,rfl⟩
 simp only[]
 cases hbr:X.broken with
 |true=>
  have HP:=hid (show planF ev area l X B=.no 8 by unfold planF;rw[if_pos hbr])
  go_wp2
  go_ret
  unfold CommitAns
  rw[HP.out]
  exact⟨rfl,HU1.out⟩
 |false=>
  have HBR:=hid hbr
  go_wp2_with (go_at_call 81;fail)
  refine HCH.out.mono ?_
  rintro e w2 ⟨rfl,hu2⟩
  have hu12:=HU1.out.trans hu2
  have HU2:=hid hu12
  have HM2:=hid (HM.out.kept0 hu12)
  have HX2:=hid ((hu2.block _ (lt_of_heap HX1.out) (fun e=>e)).trans HX1.out)
  have HSZ:=hid (show w.heap.size<w2.heap.size from Nat.lt_of_lt_of_le (lt_of_heap HX1.out) hu2.size)
  clear hu2 hu12 y0 y1 y2 HCH
  simp only[]
  cases hr:B.right with
  |false=>
   have HP:=hid (show planF ev area l X B=.no 2 by unfold planF;rw[if_neg (by rw[HBR.out];decide),if_pos hr])
   go_wp2
   go_ret
   unfold CommitAns
   rw[HP.out]
   exact⟨rfl,HU2.out⟩
  |true=>
   have HR:=hid hr
   obtain⟨E,hE⟩: ∃E,E=doE ev l B:=⟨_,rfl⟩
   have HE:=hid hE
   obtain⟨bx,hbx⟩: ∃bx,bx=w.heap.size:=⟨_,rfl⟩
   have HXB:=hid (show w2.heap[bx]?=some (.cells #[.int .u64 B.epoch,.bool B.large,.slice a B.sets.length c] 56 (0,0)) by rw[hbx];exact HX2.out)
   go_upto_region 7 with fail
   rw[←hbx]
   have hA:w2.drew.heap[bx]?=some (.cells #[.int .u64 B.epoch,.bool B.large,.slice a B.sets.length c] 56 (0,0))∧w2.drew.heap[r]?=some (.cells #[.pointer (some ⟨q,0,none⟩),.int .u64 ev,.map (some b),.int .i64 area] 172 (0,0)):=⟨HXB.out,HM2.out.reg⟩
   have HBX:=hid hbx
   clear hbr hr hE hbx
   go_cut [5,6] from 18 to 27 (fun v5 v6 wx=> ∃t5 ev' b',v5=.pointer (some ⟨t5,0,none⟩)∧v6=.int .i64 E∧wx.heap[t5]?=some (.cells #[.int .u64 ev',.map (some b')] 167 (0,0))∧DidIn w n C ev l B ev' b' wx∧Upd (fun _=>False) w2 wx∧w2.heap.size≤t5)
   case first=>
    refine wp_region_G 10 (fun W=>W.heap[bx]?=some (.cells #[.int .u64 B.epoch,.bool B.large,.slice a B.sets.length c] 56 (0,0))∧W.heap[r]?=some (.cells #[.pointer (some ⟨q,0,none⟩),.int .u64 ev,.map (some b),.int .i64 area] 172 (0,0))) [false,false,false,false,false,false,false,false,false,false,false,false] rfl (by kernel_rfl) ?_
    have HMD:RowKit.Hid (MapKV w2.drew b n C l):=hid (HM2.out.map.kept0 ((Upd.refl (fun _=>False) w2).drew))
    have HSD:RowKit.Hid (SetsIn w2.drew a B.sets):=hid ((HS.out.kept HU2.out).kept ((Upd.refl (fun _=>False) w2).drew))
    have HU:=hid ((Upd.refl (fun _=>False) w2).drew)
    generalize w2.drew=wd at hA HU HMD HSD ⊢
    refine tqZ 0 (.pointer (some ⟨r,0,none⟩)) [] hA (fun w5 q1=>?_) ?_
    ·go_simp
    simp only[pZ,nZ,bZ,List.set]
    refine tqZ 1 (.pointer (some ⟨r,0,none⟩)) [] hA (fun w5 q1=>?_) ?_
    ·go_simp
    simp only[pZ,nZ,bZ,List.set]
    refine tqZ 2 (.pointer (some ⟨r,1,none⟩)) [] hA (fun w5 q1=>?_) ?_
    ·go_simp
    simp only[pZ,nZ,bZ,List.set]
    refine tqZ 3 (.agg #[.int .u64 ev,.map (some b)]) [] hA (fun w5 q1=>?_) ?_
    ·obtain⟨c0,c1,c2,c3⟩:=cells4_of q1.2
     go_simp
    simp only[pZ,nZ,bZ,List.set]
    refine tqZ 4 (.agg #[.int .u64 B.epoch,.bool B.large,.slice a B.sets.length c]) [] hA (fun w5 q1=>?_) ?_
    ·obtain⟨c0,c1,c2⟩:=cells3_of q1.1
     go_simp
    simp only[pZ,nZ,bZ,List.set]
    refine wpG_do2 (i:=5) (j:=9) rfl rfl (by kernel_rfl) rfl rfl (fun K hK=>?_) (fun K hK=>?_)
    ·have HKK:=hid hK
     clear hK
     go_step
     refine(do_any2 (c:=c) w wd (Nat.le_of_lt (Nat.lt_of_lt_of_le HSZ.out HU.out.size)) HMD.out hn HL.out HSD.out HR.out).mono ?_
     rintro e wd1 ⟨ev1,b1,rfl,g1,g3⟩
     rw[←HE.out]
     have hA:=(⟨(g3.block _ (lt_of_heap hA.1) (fun e=>e)).trans hA.1,(g3.block _ (lt_of_heap hA.2) (fun e=>e)).trans hA.2⟩:_∧_)
     have HDI:=hid g1
     have HU:=hid (HU.out.trans g3)
     clear g1
     clear g3
     refine HKK.out _ _ hA ?_
     clear HKK
     simp only[pZ,nZ,bZ,List.set]
     refine tqZ 6 (.tuple #[.agg #[.int .u64 ev1,.map (some b1)],.int .i64 E]) [] hA (fun w5 q1=>?_) ?_
     ·go_simp
     simp only[pZ,nZ,bZ,List.set]
     refine tqZ 7 (.agg #[.int .u64 ev1,.map (some b1)]) [] hA (fun w5 q1=>?_) ?_
     ·go_simp
     simp only[pZ,nZ,bZ,List.set]
     refine tpZ 8 (.int .i64 E) hA (fun w5=>?_) ?_
     ·go_simp
     simp only[pZ,nZ,bZ,List.set]
     refine wpG_do (i:=9) rfl (by kernel_rfl) rfl (fun K hK=>?_)
     have HKK:=hid hK
     clear hK
     go_step
     have ua:Upd (fun _=>False) wd1 (wd1.alloc (.cells #[.int .u64 0,.map none] 167)):=(Upd.refl _ _).alloc _
     have HT5:=hid (show w2.heap.size≤wd1.heap.size from HU.out.size)
     have HX5:=hid (alloc_at (w:=wd1) (o:=.cells #[.int .u64 0,.map none] 167) (k:=wd1.heap.size) rfl)
     have hA:=(⟨(ua.block _ (lt_of_heap hA.1) (fun e=>e)).trans hA.1,(ua.block _ (lt_of_heap hA.2) (fun e=>e)).trans hA.2⟩:_∧_)
     have HU:=hid (HU.out.trans ua)
     have HDI:=hid (HDI.out.kept0 ua)
     clear ua
     refine HKK.out _ _ hA ?_
     clear HKK
     simp only[pZ,nZ,bZ,List.set]
     generalize wd1.alloc (.cells #[.int .u64 0,.map none] 167)=wd2 at HX5 hA HU HDI ⊢
     generalize wd1.heap.size=t5 at HX5 HT5 ⊢
     refine wpG_tail_lit (k:=10) rfl rfl (by kernel_rfl) ?_
     simp only[List.drop]
     have f0:wd2.frozen? ⟨t5,0,none⟩=false:=frozen_of_heap HX5.out
     have f1:wd2.frozen? ⟨t5,1,none⟩=false:=frozen_of_heap HX5.out
     obtain⟨d0,d1⟩:=cells2_of HX5.out
     go_wp2
     go_meet
     case rel=>
      obtain⟨p1,p2⟩:=put2 (u:=.int .u64 ev1) (v:=.map (some b1)) HX5.out
      refine⟨t5,ev1,b1,rfl,rfl,p1,fun h=>?_,HU.out.step p2 (fun k hk e=>by have:=HT5.out;omega),HT5.out⟩
      obtain⟨h1,h2,n',C',h3,h4⟩:=HDI.out h
      refine⟨h1,h2,n',C',h3.kept p2 (fun e=>?_) (fun k hk e=>?_),h4⟩
      ·obtain⟨es,cc,q1⟩:=h3.1.isMapBlock
       rw[e,HX5.out] at q1
       cases q1
      ·obtain⟨cs,q1⟩:=h3.1.rowC k hk
       rw[e,HX5.out] at q1
       injection q1 with q1
       injection q1 with _ q1
       exact absurd q1 (by decide)
    ·have HKK:=hid hK
     clear hK
     go_step
     have ua:Upd (fun _=>False) wd (wd.alloc (.cells #[.int .u64 0,.map none] 167)):=(Upd.refl _ _).alloc _
     have HT5:=hid (show w2.heap.size≤wd.heap.size from HU.out.size)
     have HX5:=hid (alloc_at (w:=wd) (o:=.cells #[.int .u64 0,.map none] 167) (k:=wd.heap.size) rfl)
     have hA:=(⟨(ua.block _ (lt_of_heap hA.1) (fun e=>e)).trans hA.1,(ua.block _ (lt_of_heap hA.2) (fun e=>e)).trans hA.2⟩:_∧_)
     have HU:=hid (HU.out.trans ua)
     have HMD:=hid (HMD.out.kept0 ua)
     have HSD:=hid (HSD.out.kept ua)
     clear ua
     refine HKK.out _ _ hA ?_
     clear HKK
     simp only[pZ,nZ,bZ,List.set]
     generalize wd.alloc (.cells #[.int .u64 0,.map none] 167)=wd1 at HX5 hA HU HMD HSD ⊢
     generalize wd.heap.size=t5 at HX5 HT5 ⊢
     refine wpG_do (i:=5) rfl (by kernel_rfl) rfl (fun K hK=>?_)
     have HKK:=hid hK
     clear hK
     go_step
     refine(do_any2 (c:=c) w wd1 (Nat.le_of_lt (Nat.lt_of_lt_of_le HSZ.out HU.out.size)) HMD.out hn HL.out HSD.out HR.out).mono ?_
     rintro e wd2 ⟨ev1,b1,rfl,g1,g3⟩
     rw[←HE.out]
     have hA:=(⟨(g3.block _ (lt_of_heap hA.1) (fun e=>e)).trans hA.1,(g3.block _ (lt_of_heap hA.2) (fun e=>e)).trans hA.2⟩:_∧_)
     have HDI:=hid g1
     have HU:=hid (HU.out.trans g3)
     clear g1
     have HX5:=hid ((g3.block _ (lt_of_heap HX5.out) (fun e=>e)).trans HX5.out)
     clear g3
     refine HKK.out _ _ hA ?_
     clear HKK
     simp only[pZ,nZ,bZ,List.set]
     refine tqZ 6 (.tuple #[.agg #[.int .u64 ev1,.map (some b1)],.int .i64 E]) [] hA (fun w5 q1=>?_) ?_
     ·go_simp
     simp only[pZ,nZ,bZ,List.set]
     refine tqZ 7 (.agg #[.int .u64 ev1,.map (some b1)]) [] hA (fun w5 q1=>?_) ?_
     ·go_simp
     simp only[pZ,nZ,bZ,List.set]
     refine tpZ 8 (.int .i64 E) hA (fun w5=>?_) ?_
     ·go_simp
     simp only[pZ,nZ,bZ,List.set]
     refine wpG_tail_lit (k:=10) rfl rfl (by kernel_rfl) ?_
     simp only[List.drop]
     have f0:wd2.frozen? ⟨t5,0,none⟩=false:=frozen_of_heap HX5.out
     have f1:wd2.frozen? ⟨t5,1,none⟩=false:=frozen_of_heap HX5.out
     obtain⟨d0,d1⟩:=cells2_of HX5.out
     go_wp2
     go_meet
     case rel=>
      obtain⟨p1,p2⟩:=put2 (u:=.int .u64 ev1) (v:=.map (some b1)) HX5.out
      refine⟨t5,ev1,b1,rfl,rfl,p1,fun h=>?_,HU.out.step p2 (fun k hk e=>by have:=HT5.out;omega),HT5.out⟩
      obtain⟨h1,h2,n',C',h3,h4⟩:=HDI.out h
      refine⟨h1,h2,n',C',h3.kept p2 (fun e=>?_) (fun k hk e=>?_),h4⟩
      ·obtain⟨es,cc,q1⟩:=h3.1.isMapBlock
       rw[e,HX5.out] at q1
       cases q1
      ·obtain⟨cs,q1⟩:=h3.1.rowC k hk
       rw[e,HX5.out] at q1
       injection q1 with q1
       injection q1 with _ q1
       exact absurd q1 (by decide)
   case rest=>
    obtain⟨t5,ev1,b1,rfl,rfl,hx5,hdi,hu3,ht5⟩:=hcut
    have hua:=HU2.out.trans hu3
    have HUA:=hid hua
    have HMA:=hid (HM.out.kept0 hua)
    have HXA:=hid ((hu3.block _ (lt_of_heap HXB.out) (fun e=>e)).trans HXB.out)
    have HX5:=hid hx5
    have HT5:=hid ht5
    have hdi':=hdi
    clear hA HX2 HXB HM2 HU1 HM1 HX1
    by_cases hE0:E=0
    rotate_left
    ·have hE1:(E !=0)=true:=by simpa using hE0
     have hE2:(E == 0)=false:=by simpa using hE0
     have HP:=hid (show planF ev area l X B=.no E by unfold planF;rw[if_neg (by rw[HBR.out];decide),if_neg (by rw[HR.out];decide),←HE.out,if_pos hE0])
     clear hE0 hdi hdi' hx5 hu3 hua ht5
     go_wp2
     go_ret
     unfold CommitAns
     rw[HP.out]
     exact⟨rfl,HUA.out⟩
    ·subst hE0
     obtain⟨h1,h2,n1,C1,h3,h4,h5⟩:=hdi HE.out.symm
     subst h1
     have hfin:=doE_fine HL.out HR.out HK.out HE.out.symm
     have HFIN:=hid hfin.1
     have HEV:=hid (show 0≤B.epoch∧B.epoch≤4611686018427387904 from⟨HK.out.epoch.1,(BatchV.right_sets HR.out).1⟩)
     have HB1:=hid h2;have HMK:=hid h3;have HC1:=hid h5;have HN1:=hid h4
     obtain⟨wh,hwh⟩: ∃wh,wh=wholeF B.epoch (l.withs B.sets):=⟨_,rfl⟩
     obtain⟨ft,hft⟩: ∃ft,ft=fitsF wh.length (area - 8):=⟨_,rfl⟩
     have HWH:=hid hwh;have HFT:=hid hft
     have hws:IntKind.i64.wrap (area - 8)=area - 8:=by rw[IntKind.wrap_i64];omega
     clear hdi hdi' hx5 hua hfin h2 h3 h4 h5 hwh hft ht5 hu3
     go_upto_region 10 with fail
     have hA:wc.drew.heap[bx]?=some (.cells #[.int .u64 B.epoch,.bool B.large,.slice a B.sets.length c] 56 (0,0))∧wc.drew.heap[t5]?=some (.cells #[.int .u64 B.epoch,.map (some b1)] 167 (0,0))∧wc.drew.heap[r]?=some (.cells #[.pointer (some ⟨q,0,none⟩),.int .u64 ev,.map (some b),.int .i64 area] 172 (0,0)):=⟨HXA.out,HX5.out,HMA.out.reg⟩
     go_cut [31] from 32 to 45 (fun v wx=>v=.bool (B.large && !ft)∧Upd (fun _=>False) wc wx)
     case first=>
      have HMD:RowKit.Hid (MapKV wc.drew b1 n1 C1 (l.withs B.sets)):=hid (HMK.out.kept0 ((Upd.refl (fun _=>False) wc).drew))
      have HU:=hid ((Upd.refl (fun _=>False) wc).drew)
      by_cases hlg:B.large=true
      rotate_left
      ·have HLG:=hid (show B.large=false by simpa using hlg)
       clear hlg
       refine wp_region_G 13 (fun W=>W.heap[bx]?=some (.cells #[.int .u64 B.epoch,.bool B.large,.slice a B.sets.length c] 56 (0,0))∧W.heap[t5]?=some (.cells #[.int .u64 B.epoch,.map (some b1)] 167 (0,0))∧W.heap[r]?=some (.cells #[.pointer (some ⟨q,0,none⟩),.int .u64 ev,.map (some b),.int .i64 area] 172 (0,0))) [false,false,false,false,false,false,false,false,false,false,false,false,false,false] rfl (by kernel_rfl) ?_
       generalize wc.drew=wd at hA HU HMD ⊢
       refine tqZ 0 (.pointer (some ⟨bx,1,none⟩)) [12,2,1] hA (fun w5 q1=>?_) ?_
       ·go_simp
       simp only[pZ,nZ,bZ,List.set]
       refine tqZ 1 (.bool false) [12,2] hA (fun w5 q1=>?_) ?_
       ·obtain⟨c0,c1,c2⟩:=cells3_of q1.1
        rw[HLG.out] at c1
        go_simp
       simp only[pZ,nZ,bZ,List.set]
       refine tqZ 2 (.bool false) [12] hA (fun w5 q1=>?_) ?_
       ·go_simp
       simp only[pZ,nZ,bZ,List.set]
       refine trZ 3 [10,4] hA ?_
       simp only[pZ,nZ,bZ,List.set]
       refine trZ 4 [10] hA ?_
       simp only[pZ,nZ,bZ,List.set]
       refine trZ 5 [10,9,8,7,6] hA ?_
       simp only[pZ,nZ,bZ,List.set]
       refine trZ 6 [10,9,8,7] hA ?_
       simp only[pZ,nZ,bZ,List.set]
       refine trZ 7 [10,9,8] hA ?_
       simp only[pZ,nZ,bZ,List.set]
       refine trZ 8 [10,9] hA ?_
       simp only[pZ,nZ,bZ,List.set]
       refine trZ 9 [10] hA ?_
       simp only[pZ,nZ,bZ,List.set]
       refine trZ 10 [] hA ?_
       simp only[pZ,nZ,bZ,List.set]
       refine trZ 11 [12] hA ?_
       simp only[pZ,nZ,bZ,List.set]
       refine tqZ 12 (.bool false) [] hA (fun w5 q1=>?_) ?_
       ·go_simp
       simp only[pZ,nZ,bZ,List.set]
       refine wpG_tail_lit (k:=13) rfl rfl (by kernel_rfl) ?_
       simp only[List.drop]
       go_wp2
       go_meet
       case rel=>exact⟨by rw[HLG.out];rfl,HU.out⟩
      ·have HLG:=hid hlg
       clear hlg
       refine wp_region_G 13 (fun W=>W.heap[bx]?=some (.cells #[.int .u64 B.epoch,.bool B.large,.slice a B.sets.length c] 56 (0,0))∧W.heap[t5]?=some (.cells #[.int .u64 B.epoch,.map (some b1)] 167 (0,0))∧W.heap[r]?=some (.cells #[.pointer (some ⟨q,0,none⟩),.int .u64 ev,.map (some b),.int .i64 area] 172 (0,0))) [false,false,false,false,false,false,false,false,false,false,false,false,false,false] rfl (by kernel_rfl) ?_
       generalize wc.drew=wd at hA HU HMD ⊢
       refine tqZ 0 (.pointer (some ⟨bx,1,none⟩)) [12,2,1] hA (fun w5 q1=>?_) ?_
       ·go_simp
       simp only[pZ,nZ,bZ,List.set]
       refine tqZ 1 (.bool true) [12,2] hA (fun w5 q1=>?_) ?_
       ·obtain⟨c0,c1,c2⟩:=cells3_of q1.1
        rw[HLG.out] at c1
        go_simp
       simp only[pZ,nZ,bZ,List.set]
       refine tqZ 2 (.bool true) [12] hA (fun w5 q1=>?_) ?_
       ·go_simp
       simp only[pZ,nZ,bZ,List.set]
       refine tqZ 3 (.agg #[.int .u64 B.epoch,.map (some b1)]) [10,4] hA (fun w5 q1=>?_) ?_
       ·obtain⟨c0,c1⟩:=cells2_of q1.2.1
        go_simp
       simp only[pZ,nZ,bZ,List.set]
       refine tqZ 5 (.pointer (some ⟨r,0,none⟩)) [10,9,8,7,6] hA (fun w5 q1=>?_) ?_
       ·go_simp
       simp only[pZ,nZ,bZ,List.set]
       refine tqZ 6 (.pointer (some ⟨r,0,none⟩)) [10,9,8,7] hA (fun w5 q1=>?_) ?_
       ·go_simp
       simp only[pZ,nZ,bZ,List.set]
       refine tqZ 7 (.pointer (some ⟨r,3,none⟩)) [10,9,8] hA (fun w5 q1=>?_) ?_
       ·go_simp
       simp only[pZ,nZ,bZ,List.set]
       refine tqZ 8 (.int .i64 area) [10,9] hA (fun w5 q1=>?_) ?_
       ·obtain⟨c0,c1,c2,c3⟩:=cells4_of q1.2.2
        go_simp
       simp only[pZ,nZ,bZ,List.set]
       refine tqZ 9 (.int .i64 (area - 8)) [10] hA (fun w5 q1=>?_) ?_
       ·go_simp
       simp only[pZ,nZ,bZ,List.set]
       refine wpG_doIf (i:=4) rfl (by kernel_rfl) rfl (fun K hK=>?_)
       have HKK:=hid hK
       clear hK
       go_step
       refine(rwhole_any2 wd HMD.out HFIN.out HEV.out.1 HEV.out.2).mono ?_
       rintro e wd1 ⟨ua,uc,rfl,_,g3⟩
       rw[←HWH.out]
       have hA:=(⟨(g3.block _ (lt_of_heap hA.1) (fun e=>e)).trans hA.1,(g3.block _ (lt_of_heap hA.2.1) (fun e=>e)).trans hA.2.1,(g3.block _ (lt_of_heap hA.2.2) (fun e=>e)).trans hA.2.2⟩:_∧_∧_)
       have HU:=hid (HU.out.trans g3)
       clear g3
       refine HKK.out _ _ hA ?_
       clear HKK
       simp only[pZ,nZ,bZ,List.set]
       refine wpG_doIf (i:=10) rfl (by kernel_rfl) rfl (fun K hK=>?_)
       have HKK:=hid hK
       clear hK
       go_step
       refine(fits_any (m:=area - 8) wd1).mono ?_
       rintro e wd2 ⟨rfl,rfl⟩
       rw[←HFT.out]
       refine HKK.out _ _ hA ?_
       clear HKK
       simp only[pZ,nZ,bZ,List.set]
       refine tqZ 11 (.bool (!ft)) [12] hA (fun w5 q1=>?_) ?_
       ·go_simp
       simp only[pZ,nZ,bZ,List.set]
       refine tqZ 12 (.bool (!ft)) [] hA (fun w5 q1=>?_) ?_
       ·go_simp
       simp only[pZ,nZ,bZ,List.set]
       refine wpG_tail_lit (k:=13) rfl rfl (by kernel_rfl) ?_
       simp only[List.drop]
       go_wp2
       go_meet
       case rel=>exact⟨by rw[HLG.out];rfl,HU.out⟩
     case rest=>
      obtain⟨rfl,hu4⟩:=hcut
      have hu4':=HUA.out.trans hu4
      have HU4:=hid hu4'
      have HM4:=hid (HM.out.kept0 hu4')
      have HX4:=hid ((hu4.block _ (lt_of_heap HXA.out) (fun e=>e)).trans HXA.out)
      have HX5:=hid ((hu4.block _ (lt_of_heap HX5.out) (fun e=>e)).trans HX5.out)
      have HMK:=hid (HMK.out.kept0 hu4)
      clear hu4 hu4' hA
      obtain⟨x10,hx10⟩: ∃x,x=(B.large && !ft):=⟨_,rfl⟩
      rw[←hx10]
      have HX10:=hid (show(B.large && !fitsF (wholeF B.epoch (l.withs B.sets)).length (area - 8))=x10 by rw[hx10,HFT.out,HWH.out])
      have HPL:=hid (show x10=false→planF ev area l X B=if B.sets=[]∧B.epoch=ev then .no 0
        else if fitsF (encF B).length (X.h.area - X.used)=true then .app else if fitsF wh.length area=true then .cp else .no 6 from fun hx=>by
       unfold planF
       rw[if_neg (by rw[HBR.out];decide),if_neg (by rw[HR.out];decide),if_neg (by rw[←HE.out];decide),if_neg (by rw[HX10.out,hx];decide),HWH.out])
      clear hx10
      cases x10 with
      |true=>
       have HP:=hid (show planF ev area l X B=.no 6 by
        unfold planF
        rw[if_neg (by rw[HBR.out];decide),if_neg (by rw[HR.out];decide),if_neg (by rw[←HE.out];decide),if_pos HX10.out])
       go_wp2
       go_ret
       unfold CommitAns
       rw[HP.out]
       exact⟨rfl,HU4.out⟩
      |false=>
       have HPL:=hid (HPL.out rfl)
       go_upto_region 12 with fail
       have hA:wc.drew.heap[bx]?=some (.cells #[.int .u64 B.epoch,.bool B.large,.slice a B.sets.length c] 56 (0,0))∧wc.drew.heap[r]?=some (.cells #[.pointer (some ⟨q,0,none⟩),.int .u64 ev,.map (some b),.int .i64 area] 172 (0,0)):=⟨HX4.out,HM4.out.reg⟩
       go_cut [45] from 46 to 60 (fun v wx=>v=.bool (decide (B.sets=[]) && (B.epoch == ev))∧Upd (fun _=>False) wc wx)
       case first=>
        have HU:=hid ((Upd.refl (fun _=>False) wc).drew)
        by_cases hzl:B.sets=[]
        ·have HZL:=hid hzl
         have HZN:=hid (show B.sets.length=0 by rw[hzl];rfl)
         clear hzl
         refine wp_region_G 14 (fun W=>W.heap[bx]?=some (.cells #[.int .u64 B.epoch,.bool B.large,.slice a B.sets.length c] 56 (0,0))∧W.heap[r]?=some (.cells #[.pointer (some ⟨q,0,none⟩),.int .u64 ev,.map (some b),.int .i64 area] 172 (0,0))) [false,false,false,false,false,false,false,false,false,false,false,false,false,false,false] rfl (by kernel_rfl) ?_
         generalize wc.drew=wd at hA HU ⊢
         refine tqZ 0 (.pointer (some ⟨bx,2,none⟩)) [4,3,2,1] hA (fun w5 q1=>?_) ?_
         ·go_simp
         simp only[pZ,nZ,bZ,List.set]
         refine tqZ 1 (.slice a B.sets.length c) [4,3,2] hA (fun w5 q1=>?_) ?_
         ·obtain⟨c0,c1,c2⟩:=cells3_of q1.1
          go_simp
         simp only[pZ,nZ,bZ,List.set]
         refine tqZ 2 (.int .i64 B.sets.length) [4,3] hA (fun w5 q1=>?_) ?_
         ·go_simp
         simp only[pZ,nZ,bZ,List.set]
         refine tqZ 3 (.bool true) [4] hA (fun w5 q1=>?_) ?_
         ·have hz:=HZN.out
          go_simp
         simp only[pZ,nZ,bZ,List.set]
         refine tqZ 4 (.bool true) [] hA (fun w5 q1=>?_) ?_
         ·go_simp
         simp only[pZ,nZ,bZ,List.set]
         refine tqZ 5 (.pointer (some ⟨bx,0,none⟩)) [13,12,6] hA (fun w5 q1=>?_) ?_
         ·go_simp
         simp only[pZ,nZ,bZ,List.set]
         refine tqZ 6 (.int .u64 B.epoch) [13,12] hA (fun w5 q1=>?_) ?_
         ·obtain⟨c0,c1,c2⟩:=cells3_of q1.1
          go_simp
         simp only[pZ,nZ,bZ,List.set]
         refine tqZ 7 (.pointer (some ⟨r,0,none⟩)) [13,12,11,10,9,8] hA (fun w5 q1=>?_) ?_
         ·go_simp
         simp only[pZ,nZ,bZ,List.set]
         refine tqZ 8 (.pointer (some ⟨r,0,none⟩)) [13,12,11,10,9] hA (fun w5 q1=>?_) ?_
         ·go_simp
         simp only[pZ,nZ,bZ,List.set]
         refine tqZ 9 (.pointer (some ⟨r,1,none⟩)) [13,12,11,10] hA (fun w5 q1=>?_) ?_
         ·go_simp
         simp only[pZ,nZ,bZ,List.set]
         refine tqZ 10 (.pointer (some ⟨r,1,none⟩)) [13,12,11] hA (fun w5 q1=>?_) ?_
         ·go_simp
         simp only[pZ,nZ,bZ,List.set]
         refine tqZ 11 (.int .u64 ev) [13,12] hA (fun w5 q1=>?_) ?_
         ·obtain⟨c0,c1,c2,c3⟩:=cells4_of q1.2
          go_simp
         simp only[pZ,nZ,bZ,List.set]
         refine tqZ 12 (.bool (B.epoch == ev)) [13] hA (fun w5 q1=>?_) ?_
         ·go_simp
         simp only[pZ,nZ,bZ,List.set]
         refine tqZ 13 (.bool (B.epoch == ev)) [] hA (fun w5 q1=>?_) ?_
         ·go_simp
         simp only[pZ,nZ,bZ,List.set]
         refine wpG_tail_lit (k:=14) rfl rfl (by kernel_rfl) ?_
         simp only[List.drop]
         go_wp2
         go_meet
         case rel=>exact⟨by rw[decide_eq_true HZL.out];rfl,HU.out⟩
        ·have HZL:=hid hzl
         have HZN:=hid (show¬B.sets.length=0 from fun e=>hzl (List.length_eq_zero_iff.1 e))
         clear hzl
         refine wp_region_G 14 (fun W=>W.heap[bx]?=some (.cells #[.int .u64 B.epoch,.bool B.large,.slice a B.sets.length c] 56 (0,0))∧W.heap[r]?=some (.cells #[.pointer (some ⟨q,0,none⟩),.int .u64 ev,.map (some b),.int .i64 area] 172 (0,0))) [false,false,false,false,false,false,false,false,false,false,false,false,false,false,false] rfl (by kernel_rfl) ?_
         generalize wc.drew=wd at hA HU ⊢
         refine tqZ 0 (.pointer (some ⟨bx,2,none⟩)) [4,3,2,1] hA (fun w5 q1=>?_) ?_
         ·go_simp
         simp only[pZ,nZ,bZ,List.set]
         refine tqZ 1 (.slice a B.sets.length c) [4,3,2] hA (fun w5 q1=>?_) ?_
         ·obtain⟨c0,c1,c2⟩:=cells3_of q1.1
          go_simp
         simp only[pZ,nZ,bZ,List.set]
         refine tqZ 2 (.int .i64 B.sets.length) [4,3] hA (fun w5 q1=>?_) ?_
         ·go_simp
         simp only[pZ,nZ,bZ,List.set]
         refine tqZ 3 (.bool false) [4] hA (fun w5 q1=>?_) ?_
         ·have hz:=HZN.out
          have hz2:((B.sets.length:Int) == 0)=false:=by rw[beq_eq_false_iff_ne];omega
          go_simp
         simp only[pZ,nZ,bZ,List.set]
         refine tqZ 4 (.bool false) [] hA (fun w5 q1=>?_) ?_
         ·go_simp
         simp only[pZ,nZ,bZ,List.set]
         refine trZ 5 [13,12,6] hA ?_
         simp only[pZ,nZ,bZ,List.set]
         refine trZ 6 [13,12] hA ?_
         simp only[pZ,nZ,bZ,List.set]
         refine trZ 7 [13,12,11,10,9,8] hA ?_
         simp only[pZ,nZ,bZ,List.set]
         refine trZ 8 [13,12,11,10,9] hA ?_
         simp only[pZ,nZ,bZ,List.set]
         refine trZ 9 [13,12,11,10] hA ?_
         simp only[pZ,nZ,bZ,List.set]
         refine trZ 10 [13,12,11] hA ?_
         simp only[pZ,nZ,bZ,List.set]
         refine trZ 11 [13,12] hA ?_
         simp only[pZ,nZ,bZ,List.set]
         refine trZ 12 [13] hA ?_
         simp only[pZ,nZ,bZ,List.set]
         refine tqZ 13 (.bool false) [] hA (fun w5 q1=>?_) ?_
         ·go_simp
         simp only[pZ,nZ,bZ,List.set]
         refine wpG_tail_lit (k:=14) rfl rfl (by kernel_rfl) ?_
         simp only[List.drop]
         go_wp2
         go_meet
         case rel=>exact⟨by rw[decide_eq_false HZL.out];rfl,HU.out⟩
       case rest=>
        obtain⟨rfl,hu5⟩:=hcut
        have hu5':=HU4.out.trans hu5
        have HU5:=hid hu5'
        have HX4:=hid ((hu5.block _ (lt_of_heap HX4.out) (fun e=>e)).trans HX4.out)
        have HX5:=hid ((hu5.block _ (lt_of_heap HX5.out) (fun e=>e)).trans HX5.out)
        have HMK:=hid (HMK.out.kept0 hu5)
        clear hu5 hu5' hA HM4
        obtain⟨x12,hx12⟩: ∃x,x=(decide (B.sets=[]) && (B.epoch == ev)):=⟨_,rfl⟩
        rw[←hx12]
        have HX12:=hid (show(B.sets=[]∧B.epoch=ev)↔x12=true by rw[hx12];simp)
        clear hx12
        cases x12 with
        |true=>
         have HP:=hid (show planF ev area l X B=.no 0 by rw[HPL.out,if_pos (HX12.out.2 rfl)])
         go_wp2
         go_ret
         unfold CommitAns
         rw[HP.out]
         exact⟨rfl,HU5.out⟩
        |false=>
         have HPL2:=hid (show planF ev area l X B=if fitsF (encF B).length (X.h.area - X.used)=true then .app else if fitsF wh.length area=true then .cp else .no 6 by rw[HPL.out,if_neg (fun e=>by have:=HX12.out.1 e;cases this)])
         obtain⟨y0,y1,y2⟩:=cells3_of HX4.out
         go_wp2_with (go_at_call 82;fail)
         refine(encoded_any2 (c:=c) wc (HS.out.kept HU5.out) HR.out HK.out).mono ?_
         rintro e w5 ⟨ua,uc,rfl,hown,hu⟩
         have HOWN:=hid hown
         have HSZW:=hid (show w.heap.size≤wc.heap.size from HU5.out.size)
         have hu':=HU5.out.trans hu
         have HU5:=hid hu'
         have HX5:=hid ((hu.block _ (lt_of_heap HX5.out) (fun e=>e)).trans HX5.out)
         have HMK:=hid (HMK.out.kept0 hu)
         have HM5:=hid (HM.out.kept0 hu')
         have hrg:=HM5.out.reg
         unfold RegAt at hrg
         obtain⟨c0,c1,c2,c3⟩:=cells4_of hrg
         clear hown hu hu' y0 y1 y2 hrg c1 c2 c3
         simp only[]
         go_wp2_with (go_at_call 54;fail)
         refine(left_any w5 HM5.out.wal.1 HX.out).mono ?_
         rintro e w6 ⟨rfl,hu⟩
         have hu':=HU5.out.trans hu
         have HU5:=hid hu'
         have HX5:=hid ((hu.block _ (lt_of_heap HX5.out) (fun e=>e)).trans HX5.out)
         have HMK:=hid (HMK.out.kept0 hu)
         have HM5:=hid (HM.out.kept0 hu')
         have HOWN:=hid (OwnB.keptF HOWN.out hu (fun _ _ e=>e))
         have hrg:=HM5.out.reg
         unfold RegAt at hrg
         obtain⟨c0,c1,c2,c3⟩:=cells4_of hrg
         clear hu hu' hrg c1 c2
         simp only[]
         go_wp2_with (go_at_call 97;fail)
         refine(fits_any (n:=(encF B).length) (m:=X.h.area - X.used) w6).mono ?_
         rintro e w7 ⟨rfl,rfl⟩
         simp only[]
         obtain⟨f15,hf15⟩: ∃x,x=fitsF (encF B).length (X.h.area - X.used):=⟨_,rfl⟩
         rw[←hf15]
         have HF15:=hid hf15
         clear hf15
         have HSZ6:=hid HU5.out.size
         cases f15 with
         |true=>
          have HP:=hid (show planF ev area l X B=.app by rw[HPL2.out,if_pos HF15.out.symm])
          go_wp2_with (go_at_call 43;fail)
          refine(append_any2 w6 HM5.out.wal HX.out hpl HD.out hK (encF_by HK.out) (by have:=encF_len HR.out;omega) HOWN.out.bytesAt.1.bytesIn (fun _ a' n' c' e=>?_)).mono ?_
          ·have h1:=HOWN.out.lt a'.block (by rw[e];rfl)
           have h2:=HM.out.lt.2.2.2.2 a'.block
           have h3:=HM.out.lt.2.2.2.1 q HM.out.wal.1.mem
           have h4:=HSZW.out
           exact⟨fun e=>by have:=h2 e;omega,fun e=>by omega⟩
          rintro e w7 (⟨hr1,rfl,hu⟩ | ⟨hr1,E1,hE1,rfl,G7,F7,h7,h7g,h7f,h7u⟩)
          ·simp only[]
           have HZ:=hid hr1
           have hz1:(X.refuses (encF B).length X.used == 0)=false:=by simpa using hr1
           have HU7:=hid (HU5.out.trans hu)
           clear hu
           go_wp2
           go_ret
           unfold CommitAns
           rw[HP.out]
           exact⟨encF_by HK.out,.inl ⟨HZ.out,rfl,HU7.out⟩⟩
          ·have HR1:=hid hr1
           clear hr1
           have HE1:=hid hE1;have H7:=hid h7;have H7G:=hid h7g;have H7F:=hid h7f;have H7U:=hid h7u
           have hx57:=(h7u.block _ (lt_of_heap HX5.out) (fun e=>e.elim (fun e=>by have:=HM.out.lt.2.2.2.1 _ e;have:=HT5.out;have:=HSZ.out;omega) (fun e=>by have:=HM.out.lt.2.2.2.2 _ e;have:=HT5.out;have:=HSZ.out;omega))).trans HX5.out
           have hma:=HM.out.after1 HU5.out h7 h7g h7f h7u
           have HMA7:=hid hma
           have hrg:=hma.reg
           unfold RegAt at hrg
           obtain⟨c0,c1,c2,c3⟩:=cells4_of hrg
           have f1:w7.frozen? ⟨r,1,none⟩=false:=frozen_of_heap hrg
           have f2:w7.frozen? ⟨r,2,none⟩=false:=frozen_of_heap hrg
           obtain⟨d0,d1⟩:=cells2_of hx57
           clear hE1 h7 h7g h7f h7u hx57 hma hrg
           by_cases hz:E1=0
           ·have hz1:(E1 == 0)=true:=by simpa using hz
            have HZ1:=hid hz
            clear hz
            go_wp2
            go_ret
            unfold CommitAns
            rw[HP.out]
            have hwh:=HWH.out;subst hwh
            obtain⟨p1,p2⟩:=HM.out.after2 (ev':=B.epoch) HU5.out H7.out H7G.out H7F.out H7U.out HMK.out HB1.out HC1.out
            exact⟨encF_by HK.out,.inr ⟨HR1.out,⟨by rw[←HE1.out];rfl,B.epoch,b1,n1,C1,l.withs B.sets,_,_,by rw[←HE1.out];exact p1,fun _=>⟨rfl,rfl⟩,fun e=>absurd (HE1.out ▸ HZ1.out) e,HN1.out,.inr HB1.out,HC1.out,fun k hk=>(H7G.out k hk).imp_right (Nat.le_trans HU5.out.size),fun k hk=>(H7F.out k hk).imp_right (Nat.le_trans HU5.out.size),p2⟩⟩⟩
           ·have hz1:(E1 == 0)=false:=by simpa using hz
            have HZ1:=hid hz
            go_wp2
            go_ret
            unfold CommitAns
            rw[HP.out]
            have hwh:=HWH.out;subst hwh
            exact⟨encF_by HK.out,.inr ⟨HR1.out,⟨by rw[←HE1.out];rfl,ev,b,n,C,l,_,_,by rw[←HE1.out];exact HMA7.out,fun e=>absurd (HE1.out.trans e) HZ1.out,fun _=>⟨rfl,rfl⟩,by omega,.inl rfl,fun k hk=>.inl hk,fun k hk=>(H7G.out k hk).imp_right (Nat.le_trans HU5.out.size),fun k hk=>(H7F.out k hk).imp_right (Nat.le_trans HU5.out.size),((HU5.out.mono (F:=fun _=>False) (G:=fun k=>G k∨F k∨k=r) (fun _ _ e=>e.elim)).step (H7U.out.mono (F:=fun k=>G k∨F k) (G:=fun k=>G k∨F k∨k=r) (fun _ _ e=>e.elim .inl (fun e=>.inr (.inl e)))) (fun _ _ e=>e))⟩⟩⟩
         |false=>
          have HPL3:=hid (show planF ev area l X B=if fitsF wh.length area=true then .cp else .no 6 by rw[HPL2.out,if_neg (by rw[←HF15.out];decide)])
          obtain⟨d0,d1⟩:=cells2_of HX5.out
          clear HOWN c0 c3
          go_wp2_with (go_at_call 98;fail)
          refine(rwhole_any2 w6 HMK.out HFIN.out HEV.out.1 HEV.out.2).mono ?_
          rintro e w5 ⟨ua2,uc2,rfl,hown,hu⟩
          rw[←HWH.out] at hown
          rw[←HWH.out]
          have HOWN:=hid hown
          have hu':=HU5.out.trans hu
          have HU5:=hid hu'
          have HX5:=hid ((hu.block _ (lt_of_heap HX5.out) (fun e=>e)).trans HX5.out)
          have HMK:=hid (HMK.out.kept0 hu)
          have HM5:=hid (HM.out.kept0 hu')
          have hrg:=HM5.out.reg
          unfold RegAt at hrg
          obtain⟨c0,c1,c2,c3⟩:=cells4_of hrg
          have HSZW:=hid (show w.heap.size≤w6.heap.size from HSZ6.out)
          clear hown hu hu' hrg c1 c2 d0 d1
          simp only[]
          go_wp2_with (go_at_call 97;fail)
          refine(fits_any (n:=wh.length) (m:=area) w5).mono ?_
          rintro e w7 ⟨rfl,rfl⟩
          simp only[]
          obtain⟨f18,hf18⟩: ∃x,x=fitsF wh.length area:=⟨_,rfl⟩
          rw[←hf18]
          have HF18:=hid hf18
          clear hf18
          cases f18 with
          |false=>
           have HP:=hid (show planF ev area l X B=.no 6 by rw[HPL3.out,if_neg (by rw[←HF18.out];decide)])
           go_wp2
           go_ret
           unfold CommitAns
           rw[HP.out]
           exact⟨rfl,HU5.out⟩
          |true=>
           have HP:=hid (show planF ev area l X B=.cp by rw[HPL3.out,if_pos HF18.out.symm])
           have HBYW:=hid (show Bytes wh by rw[HWH.out];exact encF_by (whole_ok HFIN.out HEV.out.1 HEV.out.2))
           have HLNW:=hid (show wh.length≤300000 by rw[HWH.out];exact encF_len (whole_right HFIN.out HEV.out.2))
           go_wp2_with (go_at_call 42;fail)
           refine(cp_any2 w5 HM5.out.wal HX.out HD.out hK HBYW.out (by have:=HLNW.out;omega) HOWN.out.bytesAt.1.bytesIn (fun _ a' n' c' e=>?_)).mono ?_
           ·have h1:=HOWN.out.lt a'.block (by rw[e];rfl)
            have h2:=HM.out.lt.2.2.2.2 a'.block
            have h3:=HM.out.lt.2.2.2.1 q HM.out.wal.1.mem
            have h4:=HSZW.out
            exact⟨fun e=>by have:=h2 e;omega,fun e=>by omega⟩
           rintro e w7 (⟨E1,rfl,hE1,hcase,hu⟩ | ⟨hr1,E1,hE1,rfl,G7,F7,h7,h7g,h7f,h7u⟩)
           ·simp only[]
            have HCS:=hid hcase
            have hz1:(E1 == 0)=false:=by simpa using hE1
            have HU7:=hid (HU5.out.trans hu)
            clear hu hcase
            go_wp2
            go_ret
            unfold CommitAns
            rw[HP.out]
            have hwh:=HWH.out;subst hwh
            refine⟨HBYW.out,?_⟩
            rcases HCS.out with ⟨k1,k2⟩ | ⟨k1,k2,k3⟩
            ·exact .inl ⟨k1,by rw[←k2];rfl,HU7.out⟩
            ·exact .inr (.inl ⟨k1,k2,by rw[k3];rfl,HU7.out⟩)
           ·have HR1:=hid hr1
            clear hr1
            have HE1:=hid hE1;have H7:=hid h7;have H7G:=hid h7g;have H7F:=hid h7f;have H7U:=hid h7u
            have hx57:=(h7u.block _ (lt_of_heap HX5.out) (fun e=>e.elim (fun e=>by have:=HM.out.lt.2.2.2.1 _ e;have:=HT5.out;have:=HSZ.out;omega) (fun e=>by have:=HM.out.lt.2.2.2.2 _ e;have:=HT5.out;have:=HSZ.out;omega))).trans HX5.out
            have hma:=HM.out.after1 HU5.out h7 h7g h7f h7u
            have HMA7:=hid hma
            have hrg:=hma.reg
            unfold RegAt at hrg
            obtain⟨c0,c1,c2,c3⟩:=cells4_of hrg
            have f1:w7.frozen? ⟨r,1,none⟩=false:=frozen_of_heap hrg
            have f2:w7.frozen? ⟨r,2,none⟩=false:=frozen_of_heap hrg
            obtain⟨d0,d1⟩:=cells2_of hx57
            clear hE1 h7 h7g h7f h7u hx57 hma hrg
            by_cases hz:E1=0
            ·have hz1:(E1 == 0)=true:=by simpa using hz
             have HZ1:=hid hz
             clear hz
             go_wp2
             go_ret
             unfold CommitAns
             rw[HP.out]
             have hwh:=HWH.out;subst hwh
             obtain⟨p1,p2⟩:=HM.out.after2 (ev':=B.epoch) HU5.out H7.out H7G.out H7F.out H7U.out HMK.out HB1.out HC1.out
             exact⟨HBYW.out,.inr (.inr ⟨HR1.out.1,HR1.out.2,⟨by rw[←HE1.out];rfl,B.epoch,b1,n1,C1,l.withs B.sets,_,_,by rw[←HE1.out];exact p1,fun _=>⟨rfl,rfl⟩,fun e=>absurd (HE1.out ▸ HZ1.out) e,HN1.out,.inr HB1.out,HC1.out,fun k hk=>(H7G.out k hk).imp_right (Nat.le_trans HU5.out.size),fun k hk=>(H7F.out k hk).imp_right (Nat.le_trans HU5.out.size),p2⟩⟩)⟩
            ·have hz1:(E1 == 0)=false:=by simpa using hz
             have HZ1:=hid hz
             go_wp2
             go_ret
             unfold CommitAns
             rw[HP.out]
             have hwh:=HWH.out;subst hwh
             exact⟨HBYW.out,.inr (.inr ⟨HR1.out.1,HR1.out.2,⟨by rw[←HE1.out];rfl,ev,b,n,C,l,_,_,by rw[←HE1.out];exact HMA7.out,fun e=>absurd (HE1.out.trans e) HZ1.out,fun _=>⟨rfl,rfl⟩,by omega,.inl rfl,fun k hk=>.inl hk,fun k hk=>(H7G.out k hk).imp_right (Nat.le_trans HU5.out.size),fun k hk=>(H7F.out k hk).imp_right (Nat.le_trans HU5.out.size),((HU5.out.mono (F:=fun _=>False) (G:=fun k=>G k∨F k∨k=r) (fun _ _ e=>e.elim)).step (H7U.out.mono (F:=fun k=>G k∨F k) (G:=fun k=>G k∨F k∨k=r) (fun _ _ e=>e.elim .inl (fun e=>.inr (.inl e)))) (fun _ _ e=>e))⟩⟩)⟩
end
end Go.Proofs.YtbimkhdiplnbfaaGreat
