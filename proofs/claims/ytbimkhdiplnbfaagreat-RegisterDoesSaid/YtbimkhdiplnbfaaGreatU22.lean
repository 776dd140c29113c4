/- Walks. -/
import Derived.Test.YtbimkhdiplnbfaaGreatU21
import Derived.Test.YtbimkhdiplnbfaaGreatU24
import Derived.Sort.KeysCollected
set_option linter.unusedVariables false
set_option linter.unusedSimpArgs false
namespace Go.Proofs.YtbimkhdiplnbfaaGreat
set_option maxRecDepth 1000000
set_option maxHeartbeats 16000000
variable {B:BatchV} {s:ByteArray} {M:ByteArray→Option (List Int)} {D:Dk} {area ev:Int} {X:Lg} {K b c n p q r:Nat} {C F G:Nat→Prop} {a:Option Addr} {x:SetV} {u v:Value} {W w w':World}
section
open Go.RowKit Go.Shelf
theorem Zfs (w:World)(h:MapAt w b n C M):
  Calls Tryz.prog 153 #[.map (some b)] w fun e w'=>e=.returned (.map (some w.heap.size))∧MapAt w' w.heap.size n C M∧MapAt w' b n C M∧U0 w w':=by
 obtain⟨D,h1,h0,h2⟩:=h
 obtain⟨es,a0,hb,F,hs,hD⟩:=h1
 have a1:=AnyW.maps_Clone Tryz.cloneMap b es a0 w hb
 change Calls Tryz.prog 153 _ _ _ at a1
 refine a1.mono ?_
 rintro e w' ⟨he,rfl⟩
 have hu:U0 w (w.alloc (.map es a0)):=(Upd.refl _ w).alloc _
 have hv: ∀s:ByteArray,s.size≤maxLen→ ∃v,D.atKey (.string s.data.toList) (.held (.slice none 0 0))=.held v∧Maps.has D (.string s.data.toList)=(M s).isSome∧BytesAt (w.alloc (.map es a0)) C v ((M s).getD []):=fun s hs=>by
  obtain⟨v,k1,k2,k3⟩:=h2 s hs
  exact⟨v,k1,k2,k3.kept hu n3Z⟩
 exact⟨he,⟨D,⟨es,a0,Zc rfl,F,hs,hD⟩,h0.kept hu n3Z,hv⟩,⟨D,⟨es,a0,kb hu hb,F,hs,hD⟩,h0.kept hu n3Z,hv⟩,hu⟩
abbrev KV:=List (ByteArray×List Int)
def nbB (s:ByteArray):List UInt8:=s.data.toList
theorem Zpy {t:ByteArray}(h:nbB s=nbB t):s=t:=ByteArray.ext (Array.toList_inj.1 h)
def KV.get (l:KV)(s:ByteArray):Option (List Int):=(l.find? (fun p=>decide (p.1=s))).map (·.2)
def KV.del (l:KV)(s:ByteArray):KV:=l.filter (fun p=>!decide (p.1=s))
def KV.ins:KV→ByteArray→List Int→KV
 | [],s,v=>[(s,v)]
 |p :: r,s,v=>if nbB s<nbB p.1 then(s,v) :: p :: r else p :: KV.ins r s v
def KV.put (l:KV)(s:ByteArray)(v:List Int):KV:=(l.del s).ins s v
def KV.Rising (l:KV):Prop:=l.Pairwise (fun p q=>nbB p.1<nbB q.1)
theorem KV.mem_ins: ∀(l:KV) (s:ByteArray) (v:List Int) (x:ByteArray×List Int),x∈l.ins s v↔x=(s,v)∨x∈l
 | [],s,v,x=>by simp[KV.ins]
 |p :: r,s,v,x=>by
  simp only[KV.ins]
  split
  ·simp
  ·simp only[List.mem_cons,KV.mem_ins r s v x]
   constructor
   ·rintro(h | h | h)
    ·exact .inr (.inl h)
    ·exact .inl h
    ·exact .inr (.inr h)
   ·rintro(h | h | h)
    ·exact .inr (.inl h)
    ·exact .inl h
    ·exact .inr (.inr h)
theorem KV.mem_del (l:KV)(s:ByteArray)(x:ByteArray×List Int):x∈l.del s↔x∈l∧x.1≠s:=by
 simp[KV.del]
theorem KV.Rising.del {l:KV}(h:l.Rising)(s:ByteArray):(l.del s).Rising:=h.filter _
theorem KV.Rising.ins: ∀{l:KV},l.Rising→ ∀(s:ByteArray) (v:List Int),(∀p∈l,p.1≠s)→(l.ins s v).Rising
 | [],_,s,v,_=>by simp[KV.ins,KV.Rising]
 |p :: r,h,s,v,hn=>by
  simp only[KV.ins]
  unfold KV.Rising at h ⊢
  rw[List.pairwise_cons] at h
  split
  ·rename_i hlt
   rw[List.pairwise_cons,List.pairwise_cons]
   refine⟨fun q hq=>?_,h.1,h.2⟩
   rcases List.mem_cons.1 hq with rfl | hq
   ·exact hlt
   ·exact List.lt_trans hlt (h.1 q hq)
  ·rename_i hlt
   rw[List.pairwise_cons]
   refine⟨fun q hq=>?_,KV.Rising.ins h.2 s v (fun q hq=>hn q (List.mem_cons_of_mem _ hq))⟩
   rcases(KV.mem_ins r s v q).1 hq with rfl | hq
   ·have hne:=hn p (List.mem_cons_self ..)
    rcases Decidable.em (nbB p.1<nbB s) with h1 | h1
    ·exact h1
    ·exact absurd (Zpy (List.le_antisymm (List.not_lt.1 hlt) (List.not_lt.1 h1))) hne
   ·exact h.1 q hq
theorem KV.Rising.put {l:KV}(h:l.Rising)(s:ByteArray)(v:List Int):(l.put s v).Rising:=
 (h.del s).ins s v (fun p hp=>((KV.mem_del l s p).1 hp).2)
theorem KV.Rising.one {l:KV}(h:l.Rising){x y:ByteArray×List Int}(hx:x∈l)(hy:y∈l)(e:x.1=y.1):x=y:=by
 induction l with
 |nil=>cases hx
 |cons p r ih=>
  unfold KV.Rising at h
  rw[List.pairwise_cons] at h
  rcases List.mem_cons.1 hx with a1 | a1
  ·rcases List.mem_cons.1 hy with a0 | a0
   ·rw[a1,a0]
   ·have:=h.1 y a0
    rw[←a1,e] at this
    exact absurd this (List.lt_irrefl _)
  ·rcases List.mem_cons.1 hy with a0 | a0
   ·have:=h.1 x a1
    rw[←a0,e] at this
    exact absurd this (List.lt_irrefl _)
   ·exact ih h.2 a1 a0
theorem KV.get_some {l:KV}(h:l.Rising){v:List Int}:l.get s=some v↔(s,v)∈l:=by
 unfold KV.get
 constructor
 ·intro e
  rw[Option.map_eq_some_iff] at e
  obtain⟨x,hx,rfl⟩:=e
  have h1:=List.find?_some hx
  have h2:=List.mem_of_find?_eq_some hx
  simp only[decide_eq_true_eq] at h1
  rw[←h1]
  exact h2
 ·intro hm
  cases hf:l.find? (fun p=>decide (p.1=s)) with
  |none=>
   have:=List.find?_eq_none.1 hf _ hm
   simp at this
  |some x=>
   have h1:=List.find?_some hf
   have h2:=List.mem_of_find?_eq_some hf
   simp only[decide_eq_true_eq] at h1
   have:=h.one h2 hm h1
   rw[this]
   rfl
theorem Zm1 {o o':Option (List Int)}(h: ∀v,o=some v↔o'=some v):o=o':=by
 cases o with
 |none=>
  cases o' with
  |none=>rfl
  |some v=>have:=(h v).2 rfl;cases this
 |some v=>exact((h v).1 rfl).symm
theorem KV.get_put {l:KV}(h:l.Rising)(s:ByteArray)(v:List Int):(l.put s v).get=setM l.get s (some v):=by
 funext t
 refine Zm1 fun x=>?_
 rw[KV.get_some (h.put s v)]
 unfold KV.put setM
 rw[KV.mem_ins,KV.mem_del]
 by_cases e:t=s
 ·subst e
  simp
  exact eq_comm
 ·simp only[if_neg e,KV.get_some h]
  constructor
  ·rintro(h1 | h1)
   ·exact absurd (Prod.mk.inj h1).1 e
   ·exact h1.1
  ·exact fun h1=>.inr ⟨h1,e⟩
theorem KV.get_del {l:KV}(h:l.Rising)(s:ByteArray):(l.del s).get=setM l.get s none:=by
 funext t
 refine Zm1 fun x=>?_
 rw[KV.get_some (h.del s)]
 unfold setM
 rw[KV.mem_del]
 by_cases e:t=s
 ·subst e
  simp
 ·simp only[if_neg e,KV.get_some h]
  exact⟨fun h1=>h1.1,fun h1=>⟨h1,e⟩⟩
def MapKV (w:World)(b n:Nat)(C:Nat→Prop)(l:KV):Prop:=MapAt w b n C l.get∧l.Rising∧ ∀x∈l,x.1.size≤maxLen
theorem MapKV.perm {l:KV}(h:MapKV w b n C l): ∃D:DataW Value,w.ownsMap Tryz.prog 9 RV b n D∧(l.map (fun p=>nbB p.1)).Perm (strKeys D)∧Maps.size D=l.length:=by
 obtain⟨⟨D,h1,_,h2⟩,h3,h4⟩:=h
 obtain⟨es,rfl,hp⟩:=h1.tidy (Maps.string_keyed Tryz.underlying9s')
 obtain⟨a7,e,hk⟩:=h1.keysOf
 injection e with e
 subst e
 have a5: ∀p∈es,∃x,p.1=.string x:=fun p hp=>by
  obtain⟨v,hv⟩:=hk p hp
  obtain⟨x,_,hx,_⟩:=Maps.keyOf_str Tryz.underlying9s' hv
  exact⟨x,hx⟩
 have a6:(l.map (fun p=>nbB p.1)).Nodup:=by
  refine List.pairwise_map.2 (h3.imp fun {p q} hpq e=>?_)
  rw[e] at hpq
  exact absurd hpq (List.lt_irrefl _)
 have hm: ∀x,x∈l.map (fun p=>nbB p.1)↔Maps.has (.map es) (.string x)=true:=fun x=>by
  rw[List.mem_map]
  constructor
  ·rintro⟨p,hp,rfl⟩
   obtain⟨v,_,k2,_⟩:=h2 p.1 (h4 p hp)
   have:l.get p.1=some p.2:=(KV.get_some h3).2 hp
   rw[this] at k2
   exact k2
  ·intro hx
   have a2:=hx
   rw[Maps.has_eq,List.any_eq_true] at a2
   obtain⟨p,hp,hs⟩:=a2
   have e1:=WideAt.sameKey_eq hs
   obtain⟨v,hv⟩:=hk p hp
   obtain⟨y,_,hy,a1⟩:=Maps.keyOf_str Tryz.underlying9s' hv
   rw[hy] at e1
   injection e1 with e1
   subst e1
   obtain⟨v',_,k2,_⟩:=h2 ⟨⟨y⟩⟩ (by simpa [ByteArray.size] using a1)
   have a4:(l.get ⟨⟨y⟩⟩).isSome=true:=by rw[←k2];exact hx
   obtain⟨bs,a3⟩:=Option.isSome_iff_exists.1 a4
   exact⟨(⟨⟨y⟩⟩,bs),(KV.get_some h3).1 a3,rfl⟩
 have a0:=perm_strKeys hp a5 a6 hm
 refine⟨_,h1,a0,?_⟩
 have:=a0.length_eq
 simp only[List.length_map,strKeys] at this
 rw[Maps.size_eq]
 exact this.symm
theorem MapKV.made (w:World):MapKV (w.alloc (.map #[] 0)) w.heap.size 0 (fun _=>False) []:=⟨MapAt.made w,List.Pairwise.nil,fun x hx=>by cases hx⟩
theorem MapAt.kept (h:MapAt w b n C M)(hu:Upd F w w')(hb: ¬F b)(hc: ∀k,C k→ ¬F k):MapAt w' b n C M:=by
 obtain⟨D,⟨es,c,a0,r⟩,h0,h2⟩:=h
 refine⟨D,⟨es,c,(hu.block _ (Za a0) hb).trans a0,r⟩,h0.kept hu hc,fun s hs=>?_⟩
 obtain⟨v,k1,k2,k3⟩:=h2 s hs
 exact⟨v,k1,k2,k3.kept hu hc⟩
theorem MapKV.kept {l:KV}(h:MapKV w b n C l)(hu:Upd F w w')(hb: ¬F b)(hc: ∀k,C k→ ¬F k):MapKV w' b n C l:=⟨h.1.kept hu hb hc,h.2⟩
theorem MapKV.kept0 {l:KV}(h:MapKV w b n C l)(hu:U0 w w'):MapKV w' b n C l:=h.kept hu id n3Z
theorem MapKV.lt {l:KV}(h:MapKV w b n C l):b<w.heap.size:=by
 obtain⟨es,c,h1⟩:=h.1.isMapBlock
 exact Za h1
theorem MapKV.put {E:Nat→Prop}{l:KV}{bs:List Int}(h:MapKV w b n C l)(hn:n<maxLen)(hs:s.size≤maxLen)(hv:BytesAt w E v bs)(hE:RowC w E):
  ∃w',(Instr.mapUpdate 165 (.map (some b)) (.string s) v).run Tryz.prog w=.ok () w'∧MapKV w' b (n+1) (fun k=>C k∨E k) (l.put s bs)∧Upd (fun k=>k=b) w w':=by
 obtain⟨w',hr,h1,h2⟩:=h.1.put hn hs hv hE
 refine⟨w',hr,⟨by rw[KV.get_put h.2.1];exact h1,h.2.1.put s bs,fun x hx=>?_⟩,h2⟩
 unfold KV.put at hx
 rw[KV.mem_ins,KV.mem_del] at hx
 rcases hx with rfl | hx
 ·exact hs
 ·exact h.2.2 x hx.1
theorem MapKV.del {l:KV}(h:MapKV w b n C l)(hs:s.size≤maxLen)(ty:TypeId):
  ∃w',(Builtin.delete_ #[165,9] ty #[.map (some b),.string s]).run Tryz.prog w=.ok (.tuple #[]) w'∧MapKV w' b n C (l.del s)∧Upd (fun k=>k=b) w w':=by
 obtain⟨w',hr,h1,h2⟩:=h.1.del hs ty
 exact⟨w',hr,⟨by rw[KV.get_del h.2.1];exact h1,h.2.1.del s,fun x hx=>h.2.2 x ((KV.mem_del l s x).1 hx).1⟩,h2⟩
theorem MapKV.len {l:KV}(h:MapKV w b n C l)(ty:TypeId):(Builtin.len_ #[165] ty #[.map (some b)]).run Tryz.prog w=.ok (.int .i64 l.length) w:=by
 obtain⟨D,h1,_,h3⟩:=h.perm
 rw[←h3]
 exact h1.len Tryz.underlying165 ty
def SetV.thought (l0:KV)(x:SetV):Bool:=((l0.get x.name).isSome == x.was) && decide ((l0.get x.name).getD []=x.old)
def KV.with (l:KV)(x:SetV):KV:=if x.is then l.put x.name x.new else l.del x.name
def KV.withs (l:KV)(r:List SetV):KV:=r.foldl KV.with l
def doE (ev:Int)(l:KV)(B:BatchV):Int:=
 if B.epoch<ev then 300 else if B.sets.all (SetV.thought l) then(if 48<(l.withs B.sets).length then 6 else 0) else 301
theorem KV.withs_snoc (l:KV)(r:List SetV)(x:SetV):l.withs (r++[x])=(l.withs r).with x:=by simp[KV.withs]
structure KV.Fine (l:KV):Prop where
 rising:l.Rising
 len:l.length≤48
 each: ∀p∈l,1≤p.1.size∧p.1.size≤24∧p.2.length≤3000∧Bytes p.2
theorem KV.Fine.nil:KV.Fine []:=⟨List.Pairwise.nil,by simp,fun p hp=>by cases hp⟩
theorem KV.mem_with {l:KV}{p:ByteArray×List Int}(h:p∈l.with x):p=(x.name,x.new)∨p∈l:=by
 unfold KV.with at h
 split at h
 ·unfold KV.put at h
  rw[KV.mem_ins,KV.mem_del] at h
  exact h.imp_right (·.1)
 ·rw[KV.mem_del] at h
  exact .inr h.1
theorem KV.rising_withs {l:KV}(h:l.Rising): ∀(r:List SetV),(l.withs r).Rising:=by
 intro r
 induction r generalizing l with
 |nil=>exact h
 |cons x r ih=>
  show((l.with x).withs r).Rising
  refine ih ?_
  unfold KV.with
  split
  ·exact h.put _ _
  ·exact h.del _
theorem KV.mem_withs {p:ByteArray×List Int}: ∀(r:List SetV) {l:KV},p∈l.withs r→(∃x∈r,p=(x.name,x.new))∨p∈l
 | [],l,h=>.inr h
 |x :: r,l,h=>by
  rcases KV.mem_withs r (l:=l.with x) h with ⟨y,hy,e⟩ | h1
  ·exact .inl ⟨y,by simp[hy],e⟩
  ·rcases KV.mem_with h1 with e | h2
   ·exact .inl ⟨x,by simp,e⟩
   ·exact .inr h2
theorem BatchV.right_sets (h:B.right=true):B.epoch≤4611686018427387904∧B.sets.length≤48∧ ∀x∈B.sets,x.right=true:=by
 simp only[BatchV.right,Bool.and_eq_true,decide_eq_true_eq,List.all_eq_true] at h
 exact⟨h.1.1.1,h.1.1.2,h.1.2⟩
theorem SetV.right_of (h:x.right=true):1≤x.name.size∧x.name.size≤24∧x.old.length≤3000∧x.new.length≤3000∧(x.was=false→x.old=[])∧(x.is=false→x.new=[]):=by
 simpa only[SetV.right,decide_eq_true_eq] using h
theorem Zdg {l:KV}(hl:l.Fine)(hr:B.right=true)(hk:B.Ok)(h:doE ev l B=0):(l.withs B.sets).Fine∧ev≤B.epoch:=by
 unfold doE at h
 split at h
 ·omega
 ·rename_i h1
  split at h
  ·split at h
   ·omega
   ·rename_i h2
    refine⟨⟨KV.rising_withs hl.rising _,by omega,fun p hp=>?_⟩,by omega⟩
    rcases KV.mem_withs _ hp with ⟨x,hx,rfl⟩ | hp
    ·have:=SetV.right_of ((BatchV.right_sets hr).2.2 x hx)
     exact⟨this.1,this.2.1,this.2.2.2.1,(hk.sets x hx).new⟩
    ·exact hl.each p hp
  ·omega
def Z7 (ev:Int)(l:KV):BatchV:=⟨ev,false,l.map fun p=>⟨p.1,false,true,[],p.2⟩⟩
def Zz (ev:Int)(l:KV):List Int:=encF (Z7 ev l)
theorem Zrk {l:List SetV}(h:l.Pairwise (fun x y=>y.name≠x.name)):Zej l=true:=by
 induction l with
 |nil=>rfl
 |cons x l ih=>
  rw[List.pairwise_cons] at h
  simp only[Zej,Bool.and_eq_true,ih h.2,true_and,Bool.not_eq_true',List.any_eq_false,decide_eq_true_eq]
  exact fun y hy=>h.1 y hy
theorem Za1 {l:KV}(hl:l.Fine)(he:ev≤4611686018427387904):(Z7 ev l).right=true:=by
 unfold BatchV.right
 rw[Bool.and_eq_true,Bool.and_eq_true,Bool.and_eq_true]
 refine⟨⟨⟨decide_eq_true he,decide_eq_true (by simpa [Z7] using hl.len)⟩,List.all_eq_true.2 fun x hx=>?_⟩,Zrk (List.pairwise_map.2 (hl.rising.imp fun {p q} hpq e=>?_))⟩
 ·simp only[Z7] at hx
  rw[List.mem_map] at hx
  obtain⟨p,hp,rfl⟩:=hx
  have:=hl.each p hp
  simp only[SetV.right,decide_eq_true_eq]
  exact⟨this.1,this.2.1,by simp,this.2.2.1,by simp,by simp⟩
 ·simp only at e
  rw[e] at hpq
  exact absurd hpq (List.lt_irrefl _)
theorem Za8 {l:KV}(hl:l.Fine)(h0:0≤ev)(he:ev≤4611686018427387904):(Z7 ev l).Ok:=by
 refine⟨by show 0≤ev∧ev≤18446744073709551615;omega,fun x hx=>?_⟩
 simp only[Z7,List.mem_map] at hx
 obtain⟨p,hp,rfl⟩:=hx
 exact⟨fun y hy=>by simp at hy,(hl.each p hp).2.2.2⟩
end
section
open Go.RowKit Go.Maps Go.Sort Go.Shelf
theorem Tryz.sorts101 (m:Nat):AnyZ.SortsIn Tryz.prog Tryz.sorted101_ren Fence.wide m:=
 ⟨fun blk off cap ss W hH hblk hsz=>callsIn_wide.2 (AnyM.slices_Sort_string Tryz.sort156 blk off cap ss W hH hblk hsz),
  fun p cap W=>callsIn_wide.2 (AnyM.slices_Sort_string_none Tryz.sort156 p cap W)⟩
theorem Tryz.maps_Keys_102 (mb:Option Nat)(W:World):CallsIn Fence.wide 5 Tryz.prog 102 #[.map mb] W fun e w'=>e=.returned (.func (.func 157) #[] #[.pointer (some ⟨W.heap.size,0,none⟩)])∧w'=W.alloc (.cells #[.map mb] 165):=
 AnyZ.keys_in Tryz.keys102 Fence.wide 5 trivial rfl mb W
theorem Tryz.slices_Sorted_keys_101_102 {H:Type}(b nn:Nat)(D0:DataW H)(R:Value→Option (DataW H×List MemPlace))(w:World)(hown:w.ownsMap Tryz.prog 9 R b nn D0)(hmax:Maps.size D0≤maxLen)(hbytes:Maps.size D0 * 16≤140737488355328):
  CallsIn Fence.wide 5 Tryz.prog 101 #[.func (.func 157) #[] #[.pointer (some ⟨w.heap.size,0,none⟩)]] (w.alloc (.cells #[.map (some b)] 165)) fun e w'=> ∃(v:Value) (ss:List (List UInt8)),e=.returned v∧ss.Perm (strKeys D0)∧
   w'.ownsRow (w.alloc (.cells #[.map (some b)] 165)).heap.size 9 1 v ss.length ((ss.mergeSort (fun x y=>decide (x≤y))).map encStr)∧(v=.slice none 0 0↔ss=[])∧Below (w.alloc (.cells #[.map (some b)] 165)).heap.size (w.alloc (.cells #[.map (some b)] 165)) w':=by
 have a2:=hown.lt
 have a1:SeqGives Fence.wide 2 Tryz.prog 157 #[.pointer (some ⟨w.heap.size,0,none⟩)] encStr (fun ss=>ss.Perm (strKeys D0)) (Maps.size D0) (w.alloc (.cells #[.map (some b)] 165)):=
  AnyZ.keys_gives (ρ:=Tryz.keys102_ren) {Tryz.keys102 with} Fence.wide _ trivial rfl (by omega) w.heap.size b nn D0 _ (by simp) (by simp) (by
   obtain⟨es,a0,hb,Ft,hs,hD⟩:=hown
   exact⟨es,a0,(Below.heap_alloc _ _ b a2).trans hb,Ft,hs,hD⟩)
 exact AnyZ.sorted_in Tryz.sorted101 Fence.wide 5 trivial trivial trivial trivial rfl (by omega) (Tryz.sorts101 _) (enters_of Tryz.func156 (by kernel_rfl) rfl) 157 #[.pointer (some ⟨w.heap.size,0,none⟩)] trivial (enters_of Tryz.func157 (by kernel_rfl) rfl) _ _ hmax hbytes _ a1
theorem Zla (mb:Option Nat)(W:World):Calls Tryz.prog 102 #[.map mb] W fun e w'=>e=.returned (.func (.func 157) #[] #[.pointer (some ⟨W.heap.size,0,none⟩)])∧w'=W.alloc (.cells #[.map mb] 165):=callsIn_wide.1 (Tryz.maps_Keys_102 mb W)
theorem Zk6 {l:KV}(h:l.Rising):(l.map fun p=>nbB p.1).mergeSort leB=l.map fun p=>nbB p.1:=by
 refine List.mergeSort_of_pairwise ?_
 refine List.pairwise_map.2 (h.imp fun {p q} hpq=>?_)
 simp only[leB,decide_eq_true_eq]
 exact List.le_of_lt hpq
theorem Zt8 (s:ByteArray):Go.Proofs.encStr (nbB s)=.string s:=by simp[Go.Proofs.encStr,nbB]
theorem Zhk {l:KV}(w:World)(h:MapKV w b n C l)(hl:l.length≤1000):
  Calls Tryz.prog 101 #[.func (.func 157) #[] #[.pointer (some ⟨w.heap.size,0,none⟩)]] (w.alloc (.cells #[.map (some b)] 165)) fun e w'=> ∃v,e=.returned v∧w'.ownsRow w.heap.size 9 1 v l.length (l.map fun p=>.string p.1)∧U0 w w':=by
 obtain⟨D,h1,h2,h3⟩:=h.perm
 refine(callsIn_wide.1 (Tryz.slices_Sorted_keys_101_102 b n D RV w h1 (by rw[h3];unfold maxLen;omega) (by rw[h3];omega))).mono ?_
 rintro e w' ⟨v,ss,rfl,hS,a0,a3,hb⟩
 have a2:ss.length=l.length:=by
  have:=(hS.trans h2.symm).length_eq
  simpa using this
 have a1:(ss.mergeSort (fun x y=>decide (x≤y))).map Go.Proofs.encStr=l.map fun p=>Value.string p.1:=by
  have e1:ss.mergeSort leB=l.map fun p=>nbB p.1:=by rw[mergeSort_of_perm (hS.trans h2.symm),Zk6 h.2.1]
  have e2:ss.mergeSort (fun x y=>decide (x≤y))=l.map fun p=>nbB p.1:=e1
  rw[e2,List.map_map]
  exact List.map_congr_left fun p _=>Zt8 p.1
 rw[a1,a2] at a0
 exact⟨v,rfl,ownsRow_base_a a0 (by simp),((Upd.refl _ w).alloc _).trans (Upd.of_below hb)⟩
end
section
open Go.RowKit Go.Shelf
def stV (ev:Int)(b:Nat):Value:=.agg #[.int .u64 ev,.map (some b)]
def DoAns (w:World)(ev:Int)(b n:Nat)(C:Nat→Prop)(l:KV)(B:BatchV)(e:Ending)(w':World):Prop:=
 U0 w w'∧((doE ev l B≠0∧e=.returned (.tuple #[stV ev b,.int .i64 (doE ev l B)]))∨
  (doE ev l B=0∧ ∃b' n' C',e=.returned (.tuple #[stV B.epoch b',.int .i64 0])∧MapKV w' b' n' C' (l.withs B.sets)∧w.heap.size≤b'∧n'≤n+B.sets.length∧ ∀k,C' k→C k∨w.heap.size≤k))
structure DoAt (w1:World) (n:Nat) (C:Nat→Prop) (l:KV) (B:BatchV) (t6 bt nn:Nat) (Ct:Nat→Prop) (k:Nat) (W:World):Prop where
 s6:W.heap[t6]?=some (.cells #[.int .u64 B.epoch,.map (some bt)] 167 (0,0))
 new:MapKV W bt nn Ct (l.withs (B.sets.take k))
 lo:w1.heap.size≤bt
 ne:bt≠t6
 lo6:w1.heap.size≤t6
 cnt:nn≤n+k
 own: ∀k,Ct k→C k∨w1.heap.size≤k
 upd:U0 w1 W
 all:(B.sets.take k).all (SetV.thought l)=true
theorem Zsu:(Tryz.prog.info? 167).map (·.size)=some 2:=by kernel_rfl
theorem Zd7 {t:Nat}(h:W.heap[t]?=some (.cells #[u,v] 167 (0,0))):(loadVar 167 ⟨t,0,none⟩).run Tryz.prog W=.ok (.agg #[u,v]) W:=
 run_loadVar_mid (P:=Tryz.prog) W t 0 167 [u,v] _ (Zh h) Tryz.underlying167 rfl Zsu
theorem put2 {t:Nat}{x y:Value}{ty:TypeId}(h:W.heap[t]?=some (.cells #[x,y] ty (0,0))):
  ((W.setCell ⟨t,0,none⟩ u).setCell ⟨t,1,none⟩ v).heap[t]?=some (.cells #[u,v] ty (0,0))∧Upd (fun k=>k=t) W ((W.setCell ⟨t,0,none⟩ u).setCell ⟨t,1,none⟩ v):=by
 refine⟨?_,(Zd W t 0 _).trans (Zd _ t 1 _)⟩
 have:=Ze (i:=1) (v:=v) (Ze (i:=0) (v:=u) h)
 simpa using this
theorem Zqe {l:KV}(w:World)(hm:MapKV w b n C l)(hn:n≤1000000)(hl:l.Fine)(hs:SetsIn w a B.sets)(hr:B.right=true):
  Calls Tryz.prog 96 #[stV ev b,batchV B a c] w (DoAns w ev b n C l B):=by
 obtain⟨w1,b4⟩: ∃w1,w1=((w.alloc (.cells #[.int .u64 ev,.map (some b)] 167)).alloc (.cells #[.int .u64 B.epoch,.bool B.large,.slice a B.sets.length c] 56)).alloc (.cells #[.int .u64 0,.map none] 167):=⟨_,rfl⟩
 have b1:w1.heap[w.heap.size]?=some (.cells #[.int .u64 ev,.map (some b)] 167 (0,0)):=by rw[b4,Zm (by simp;omega),Zm (by simp)];exact Zc rfl
 have c8:w1.heap[w.heap.size+1]?=some (.cells #[.int .u64 B.epoch,.bool B.large,.slice a B.sets.length c] 56 (0,0)):=by rw[b4,Zm (by simp)];exact Zc (by simp)
 have a3:w1.heap[w.heap.size+2]?=some (.cells #[.int .u64 0,.map none] 167 (0,0)):=by rw[b4];exact Zc (by simp)
 have i8:w.heap.size+3≤w1.heap.size:=by rw[b4];simp
 have g4:U0 w w1:=by rw[b4];exact(((Upd.refl _ w).alloc _).alloc _).alloc _
 have HM:=V hm;have HS:=V hs;have i4:=V b4;have i7:=V b1;have k0:=V c8;have d2:=V a3;have HZ:=V i8;have HU:=V g4;have b9:=V g4;have HL:=V hl;have HR:=V hr
 have g6:=V (BatchV.right_sets hr).2.1
 obtain⟨x0,x1⟩:=Zg b1
 obtain⟨y0,y1,y2⟩:=Zk c8
 clear hm hs b4 b1 c8 a3 i8 g4 hl hr
 unfold stV batchV
 go_enter Tryz.func96,Tryz.ntmps96
 go_upto_region 1 with fail
 rw[←i4.o]
 clear i4
 by_cases hp:B.epoch<ev
 ·have HE:=V (show doE ev l B=300 by unfold doE;rw[if_pos hp])
  obtain⟨z0,z1⟩:=Zg d2.o
  have f0:w1.frozen? ⟨w.heap.size+2,0,none⟩=false:=Zb d2.o
  have f1:w1.frozen? ⟨w.heap.size+2,1,none⟩=false:=Zb d2.o
  go_wp2
  obtain⟨p1,p2⟩:=put2 (u:=.int .u64 ev) (v:=.map (some b)) d2.o
  refine bodyPost_ret (Zl Tryz.results96 rfl (Zd7 p1)) rfl ?_
  exact⟨HU.o.step p2 (fun k hk e=>by omega),.inl ⟨by rw[HE.o];decide,by rw[HE.o];rfl⟩⟩
 ·go_upto_region 3 with fail
  have hA:w1.drew.cell? ⟨w.heap.size+1,0,none⟩=some (.int .u64 B.epoch)∧w1.drew.cell? ⟨w.heap.size,1,none⟩=some (.map (some b)):=⟨y0,x1⟩
  have b3:=V ((HM.o.kept0 HU.o).kept0 ((Upd.refl (fun _=>False) w1).drew))
  have HU:=V ((Upd.refl (fun _=>False) w1).drew)
  have HP:=V hp
  clear x0 x1 y0 y1 y2 hp
  go_cut [6] from 17 to 23 (fun v wx=> ∃t6 bt nn Ct,v=.pointer (some ⟨t6,0,none⟩)∧DoAt w1 n C l B t6 bt nn Ct 0 wx)
  case first=>
   refine Zj 7 (fun W=>W.cell? ⟨w.heap.size+1,0,none⟩=some (.int .u64 B.epoch)∧W.cell? ⟨w.heap.size,1,none⟩=some (.map (some b))) [false,false,false,false,false,false,false,false] rfl (by kernel_rfl) ?_
   generalize w1.drew=wd at hA HU b3 ⊢
   refine tpZ 0 (.pointer (some ⟨w.heap.size+1,0,none⟩)) hA ?_
   simp only[zz]
   refine tqZ 1 (.int .u64 B.epoch) [] hA (fun w5 q1=>?_) ?_
   ·obtain⟨c0,c1⟩:=q1
    go_simp
   simp only[zz]
   refine tpZ 2 (.pointer (some ⟨w.heap.size,1,none⟩)) hA ?_
   simp only[zz]
   refine tqZ 3 (.map (some b)) [] hA (fun w5 q1=>?_) ?_
   ·obtain⟨c0,c1⟩:=q1
    go_simp
   simp only[zz]
   refine Ya (i:=4) (j:=6) rfl rfl (by kernel_rfl) rfl rfl (fun K hK=>?_) (fun K hK=>?_)
   ·have a2:=V hK
    clear hK
    go_step
    refine(Zfs wd b3.o.1).mono ?_
    rintro e a1 ⟨rfl,g1,g2,g3⟩
    have HT:=V (show MapKV a1 wd.heap.size n C l from⟨g1,b3.o.2⟩)
    have a9:=V (show w1.heap.size≤wd.heap.size from HU.o.size)
    have hA:=(⟨Zo g3 id hA.1,Zo g3 id hA.2⟩:_∧_)
    have HU:=V (HU.o.trans g3)
    clear g1 g2
    refine a2.o _ _ hA ?_
    clear a2
    simp only[zz]
    generalize wd.heap.size=bt at HT a9 ⊢
    clear g3
    refine tpZ 5 (.agg #[.int .u64 B.epoch,.map (some bt)]) hA ?_
    simp only[zz]
    refine doZ 6 (fun K a2=>?_)
    go_step
    have ua:U0 a1 (a1.alloc (.cells #[.int .u64 0,.map none] 167)):=(Upd.refl _ _).alloc _
    have b6:=V (show w1.heap.size≤a1.heap.size from HU.o.size)
    have HX:=V (Zc (w:=a1) (o:=.cells #[.int .u64 0,.map none] 167) (k:=a1.heap.size) rfl)
    have hA:=(⟨Zo ua id hA.1,Zo ua id hA.2⟩:_∧_)
    have a5:=V (show bt≠a1.heap.size from Nat.ne_of_lt HT.o.lt)
    have HT:=V (HT.o.kept0 ua)
    have HU:=V (HU.o.trans ua)
    clear ua
    refine a2.o _ _ hA ?_
    clear a2
    simp only[zz]
    generalize a1.alloc (.cells #[.int .u64 0,.map none] 167)=a6 at HX hA HU HT ⊢
    generalize a1.heap.size=t6 at HX b6 a5 ⊢
    refine tlZ 7 ?_
    simp only[List.drop]
    have f0:a6.frozen? ⟨t6,0,none⟩=false:=Zb HX.o
    have f1:a6.frozen? ⟨t6,1,none⟩=false:=Zb HX.o
    obtain⟨d0,d1⟩:=Zg HX.o
    go_wp2
    go_meet
    case rel=>
     obtain⟨w9,b7⟩: ∃w9,w9=(a6.setCell ⟨t6,0,none⟩ (.int .u64 B.epoch)).setCell ⟨t6,1,none⟩ (.map (some bt)):=⟨_,rfl⟩
     rw[←b7]
     have e1:Upd (fun k=>k=t6) a6 w9:=by rw[b7];exact(Zd a6 t6 0 _).trans (Zd _ t6 1 _)
     have f9:w9.heap[t6]?=some (.cells #[.int .u64 B.epoch,.map (some bt)] 167 (0,0)):=by
      rw[b7]
      have:=Ze (i:=1) (v:=.map (some bt)) (Ze (i:=0) (v:=.int .u64 B.epoch) HX.o)
      simpa using this
     have d8:=HT.o.1.rowC
     have hC: ∀k,C k→ ¬k=t6:=fun k hk e=>by
      obtain⟨cs,h1⟩:=d8 k hk
      rw[e,HX.o] at h1
      injection h1 with h1
      injection h1 with _ h1
      exact absurd h1 (by decide)
     have q6:=b6.o
     exact⟨t6,bt,n,C,rfl,⟨f9,HT.o.kept e1 (a5.o) hC,a9.o,a5.o,q6,by omega,fun k hk=>.inl hk,HU.o.step e1 (fun k hk e=>by omega),rfl⟩⟩
   ·have a2:=V hK
    clear hK
    go_step
    have ua:U0 wd (wd.alloc (.cells #[.int .u64 0,.map none] 167)):=(Upd.refl _ _).alloc _
    have b6:=V (show w1.heap.size≤wd.heap.size from HU.o.size)
    have HX:=V (Zc (w:=wd) (o:=.cells #[.int .u64 0,.map none] 167) (k:=wd.heap.size) rfl)
    have hA:=(⟨Zo ua id hA.1,Zo ua id hA.2⟩:_∧_)
    have HU:=V (HU.o.trans ua)
    have b3:=V (b3.o.kept0 ua)
    clear ua
    refine a2.o _ _ hA ?_
    clear a2
    simp only[zz]
    generalize wd.alloc (.cells #[.int .u64 0,.map none] 167)=a1 at HX hA HU b3 ⊢
    generalize wd.heap.size=t6 at HX b6 ⊢
    refine doZ 4 (fun K a2=>?_)
    go_step
    refine(Zfs a1 b3.o.1).mono ?_
    rintro e a6 ⟨rfl,g1,g2,g3⟩
    have HT:=V (show MapKV a6 a1.heap.size n C l from⟨g1,b3.o.2⟩)
    have a9:=V (show w1.heap.size≤a1.heap.size from HU.o.size)
    have hA:=(⟨Zo g3 id hA.1,Zo g3 id hA.2⟩:_∧_)
    have HU:=V (HU.o.trans g3)
    clear g1 g2
    have a5:=V (show a1.heap.size≠t6 from fun e=>by have:=Za HX.o;omega)
    have HX:=V (kb g3 HX.o)
    refine a2.o _ _ hA ?_
    clear a2
    simp only[zz]
    generalize a1.heap.size=bt at HT a9 a5 ⊢
    clear g3
    refine tpZ 5 (.agg #[.int .u64 B.epoch,.map (some bt)]) hA ?_
    simp only[zz]
    refine tlZ 7 ?_
    simp only[List.drop]
    have f0:a6.frozen? ⟨t6,0,none⟩=false:=Zb HX.o
    have f1:a6.frozen? ⟨t6,1,none⟩=false:=Zb HX.o
    obtain⟨d0,d1⟩:=Zg HX.o
    go_wp2
    go_meet
    case rel=>
     obtain⟨w9,b7⟩: ∃w9,w9=(a6.setCell ⟨t6,0,none⟩ (.int .u64 B.epoch)).setCell ⟨t6,1,none⟩ (.map (some bt)):=⟨_,rfl⟩
     rw[←b7]
     have e1:Upd (fun k=>k=t6) a6 w9:=by rw[b7];exact(Zd a6 t6 0 _).trans (Zd _ t6 1 _)
     have f9:w9.heap[t6]?=some (.cells #[.int .u64 B.epoch,.map (some bt)] 167 (0,0)):=by
      rw[b7]
      have:=Ze (i:=1) (v:=.map (some bt)) (Ze (i:=0) (v:=.int .u64 B.epoch) HX.o)
      simpa using this
     have d8:=HT.o.1.rowC
     have hC: ∀k,C k→ ¬k=t6:=fun k hk e=>by
      obtain⟨cs,h1⟩:=d8 k hk
      rw[e,HX.o] at h1
      injection h1 with h1
      injection h1 with _ h1
      exact absurd h1 (by decide)
     have q6:=b6.o
     exact⟨t6,bt,n,C,rfl,⟨f9,HT.o.kept e1 (a5.o) hC,a9.o,a5.o,q6,by omega,fun k hk=>.inl hk,HU.o.step e1 (fun k hk e=>by omega),rfl⟩⟩
  case rest=>
   obtain⟨t6,bt,j8,j4,rfl,hd⟩:=hcut
   have HD:=V hd
   have b6:=V hd.lo6;have a5:=V hd.ne;have a9:=V hd.lo
   have c8:=kb hd.upd k0.o
   obtain⟨y0,y1,y2⟩:=Zk c8
   clear hd c8
   go_upto_block 0 with fail
   clear y0 y1 y2 b3 HU hA
   go_upto_region 5 with fail
   go_loopg [26] B.sets.length (fun gk i wr=> ∃(k nn:Nat) (Ct:Nat→Prop),k≤B.sets.length∧gk=B.sets.length - k∧i=.int .i64 k∧DoAt w1 n C l B t6 bt nn Ct k wr)
   case atStart=>exact⟨0,j8,j4,Nat.zero_le _,rfl,rfl,HD.o⟩
   case round=>
    obtain⟨k,nn,Ct,hk,rfl,rfl,hd⟩:=hrel
    have HD:=V hd
    clear hd
    by_cases e7:k<B.sets.length
    ·have j5:(k:Int)<B.sets.length:=by omega
     obtain⟨x,hx⟩: ∃x,B.sets[k]?=some x:=⟨_,List.getElem?_eq_getElem e7⟩
     obtain⟨g1,g2,g3,b0,o,ea,oa,oc,na,nc,h0,h1,h2,h3,h4,h5,h6,h7,h8⟩:=HS.o k x hx
     subst ea
     have e4:=b9.o.trans HD.o.upd
     have kc: ∀{o:Nat} {v:Value},w.cell? ⟨b0,o,none⟩=some v→wr.cell? ⟨b0,o,none⟩=some v:=fun h=>Zo e4 id h
     have q0:=kc h0;have q1:=kc h1;have q2:=kc h2;have q3:=kc h3;have q4:=kc h4
     have i1:B.sets[k]=x:=by rw[List.getElem?_eq_getElem e7] at hx;injection hx
     have b5:B.sets.take (k+1)=B.sets.take k++[x]:=by rw[List.take_succ_eq_append_getElem e7,i1]
     have a8:=V b5
     have f5:=V (List.mem_of_getElem? hx)
     have e8:=V (SetV.right_of ((BatchV.right_sets HR.o).2.2 x (List.mem_of_getElem? hx)))
     have j2:=V h7
     have H5:=V (h5.kept e4);have H6:=V (h6.kept e4)
     clear h0 h1 h2 h3 h4 h5 h6 h7 h8 kc hx i1 b5 e4
     go_upto_region 7 with fail
     obtain⟨b8,e2⟩: ∃b8,b8=wr.heap.size:=⟨_,rfl⟩
     obtain⟨w3,e6⟩: ∃w3,w3=wr.alloc (.cells #[.string x.name,.bool x.was,.bool x.is,.slice oa x.old.length oc,.slice na x.new.length nc] 73):=⟨_,rfl⟩
     rw[←e6,←e2]
     have e5:U0 wr w3:=by rw[e6];exact(Upd.refl _ wr).alloc _
     have g0:w3.heap[b8]?=some (.cells #[.string x.name,.bool x.was,.bool x.is,.slice oa x.old.length oc,.slice na x.new.length nc] 73 (0,0)):=by rw[e6];exact Zc e2
     have d5:U0 w1 w3:=HD.o.upd.trans e5
     have k3:=V (show w1.heap.size≤b8 by rw[e2];exact HD.o.upd.size)
     have b1:=kb d5 i7.o
     have a3:=kb d5 d2.o
     have i3:=kb e5 HD.o.s6
     have i2:=(HM.o.kept0 b9.o).kept0 d5
     obtain⟨v,g9,hv⟩:=i2.1.look (s:=x.name) (by have:=e8.o;unfold maxLen;omega)
     obtain⟨va,vc,rfl,_⟩:=hv.slice
     obtain⟨f,hf⟩: ∃f,f=(l.get x.name).isSome:=⟨_,rfl⟩
     obtain⟨bs,c6⟩: ∃bs,bs=(l.get x.name).getD []:=⟨_,rfl⟩
     have e0:Bytes bs:=by
      cases hg:l.get x.name with
      |none=>rw[c6,hg];exact fun y hy=>by simp at hy
      |some z=>rw[c6,hg];exact(HL.o.each _ ((KV.get_some HL.o.rising).1 hg)).2.2.2
     rw[←hf,←c6] at g9
     rw[←c6] at hv
     have HV:=V hv.bytesIn
     obtain⟨x0,x1⟩:=Zg b1
     obtain⟨c0,c1,c2,c3,c4⟩:=Zu g0
     obtain⟨z0,z1⟩:=Zg a3
     have f0:w3.frozen? ⟨w.heap.size+2,0,none⟩=false:=Zb a3
     have f1:w3.frozen? ⟨w.heap.size+2,1,none⟩=false:=Zb a3
     have a4:=V a3;have a7:=V i3;have j7:=V g0
     have e3:=V d5;have f4:=V e5;have f8:=V e0;have HF:=V hf;have j0:=V c6
     clear e6 e5 g0 q0 q1 q2 q3 q4 e2 d5 b1 a3 i3 i2 hv e0 hf c6
     have i0:RowKit.Hid (SetV.thought l x=false→doE ev l B=301):=V (fun h=>by
      unfold doE
      rw[if_neg (by have:=HP.o;omega),if_neg (fun ha=>by have:=List.all_eq_true.1 ha x f5.o;rw[h] at this;cases this)])
     by_cases c7:f=x.was
     rotate_left
     ·have j6:(f !=x.was)=true:=by simpa using c7
      have h9:(f == x.was)=false:=by simpa using c7
      have HE:=V (i0.o (by unfold SetV.thought;rw[←HF.o,beq_eq_false_iff_ne.2 c7];rfl))
      clear c7
      go_wp2
      obtain⟨p1,p2⟩:=put2 (u:=.int .u64 ev) (v:=.map (some b)) a4.o
      refine bodyPost_ret (Zl Tryz.results96 rfl (Zd7 p1)) rfl ?_
      exact⟨(b9.o.trans e3.o).step p2 (fun k hk e=>by omega),.inl ⟨by rw[HE.o];decide,by rw[HE.o];rfl⟩⟩
     ·have k1:=V c7
      subst c7
      go_wp2_with (go_at_call 24;fail)
      refine(Zds w3 HV.o (H5.o.kept f4.o) f8.o j2.o).mono ?_
      rintro e w4 ⟨rfl,rfl⟩
      by_cases c9:bs=x.old
      rotate_left
      ·have f7:(bs == x.old)=false:=by simpa using c9
       have HE:=V (i0.o (by unfold SetV.thought;rw[←j0.o,decide_eq_false c9,Bool.and_false]))
       clear c9
       go_wp2
       obtain⟨p1,p2⟩:=put2 (u:=.int .u64 ev) (v:=.map (some b)) a4.o
       refine bodyPost_ret (Zl Tryz.results96 rfl (Zd7 p1)) rfl ?_
       exact⟨(b9.o.trans e3.o).step p2 (fun k hk e=>by omega),.inl ⟨by rw[HE.o];decide,by rw[HE.o];rfl⟩⟩
      ·have f7:(bs == x.old)=true:=by simpa using c9
       have i9:=V (show(B.sets.take (k+1)).all (SetV.thought l)=true by
        rw[a8.o,List.all_append,HD.o.all,Bool.true_and]
        simp only[List.all_cons,List.all_nil,Bool.and_true]
        unfold SetV.thought
        rw[←j0.o,←HF.o,decide_eq_true c9]
        simp)
       clear c9
       have a0:=V (HD.o.new.kept0 f4.o)
       have g7:=V (show nn<maxLen by have:=HD.o.cnt;have:=g6.o;unfold maxLen;omega)
       have i6:=V (show x.name.size≤maxLen by have:=e8.o;unfold maxLen;omega)
       cases his:x.is with
       |true=>
        rw[his] at c2
        go_upto_region 11 with fail
        obtain⟨d0,d1⟩:=Zg a7.o
        have hA:w3.drew.cell? ⟨t6,1,none⟩=some (.map (some bt))∧w3.drew.cell? ⟨b8,0,none⟩=some (.string x.name)∧w3.drew.cell? ⟨b8,4,none⟩=some (.slice na x.new.length nc):=⟨d1,c0,c4⟩
        have g8:=V ((H6.o.kept f4.o).kept ((Upd.refl (fun _=>False) w3).drew))
        have a0:=V (a0.o.kept0 ((Upd.refl (fun _=>False) w3).drew))
        have HU:=V (e3.o.drew)
        clear g9 x0 x1 c0 c1 c2 c3 c4 z0 z1 f0 f1 d0 d1
        refine Zj 7 (fun W=>W.cell? ⟨t6,1,none⟩=some (.map (some bt))∧W.cell? ⟨b8,0,none⟩=some (.string x.name)∧W.cell? ⟨b8,4,none⟩=some (.slice na x.new.length nc)) [false,false,false,false,false,false,false,false] rfl (by kernel_rfl) ?_
        have d4:RowKit.Hid (w3.drew.heap[t6]?=some (.cells #[.int .u64 B.epoch,.map (some bt)] 167 (0,0))):=a7
        generalize w3.drew=wd at hA a0 g8 HU d4 ⊢
        have j9:=V HU.o.size
        refine tpZ 0 (.pointer (some ⟨t6,1,none⟩)) hA ?_
        simp only[zz]
        refine tqZ 1 (.map (some bt)) [] hA (fun w5 q1=>?_) ?_
        ·obtain⟨c0,c1,c2⟩:=q1
         go_simp
        simp only[zz]
        refine tpZ 2 (.pointer (some ⟨b8,0,none⟩)) hA ?_
        simp only[zz]
        refine tqZ 3 (.string x.name) [] hA (fun w5 q1=>?_) ?_
        ·obtain⟨c0,c1,c2⟩:=q1
         go_simp
        simp only[zz]
        refine tpZ 4 (.pointer (some ⟨b8,4,none⟩)) hA ?_
        simp only[zz]
        refine tqZ 5 (.slice na x.new.length nc) [] hA (fun w5 q1=>?_) ?_
        ·obtain⟨c0,c1,c2⟩:=q1
         go_simp
        simp only[zz]
        refine doZ 6 (fun K a2=>?_)
        go_step
        refine(Y4 wd (by have:=e8.o;omega) g8.o).mono ?_
        rintro e a1 ⟨u,rfl,g1,_,g3⟩
        have hA:=(⟨Zo g3 id hA.1,Zo g3 id hA.2.1,Zo g3 id hA.2.2⟩:_∧_∧_)
        obtain⟨ua,um,uc,rfl⟩:=g1.bytesAt.1.slice'
        have f3:=V g1
        have HU:=V (HU.o.trans g3)
        have a0:=V (a0.o.kept0 g3)
        have d4:=V (kb g3 d4.o)
        refine a2.o _ _ hA ?_
        clear a2 g1 g3
        simp only[zz]
        refine tlZ 7 ?_
        simp only[List.drop]
        obtain⟨w6,k5,d6,d9⟩:=a0.o.put g7.o i6.o f3.o.bytesAt.1 f3.o.bytesAt.2.1
        have f2:=V d6;have d3:=V d9;have f6:=V f3.o.bytesAt.2.2
        clear d6 d9 hA
        have g5:IntKind.i64.wrap ((k:Int)+1)=(k:Int)+1:=by rw[IntKind.wrap_i64];have:=g6.o;omega
        go_wp2
        go_roundg (B.sets.length - (k+1))
        case measure=>omega
        case rel=>
         refine⟨k+1,nn+1,fun j=>Ct j∨(Value.slice ua um uc).ownBlock=some j,by omega,rfl,congrArg _ (by omega),⟨(d3.o.block _ (Za d4.o) (fun e=>a5.o e.symm)).trans d4.o,?_,a9.o,a5.o,b6.o,by have:=HD.o.cnt;omega,?_,HU.o.step d3.o (fun j hj e=>by have:=a9.o;omega),i9.o⟩⟩
         ·have:=f2.o
          rw[a8.o,KV.withs_snoc]
          unfold KV.with
          rw[if_pos his]
          exact this
         ·rintro j (hj | hj)
          ·exact HD.o.own j hj
          ·have h1:=f6.o j hj
           have h2:=j9.o
           exact .inr (by omega)
       |false=>
        rw[his] at c2
        go_upto_region 12 with fail
        obtain⟨d0,d1⟩:=Zg a7.o
        obtain⟨w6,k4,d6,d9⟩:=a0.o.del i6.o 0
        have f2:=V d6;have d3:=V d9
        clear d6 d9
        have g5:IntKind.i64.wrap ((k:Int)+1)=(k:Int)+1:=by rw[IntKind.wrap_i64];have:=g6.o;omega
        go_wp2
        go_roundg (B.sets.length - (k+1))
        case measure=>omega
        case rel=>
         refine⟨k+1,nn,Ct,by omega,rfl,congrArg _ (by omega),⟨(d3.o.block _ (Za a7.o) (fun e=>a5.o e.symm)).trans a7.o,?_,a9.o,a5.o,b6.o,by have:=HD.o.cnt;omega,HD.o.own,e3.o.step d3.o (fun j hj e=>by have:=a9.o;omega),i9.o⟩⟩
         have:=f2.o
         rw[a8.o,KV.withs_snoc]
         unfold KV.with
         rw[if_neg (by rw[his];decide)]
         exact this
    ·obtain rfl:k=B.sets.length:=by omega
     have b2:=HD.o.new
     rw[List.take_length] at b2
     have c5:=HD.o.all
     rw[List.take_length] at c5
     have e9:=b2.len 3
     have a3:=kb HD.o.upd d2.o
     have b1:=kb HD.o.upd i7.o
     obtain⟨x0,x1⟩:=Zg b1
     obtain⟨d0,d1⟩:=Zg HD.o.s6
     obtain⟨z0,z1⟩:=Zg a3
     have f0:wr.frozen? ⟨w.heap.size+2,0,none⟩=false:=Zb a3
     have f1:wr.frozen? ⟨w.heap.size+2,1,none⟩=false:=Zb a3
     obtain⟨m,hm⟩: ∃m,m=(l.withs B.sets).length:=⟨_,rfl⟩
     rw[←hm] at e9
     have i5:=V hm;have a0:=V b2;have d7:=V c5;have a4:=V a3
     clear b2 c5 a3 b1 hm
     by_cases j3:(48:Int)<m
     ·have HE:=V (show doE ev l B=6 by
       unfold doE
       rw[if_neg (by have:=HP.o;omega),if_pos d7.o,if_pos (by have:=i5.o;omega)])
      go_wp2
      obtain⟨p1,p2⟩:=put2 (u:=.int .u64 ev) (v:=.map (some b)) a4.o
      refine bodyPost_ret (Zl Tryz.results96 rfl (Zd7 p1)) rfl ?_
      exact⟨(b9.o.trans HD.o.upd).step p2 (fun k hk e=>by omega),.inl ⟨by rw[HE.o];decide,by rw[HE.o];rfl⟩⟩
     ·have HE:=V (show doE ev l B=0 by
       unfold doE
       rw[if_neg (by have:=HP.o;omega),if_pos d7.o,if_neg (by have:=i5.o;omega)])
      go_wp2
      obtain⟨p1,p2⟩:=put2 (u:=.int .u64 B.epoch) (v:=.map (some bt)) a4.o
      refine bodyPost_ret (Zl Tryz.results96 rfl (Zd7 p1)) rfl ?_
      have b4:=b9.o.size
      have k2:=HD.o.lo
      have j1:bt≠w.heap.size+2:=by have:=HZ.o;omega
      have d8:=a0.o.1.rowC
      refine⟨(b9.o.trans HD.o.upd).step p2 (fun k hk e=>by omega),.inr ⟨HE.o,bt,nn,Ct,rfl,a0.o.kept p2 j1 (fun k hk e=>?_),by omega,HD.o.cnt,fun k hk=>(HD.o.own k hk).imp_right (fun h=>by omega)⟩⟩
      obtain⟨cs,h1⟩:=d8 k hk
      rw[e,a4.o] at h1
      injection h1 with h1
      injection h1 with _ h1
      exact absurd h1 (by decide)
theorem MapAt.look1 (h:MapAt w b n C M)(hs:s.size≤maxLen):
  ∃v,(Instr.lookup 165 (.map (some b)) (.string s) false).run Tryz.prog w=.ok v w∧BytesAt w C v ((M s).getD []):=by
 obtain⟨D,h1,_,h2⟩:=h
 obtain⟨v,k1,k2,k3⟩:=h2 s hs
 obtain⟨v',ps,hr,hv⟩:=h1.lookup (Maps.string_keyed Tryz.underlying9s') Tryz.underlying165 (Zou w) (zd:=.held (.slice none 0 0)) (zp:=[]) rfl (key:=.string s) (WideMaps.keyOf_string_mk Tryz.underlying9s' hs)
 rw[k1,RV] at hv
 have e:v'=v:=by
  injection hv with hv
  injection hv with hv
  injection hv
 subst e
 exact⟨_,hr,k3⟩
structure WlAt (w3:World) (sb:Nat) (ev:Int) (C:Nat→Prop) (l:KV) (k:Nat) (W:World):Prop where
 out: ∃(a:Option Addr) (c:Nat),W.heap[sb]?=some (.cells #[.int .u64 ev,.bool false,.slice a k c] 56 (0,0))∧SetRow W w3.heap.size C (.slice a k c) (Z7 ev (l.take k)).sets
 upd:Upd (fun j=>j=sb) w3 W
theorem Zg2 {B:Nat}{e:TypeId}{sa:Option Addr}{xs:List Value}{k:Nat}(h:w.ownsRow B e 1 (.slice sa n c) n xs)(hk:xs[k]?=some u): ∃g,sa=some ⟨g,0,none⟩∧w.cell? ⟨g,k,none⟩=some u:=by
 obtain⟨h0,h1⟩:=h
 have a1:=(List.getElem?_eq_some_iff.1 hk).1
 rcases h1 with ⟨_,e⟩ | ⟨g,a2,a0,e,_,hg,h2,h3,h4,h5⟩
 ·omega
 ·injection e with e1 _ _
  refine⟨g,e1,?_⟩
  rw[Zr hg,←Array.getElem?_toList]
  rw[←h5,List.getElem?_take_of_lt (by omega)] at hk
  exact hk
theorem Zgd (ev:Int)(l:KV)(k:Nat){p:ByteArray×List Int}(hk:l[k]?=some p):(Z7 ev (l.take (k+1))).sets=(Z7 ev (l.take k)).sets++[⟨p.1,false,true,[],p.2⟩]:=by
 obtain⟨h1,h2⟩:=List.getElem?_eq_some_iff.1 hk
 simp only[Z7]
 rw[List.take_succ_eq_append_getElem h1,List.map_append,h2]
 rfl
theorem Zns {l:KV}(w:World)(hm:MapKV w b n C l)(hl:l.Fine)(h0:0≤ev)(he:ev≤4611686018427387904):
  Calls Tryz.prog 98 #[stV ev b] w fun e w'=> ∃u,e=.returned u∧OwnB w' w.heap.size u (Zz ev l)∧U0 w w':=by
 obtain⟨w1,b3⟩: ∃w1,w1=(w.alloc (.cells #[.int .u64 ev,.map (some b)] 167)).alloc (.cells #[.int .u64 ev,.bool false,.slice none 0 0] 56):=⟨_,rfl⟩
 have a4:w1.heap[w.heap.size]?=some (.cells #[.int .u64 ev,.map (some b)] 167 (0,0)):=by rw[b3,Zm (by simp)];exact Zc rfl
 have b4:w1.heap[w.heap.size+1]?=some (.cells #[.int .u64 ev,.bool false,.slice none 0 0] 56 (0,0)):=by rw[b3];exact Zc (by simp)
 have f3:U0 w w1:=by rw[b3];exact((Upd.refl _ w).alloc _).alloc _
 have c6:w1.heap.size=w.heap.size+2:=by rw[b3];simp
 have HM:=V hm;have HL:=V hl;have e9:=V b3;have h4:=V a4;have e6:=V b4;have d9:=V f3;have h2:=V c6
 have HE:=V (show 0≤ev∧ev≤4611686018427387904 from⟨h0,he⟩)
 obtain⟨x0,x1⟩:=Zg a4
 clear hm hl b3 a4 b4 f3 c6 h0 he
 unfold stV
 go_enter Tryz.func98,Tryz.ntmps98
 go_upto_region 2 with fail
 rw[←e9.o]
 have b0:=HM.o.kept0 d9.o
 go_wp2_with (go_at_call 102;fail)
 refine(Zla (some b) w1).mono ?_
 rintro e w2 ⟨rfl,rfl⟩
 simp only[]
 go_wp2_with (go_at_call 101;fail)
 refine(Zhk w1 b0 (by have:=HL.o.len;omega)).mono ?_
 rintro e w3 ⟨v,rfl,a8,b9⟩
 obtain⟨sa,sc,rfl⟩:=rowV a8
 simp only[]
 obtain⟨sb,c9⟩: ∃sb,sb=w.heap.size+1:=⟨_,rfl⟩
 rw[←c9]
 have b4:=kb b9 e6.o
 rw[←c9] at b4
 have hd:WlAt w3 sb ev C l 0 w3:=⟨⟨none,0,b4,SetRow.nil _ _ _⟩,Upd.refl _ _⟩
 have a4:=kb b9 h4.o
 have HD:=V hd;have c1:=V a8;have e4:=V b9;have c5:=V a4;have a7:=V c9
 have g8:=V (b0.kept0 b9)
 have g9:=V (show b<w.heap.size from HM.o.lt)
 have f8:=V (show∀k,C k→k<w.heap.size from HM.o.1.rowC.lt)
 clear x0 x1 b0 a8 b9 hd a4 b4 c9 e9
 go_upto_block 0 with fail
 go_upto_region 3 with fail
 go_loopg [14] l.length (fun gk i wr=> ∃k:Nat,k≤l.length∧gk=l.length - k∧i=.int .i64 k∧WlAt w3 sb ev C l k wr)
 case atStart=>exact⟨0,Nat.zero_le _,rfl,rfl,HD.o⟩
 case round=>
  obtain⟨k,hk,rfl,rfl,hd⟩:=hrel
  have HD:=V hd
  clear hd
  by_cases g0:k<l.length
  ·have g4:(k:Int)<l.length:=by omega
   obtain⟨p,hp⟩: ∃p,l[k]?=some p:=⟨_,List.getElem?_eq_getElem g0⟩
   have d8:=List.mem_of_getElem? hp
   have HP:=V hp
   have f0:=V (HL.o.each p d8)
   have c2:l.get p.1=some p.2:=(KV.get_some HL.o.rising).2 d8
   have a3:=HD.o.upd
   have a5:=Zy c1.o a3 (fun j hj e=>by have:=(World.ownsRow.lt c1.o j hj).1;have:=a7.o;have:=h2.o;omega)
   obtain⟨g,rfl,f7⟩:=Zg2 a5 (k:=k) (u:=.string p.1) (by rw[List.getElem?_map,hp];rfl)
   have b0:=g8.o.kept a3 (fun e=>by have:=g9.o;have:=a7.o;omega) (fun j hj e=>by have:=f8.o j hj;have:=a7.o;omega)
   obtain⟨h5,h6,hv⟩:=b0.1.look1 (s:=p.1) (by have:=f0.o;unfold maxLen;omega)
   rw[c2] at hv
   simp only[Option.getD_some] at hv
   obtain⟨va,vc,rfl,_⟩:=hv.slice
   obtain⟨la,lc,b2,b6⟩:=HD.o.out
   have a4:=(a3.block _ (Za c5.o) (fun e=>by have:=a7.o;omega)).trans c5.o
   obtain⟨x0,x1⟩:=Zg a4
   obtain⟨y0,y1,y2⟩:=Zk b2
   have f9:=V b2;have e5:=V b6;have HV:=V hv;have h1:=V b0.1.rowC
   clear d8 c2 a3 a5 b0 hv b2 b6 a4 hp
   go_upto_region 5 with fail
   iterate 28 go_step
   obtain⟨L,e7,d3,d4,f2⟩:=e5.o
   have f5:(Z7 ev (l.take k)).sets.length=k:=by simp[Z7];omega
   rw[f5] at d3
   have d1:=d3.lt
   have h3:sb<wr.heap.size:=Za f9.o
   obtain⟨x,hx⟩: ∃x:SetV,x=⟨p.1,false,true,[],p.2⟩:=⟨_,rfl⟩
   have d5:elC (x,.slice none 0 0,.slice va p.2.length vc)=[.string p.1,.bool false,.bool true,.slice none 0 0,.slice va p.2.length vc]:=by rw[hx];rfl
   obtain⟨i0,f1,f4,c6,e8⟩:=info_parts Tryz.info73p
   refine wpList_append_lies _ rfl (.tmp 19) (.tmp 26) 54 rfl w3.heap.size 73 i0 _ 5 72 Tryz.underlying54 f1 f4 c6 e8 rfl (by omega) (.slice la k lc) _ _ rfl (d3.alloc _) ⟨wr.heap.size,0,none⟩ 1 1 (elC (x,.slice none 0 0,.slice va p.2.length vc)) rfl
    rfl (World.news_of_block (cs:=(elC (x,.slice none 0 0,.slice va p.2.length vc)).toArray) (t:=73) (fr:=(0,0)) (by rw[d5];exact heap_alloc_new _ _)) (by rw[d5];simp[Value.oneCell']) (by omega) (by unfold maxLen;have:=HL.o.len;omega) (by have:=HL.o.len;omega) (by have:=HD.o.upd.size;simp;omega) (wr.heap.size+1) (by simp) ?_
   intro g' d2 b5 c3 a6 f6 h7
   have a1:Upd (fun k'=>(Value.slice la k lc).ownBlock=some k') wr b5:=((Upd.refl _ wr).alloc _).trans (Upd.of_grown a6 (fun k hk=>hk))
   have c8:sb<w3.heap.size:=Za (show w3.heap[sb]?=some _ from by
    have:=e6.o
    exact(by rw[a7.o];exact kb e4.o this))
   have a0:=(a1.block _ h3 (fun e=>by have:=(d1 sb e).1;omega)).trans f9.o
   have c0:w3.heap.size≤g':=by
    have:=HD.o.upd.size
    rcases f6 with e | e
    ·exact(d1 g' e).1
    ·omega
   have y2:=(Zk a0).2.2
   have g2:b5.frozen? ⟨sb,2,none⟩=false:=Zb a0
   have d0:=e5.o.apart h1.o
   have a2:SetRow b5 w3.heap.size C (.slice (some ⟨g',0,none⟩) (k+1) d2) ((Z7 ev (l.take k)).sets++[x]):=by
    refine⟨L++[(x,.slice none 0 0,.slice va p.2.length vc)],by rw[List.map_append,e7];rfl,?_,fun y hy=>?_,fun y hy=>?_⟩
    ·rw[List.flatMap_append,List.length_append,f5]
     simpa using c3
    ·rw[List.mem_append] at hy
     rcases hy with hy | hy
     ·exact⟨(d4 y hy).1.kept a1 d0,(d4 y hy).2.kept a1 d0⟩
     ·simp only[List.mem_singleton] at hy
      subst hy
      rw[hx]
      exact⟨.inl ⟨rfl,rfl⟩,HV.o.kept a1 d0⟩
    ·rw[List.mem_append] at hy
     rcases hy with hy | hy
     ·exact f2 y hy
     ·simp only[List.mem_singleton] at hy
      subst hy
      rw[hx]
      have:=f0.o
      exact⟨by simp only;omega,by simp,by simp only;omega,fun z hz=>by simp at hz,this.2.2.2⟩
   have d7:=V a2;have b8:=V a0;have d6:=V a1;have e1:=V d1;have e3:=V c0;have e0:=V c8;have g7:=V hx
   clear a2 a0 a1 d0 c3 a6 f6 f1 f4 c6 e8 e7 d3 d4 f2 d1 d5 x0 x1 y0 y1 c0 c8 hx
   have g6:IntKind.i64.wrap ((k:Int)+1)=(k:Int)+1:=by rw[IntKind.wrap_i64];have:=HL.o.len;omega
   go_wp2
   obtain⟨c7,b1⟩: ∃c7,c7=b5.setCell ⟨sb,2,none⟩ (.slice (some ⟨g',0,none⟩) (k+1) d2):=⟨_,rfl⟩
   rw[←b1]
   have c4:Upd (fun k=>k=sb) b5 c7:=by rw[b1];exact Zd b5 sb 2 _
   have b7:c7.heap[sb]?=some (.cells #[.int .u64 ev,.bool false,.slice (some ⟨g',0,none⟩) (k+1) d2] 56 (0,0)):=by
    rw[b1]
    have:=Ze (i:=2) (v:=.slice (some ⟨g',0,none⟩) (k+1) d2) b8.o
    simpa using this
   have g3:WlAt w3 sb ev C l (k+1) c7:=by
    refine⟨⟨_,_,b7,?_⟩,(HD.o.upd.step d6.o (fun j hj e=>by have:=(e1.o j e).1;omega)).trans c4⟩
    rw[Zgd ev l k HP.o,←g7.o]
    exact d7.o.kept c4 (fun j hj e=>by simp[Value.ownBlock] at hj;have:=e3.o;have:=e0.o;omega) (fun j hj e=>by have:=f8.o j hj;have:=a7.o;omega)
   go_roundg (l.length - (k+1))
   case measure=>omega
   case rel=>exact⟨k+1,by omega,rfl,congrArg _ (by omega),g3⟩
  ·obtain rfl:k=l.length:=by omega
   obtain⟨la,lc,b2,b6⟩:=HD.o.out
   rw[List.take_length] at b6
   obtain⟨y0,y1,y2⟩:=Zk b2
   have a9:=V (Zgs (B:=Z7 ev l) wr (a:=la) (c:=lc) b6.setsAt.setsIn (Za1 HL.o HE.o.2) (Za8 HL.o HE.o.1 HE.o.2))
   have g5:(Z7 ev l).sets.length=l.length:=by simp[Z7]
   unfold batchV at a9
   rw[g5] at a9
   clear b2 b6
   go_wp2_with (go_at_call 82;fail)
   refine a9.o.mono ?_
   rintro e w5 ⟨u,rfl,g1,g2⟩
   have e2:w.heap.size≤wr.heap.size:=Nat.le_trans d9.o.size (Nat.le_trans e4.o.size HD.o.upd.size)
   have G1:=V (show OwnB w5 w.heap.size u (Zz ev l) from ownsRow_base_a g1 e2)
   have G2:=V (show U0 w w5 from((((d9.o.trans e4.o)).step HD.o.upd (fun j hj e=>by have:=a7.o;omega)).trans g2))
   obtain⟨ua,um,uc,rfl⟩:=g1.bytesAt.1.slice'
   clear g1 g2
   simp only[]
   go_wp2
   go_ret
   exact⟨_,rfl,G1.out,G2.out⟩
structure RegMem (w:World) (r q p:Nat) (ev:Int) (b n:Nat) (C:Nat→Prop) (l:KV) (area:Int) (X:Lg) (D:Dk) (G F:Nat→Prop):Prop where
 reg:RegAt w r (.pointer (some ⟨q,0,none⟩)) ev (.map (some b)) area
 map:MapKV w b n C l
 wal:Wal w q p X D G F
 nr: ¬G r∧ ¬F r
 nbB: ¬G b∧ ¬F b
 nC: ∀k,C k→ ¬G k∧ ¬F k
theorem RegMem.lt {l:KV}(h:RegMem w r q p ev b n C l area X D G F):r<w.heap.size∧b<w.heap.size∧(∀k,C k→k<w.heap.size)∧(∀k,G k→k<w.heap.size)∧(∀k,F k→k<w.heap.size):=
 ⟨Za h.reg,h.map.lt,h.map.1.rowC.lt,h.wal.1.lt,h.wal.2.1.lt⟩
theorem RegMem.kept0 {l:KV}(h:RegMem w r q p ev b n C l area X D G F)(hu:U0 w w'):RegMem w' r q p ev b n C l area X D G F:=
 ⟨kb hu h.reg,h.map.kept0 hu,⟨h.wal.1.kept hu n3Z,h.wal.2.1.kept hu n3Z,h.wal.2.2⟩,h.nr,h.nbB,h.nC⟩
theorem Zli (f:Bool):Bytes [flagF f]:=fun x hx=>by
 simp only[List.mem_singleton] at hx
 subst hx
 unfold flagF
 split<;> omega
theorem Zje {f:Bool}{x:List Int}(h:Bytes x):Bytes (Ye f x):=by
 show Bytes ([flagF f]++(layF x.length 16++x))
 exact(Zli f).append ((Yg _ _).append h)
theorem Zng (n:Int):Bytes [n % 256]:=fun x hx=>by
 simp only[List.mem_singleton] at hx
 subst hx
 omega
theorem Zsw (h:x.Ok):Bytes (setF x):=by
 show Bytes ([((x.name.size:Int) % 256)]++(numsOf x.name++(Ye x.was x.old++Ye x.is x.new)))
 exact(Zng _).append ((Zdc _).append ((Zje h.old).append (Zje h.new)))
theorem Zkr: ∀{l:List SetV},(∀x∈l,x.Ok)→Bytes (Yc l)
 | [],_=>fun x hx=>by simp[Yc] at hx
 |x :: l,h=>by
  show Bytes (setF x++Yc l)
  exact(Zsw (h x (by simp))).append (Zkr (fun y hy=>h y (by simp[hy])))
theorem Zae (h:B.Ok):Bytes (encF B):=by
 unfold encF
 refine(Yg _ _).append (Bytes.append ?_ (Zkr h.sets))
 show Bytes ([flagF B.large]++[(B.sets.length:Int) % 256])
 exact(Zli _).append (Zng _)
theorem Zer (h:B.right=true):(encF B).length≤300000:=by
 obtain⟨h1,h2,h3⟩:=BatchV.right_sets h
 have:=Zb0 h3
 simp only[encF,List.length_append,layF_length,List.length_cons,List.length_nil]
 omega
inductive Plan where
 |no (E:Int)
 |app
 |cp
def Z2 (ev area:Int)(l:KV)(X:Lg)(B:BatchV):Plan:=
 if X.broken=true then .no 8 else if B.right=false then .no 2 else if doE ev l B≠0 then .no (doE ev l B)
 else if(B.large && !Yh (Zz B.epoch (l.withs B.sets)).length (area - 8))=true then .no 6
 else if B.sets=[]∧B.epoch=ev then .no 0
 else if Yh (encF B).length (X.h.area - X.used)=true then .app
 else if Yh (Zz B.epoch (l.withs B.sets)).length area=true then .cp else .no 6
def DoneAns (w:World)(r q p:Nat)(ev:Int)(b n:Nat)(C:Nat→Prop)(l:KV)(area:Int)(G F:Nat→Prop)(B:BatchV)(E:Int)(X':Lg)(D':Dk)(e:Ending)(w':World):Prop:=
 e=.returned (.int .i64 E)∧ ∃ev' b' n' C' l' G' F',RegMem w' r q p ev' b' n' C' l' area X' D' G' F'∧(E=0→ev'=B.epoch∧l'=l.withs B.sets)∧(E≠0→ev'=ev∧l'=l)∧n'≤n+48∧
  (b'=b∨w.heap.size≤b')∧(∀k,C' k→C k∨w.heap.size≤k)∧(∀k,G' k→G k∨w.heap.size≤k)∧(∀k,F' k→F k∨w.heap.size≤k)∧Upd (fun k=>G k∨F k∨k=r) w w'
def NoAns (w:World)(E:Int)(e:Ending)(w':World):Prop:=e=.returned (.int .i64 E)∧U0 w w'
def CommitAns (w:World)(r q p:Nat)(ev:Int)(b n:Nat)(C:Nat→Prop)(l:KV)(area:Int)(X:Lg)(D:Dk)(G F:Nat→Prop)(B:BatchV)(e:Ending)(w':World):Prop:=
 match Z2 ev area l X B with
 |.no E=>NoAns w E e w'
 |.app=> ∃hb:Bytes (encF B),(X.refuses (encF B).length X.used≠0∧NoAns w (X.refuses (encF B).length X.used) e w')∨
   (X.refuses (encF B).length X.used=0∧DoneAns w r q p ev b n C l area G F B (D.laysE (X.apS (encF B) hb)) (X.after (encF B) (D.laysE (X.apS (encF B) hb))) (D.lays (X.apS (encF B) hb)) e w')
 |.cp=> ∃hb:Bytes (Zz B.epoch (l.withs B.sets)),(X.refuses (Zz B.epoch (l.withs B.sets)).length 0≠0∧NoAns w (X.refuses (Zz B.epoch (l.withs B.sets)).length 0) e w')∨
   (X.refuses (Zz B.epoch (l.withs B.sets)).length 0=0∧X.h.turn=1073741824∧NoAns w 6 e w')∨
   (X.refuses (Zz B.epoch (l.withs B.sets)).length 0=0∧X.h.turn≠1073741824∧DoneAns w r q p ev b n C l area G F B (X.cpE D (Zz B.epoch (l.withs B.sets)) hb) (X.cp (Zz B.epoch (l.withs B.sets)) (X.cpE D (Zz B.epoch (l.withs B.sets)) hb)) (X.cpD D (Zz B.epoch (l.withs B.sets)) hb) e w')
theorem RegMem.after1 {wA wB:World}{l:KV}{X':Lg}{D':Dk}{G' F':Nat→Prop}(h:RegMem w r q p ev b n C l area X D G F)(hA:U0 w wA)(hW:Wal wB q p X' D' G' F')
  (hG: ∀k,G' k→G k∨wA.heap.size≤k) (hF: ∀k,F' k→F k∨wA.heap.size≤k) (hB:Upd (fun k=>G k∨F k) wA wB):RegMem wB r q p ev b n C l area X' D' G' F':=by
 obtain⟨z1,z2,z3,z4,z5⟩:=(h.kept0 hA).lt
 have hh:=h.kept0 hA
 refine⟨(hB.block _ z1 (fun e=>e.elim h.nr.1 h.nr.2)).trans hh.reg,hh.map.kept hB (fun e=>e.elim h.nbB.1 h.nbB.2) (fun k hk e=>e.elim (h.nC k hk).1 (h.nC k hk).2),hW,⟨fun e=>?_,fun e=>?_⟩,⟨fun e=>?_,fun e=>?_⟩,fun k hk=>⟨fun e=>?_,fun e=>?_⟩⟩
 ·rcases hG _ e with e | e
  ·exact h.nr.1 e
  ·omega
 ·rcases hF _ e with e | e
  ·exact h.nr.2 e
  ·omega
 ·rcases hG _ e with e | e
  ·exact h.nbB.1 e
  ·omega
 ·rcases hF _ e with e | e
  ·exact h.nbB.2 e
  ·omega
 ·have:=z3 k hk
  rcases hG _ e with e | e
  ·exact(h.nC k hk).1 e
  ·omega
 ·have:=z3 k hk
  rcases hF _ e with e | e
  ·exact(h.nC k hk).2 e
  ·omega
theorem RegMem.after2 {wA wB:World}{ev':Int}{b' n':Nat}{C':Nat→Prop}{l l':KV}{X':Lg}{D':Dk}{G' F':Nat→Prop}(h:RegMem w r q p ev b n C l area X D G F)(hA:U0 w wA)(hW:Wal wB q p X' D' G' F')
  (hG: ∀k,G' k→G k∨wA.heap.size≤k) (hF: ∀k,F' k→F k∨wA.heap.size≤k) (hB:Upd (fun k=>G k∨F k) wA wB) (hm:MapKV wA b' n' C' l') (hb:w.heap.size≤b') (hC: ∀k,C' k→C k∨w.heap.size≤k):
  RegMem ((wB.setCell ⟨r,1,none⟩ (.int .u64 ev')).setCell ⟨r,2,none⟩ (.map (some b'))) r q p ev' b' n' C' l' area X' D' G' F'∧Upd (fun k=>G k∨F k∨k=r) w ((wB.setCell ⟨r,1,none⟩ (.int .u64 ev')).setCell ⟨r,2,none⟩ (.map (some b'))):=by
 have h1:=h.after1 hA hW hG hF hB
 obtain⟨z1,z2,z3,z4,z5⟩:=h.lt
 have a5:=hA.size
 have hu:Upd (fun k=>k=r) wB ((wB.setCell ⟨r,1,none⟩ (.int .u64 ev')).setCell ⟨r,2,none⟩ (.map (some b'))):=(Zd wB r 1 _).trans (Zd _ r 2 _)
 have a4:=hm.lt
 have a2:=hm.1.rowC.lt
 have a3: ∀k,C' k→ ¬k=r:=fun k hk e=>by
  obtain⟨cs,q1⟩:=hm.1.rowC k hk
  have q2:=(h.kept0 hA).reg
  unfold RegAt at q2
  rw[e,q2] at q1
  injection q1 with q1
  injection q1 with _ q1
  exact absurd q1 (by decide)
 have a0: ¬G b'∧ ¬F b':=⟨fun e=>by have:=z4 _ e;omega,fun e=>by have:=z5 _ e;omega⟩
 have a1: ∀k,C' k→ ¬G k∧ ¬F k:=fun k hk=>by
  rcases hC k hk with e | e
  ·exact h.nC k e
  ·exact⟨fun e'=>by have:=z4 _ e';omega,fun e'=>by have:=z5 _ e';omega⟩
 refine⟨⟨?_,(hm.kept hB (fun e=>e.elim a0.1 a0.2) (fun k hk e=>e.elim (a1 k hk).1 (a1 k hk).2)).kept hu (fun e=>by omega) a3,⟨hW.1.kept hu (fun k hk e=>h1.nr.1 (e ▸ hk)),hW.2.1.kept hu (fun k hk e=>h1.nr.2 (e ▸ hk)),hW.2.2⟩,h1.nr,⟨fun e=>?_,fun e=>?_⟩,fun k hk=>⟨fun e=>?_,fun e=>?_⟩⟩,?_⟩
 ·have q2:=h1.reg
  unfold RegAt at q2 ⊢
  have:=Ze (i:=2) (v:=.map (some b')) (Ze (i:=1) (v:=.int .u64 ev') q2)
  simpa using this
 ·rcases hG _ e with e | e
  ·exact a0.1 e
  ·omega
 ·rcases hF _ e with e | e
  ·exact a0.2 e
  ·omega
 ·have:=a2 k hk
  rcases hG _ e with e | e
  ·exact(a1 k hk).1 e
  ·omega
 ·have:=a2 k hk
  rcases hF _ e with e | e
  ·exact(a1 k hk).2 e
  ·omega
 ·exact((hA.mono (F:=fun _=>False) (G:=fun k=>G k∨F k∨k=r) (fun _ _ e=>e.elim)).step (hB.mono (F:=fun k=>G k∨F k) (G:=fun k=>G k∨F k∨k=r) (fun _ _ e=>e.elim .inl (fun e=>.inr (.inl e)))) n3Z).step (hu.mono (F:=fun k=>k=r) (G:=fun k=>G k∨F k∨k=r) (fun _ _ e=>.inr (.inr e))) n3Z
theorem Zp {x0 x1 x2 x3:Value}{t:TypeId}(h:w.heap[b]?=some (.cells #[x0,x1,x2,x3] t (0,0))):w.cell? ⟨b,0,none⟩=some x0∧w.cell? ⟨b,1,none⟩=some x1∧w.cell? ⟨b,2,none⟩=some x2∧w.cell? ⟨b,3,none⟩=some x3:=by simp[World.cell?,h]
theorem Zdw {l:KV}(w:World)(hm:MapKV w b n C l)(hl:l.Fine)(h0:0≤ev)(he:ev≤4611686018427387904):
  Calls Tryz.prog 98 #[.agg #[.int .u64 ev,.map (some b)]] w fun e w'=> ∃ua uc,e=.returned (.slice ua (Zz ev l).length uc)∧OwnB w' w.heap.size (.slice ua (Zz ev l).length uc) (Zz ev l)∧U0 w w':=by
 refine(Zns w hm hl h0 he).mono ?_
 rintro e w' ⟨u,rfl,g1,g2⟩
 obtain⟨ua,uc,rfl,_⟩:=g1.bytesAt.1.slice
 exact⟨ua,uc,rfl,g1,g2⟩
theorem Zlk (w:World)(hs:SetsIn w a B.sets)(hr:B.right=true)(hk:B.Ok):
  Calls Tryz.prog 82 #[.agg #[.int .u64 B.epoch,.bool B.large,.slice a B.sets.length c]] w fun e w'=> ∃ua uc,e=.returned (.slice ua (encF B).length uc)∧OwnB w' w.heap.size (.slice ua (encF B).length uc) (encF B)∧U0 w w':=by
 refine(Zgs (c:=c) w hs hr hk).mono ?_
 rintro e w' ⟨u,rfl,g1,g2⟩
 obtain⟨ua,uc,rfl,_⟩:=g1.bytesAt.1.slice
 exact⟨ua,uc,rfl,g1,g2⟩
theorem Zgv {b:List Int}(w:World)(hX:Wal w q p X D G F)(hok:X.Ok)(hlen:X.parts.length<1000)(hDok:D.Ok K)(hK:K≤1000000000)(hb:Bytes b)(hbl:b.length≤1000000)(hbi:BytesIn w v b)
  (hsv:b≠[]→ ∀a n c,v=.slice (some a) n c→ ¬F a.block∧a.block≠q):
  Calls Tryz.prog 43 #[.pointer (some ⟨q,0,none⟩),v] w fun e w'=>
   (X.refuses b.length X.used≠0∧e=.returned (.int .i64 (X.refuses b.length X.used))∧U0 w w')∨
   (X.refuses b.length X.used=0∧ ∃E1,E1=D.laysE (X.apS b hb)∧e=.returned (.int .i64 E1)∧ ∃G' F',Wal w' q p (X.after b E1) (D.lays (X.apS b hb)) G' F'∧
     (∀k,G' k→G k∨w.heap.size≤k)∧(∀k,F' k→F k∨w.heap.size≤k)∧Upd (fun k=>G k∨F k) w w'):=by
 refine(Zor w hX hok hlen hDok (by omega) hb (by omega) hbi hsv).mono ?_
 rintro e w' (h | ⟨h1,h2,h3⟩)
 ·exact .inl h
 ·exact .inr ⟨h1,_,rfl,h2,h3⟩
theorem Znf {b:List Int}(w:World)(hX:Wal w q p X D G F)(hok:X.Ok)(hDok:D.Ok K)(hK:K≤1000000000)(hb:Bytes b)(hbl:b.length≤1000000)(hbi:BytesIn w v b)
  (hsv:b≠[]→ ∀a n c,v=.slice (some a) n c→ ¬F a.block∧a.block≠q):
  Calls Tryz.prog 42 #[.pointer (some ⟨q,0,none⟩),v] w fun e w'=>
   (∃E1,e=.returned (.int .i64 E1)∧E1≠0∧((X.refuses b.length 0≠0∧E1=X.refuses b.length 0)∨(X.refuses b.length 0=0∧X.h.turn=1073741824∧E1=6))∧U0 w w')∨
   ((X.refuses b.length 0=0∧X.h.turn≠1073741824)∧ ∃E1,E1=X.cpE D b hb∧e=.returned (.int .i64 E1)∧ ∃G' F',Wal w' q p (X.cp b E1) (X.cpD D b hb) G' F'∧
     (∀k,G' k→G k∨w.heap.size≤k)∧(∀k,F' k→F k∨w.heap.size≤k)∧Upd (fun k=>G k∨F k) w w'):=by
 refine(Zub w hX hok hDok (by omega) hb (by omega) hbi hsv).mono ?_
 rintro e w' (⟨h1,h2,h3⟩ | ⟨h0,h1,h2,h3⟩ | ⟨h0,h1,h2,h3⟩)
 ·exact .inl ⟨_,h2,h1,.inl ⟨h1,rfl⟩,h3⟩
 ·exact .inl ⟨6,h2,by decide,.inr ⟨h0,h1,rfl⟩,h3⟩
 ·exact .inr ⟨⟨h0,h1⟩,_,rfl,h2,h3⟩
def DidIn (w0:World)(n:Nat)(C:Nat→Prop)(ev:Int)(l:KV)(B:BatchV)(ev':Int)(b':Nat)(W:World):Prop:=
 doE ev l B=0→ev'=B.epoch∧w0.heap.size≤b'∧ ∃n' C',MapKV W b' n' C' (l.withs B.sets)∧n'≤n+48∧ ∀k,C' k→C k∨w0.heap.size≤k
theorem DidIn.kept0 {w0 W':World}{ev':Int}{l:KV}{b':Nat}(h:DidIn w0 n C ev l B ev' b' W)(hu:U0 W W'):DidIn w0 n C ev l B ev' b' W':=fun e=>by
 obtain⟨h1,h2,n',C',h3,h4⟩:=h e
 exact⟨h1,h2,n',C',h3.kept0 hu,h4⟩
theorem Znc {l:KV}(w0 w:World)(h0:w0.heap.size≤w.heap.size)(hm:MapKV w b n C l)(hn:n≤1000000)(hl:l.Fine)(hs:SetsIn w a B.sets)(hr:B.right=true):
  Calls Tryz.prog 96 #[.agg #[.int .u64 ev,.map (some b)],.agg #[.int .u64 B.epoch,.bool B.large,.slice a B.sets.length c]] w fun e w'=> ∃ev' b',e=.returned (.tuple #[.agg #[.int .u64 ev',.map (some b')],.int .i64 (doE ev l B)])∧DidIn w0 n C ev l B ev' b' w'∧U0 w w':=by
 refine(Zqe (c:=c) w hm hn hl hs hr).mono ?_
 rintro e w' ⟨hu,⟨hE,rfl⟩ | ⟨hE,b',n',C',rfl,h1,h2,h3,h4⟩⟩
 ·exact⟨ev,b,rfl,fun e=>absurd e hE,hu⟩
 ·refine⟨B.epoch,b',by rw[hE];rfl,fun _=>⟨rfl,by omega,n',C',h1,?_,fun k hk=>(h4 k hk).imp_right (by omega)⟩,hu⟩
  have:=(BatchV.right_sets hr).2.1
  omega
theorem Zeu {l:KV}(w:World)(hm:RegMem w r q p ev b n C l area X D G F)(hX:X.Ok)(hpl:X.parts.length<1000)(hD:D.Ok K)(hK:K≤1000000000)
  (hn:n≤1000000) (hl:l.Fine) (hev:0≤ev) (har:4≤area∧area≤1000) (hs:SetsIn w a B.sets) (hsl:B.sets.length≤900) (hk:B.Ok) (hal: ∀b o,a=some ⟨b,o,none⟩→b<w.heap.size):
  Calls Tryz.prog 31 #[.pointer (some ⟨r,0,none⟩),batchV B a c] w (CommitAns w r q p ev b n C l area X D G F B):=by
 obtain⟨w1,k8,g9,k5⟩:=nb w (.cells #[.int .u64 B.epoch,.bool B.large,.slice a B.sets.length c] 56)
 have l8:=hm.kept0 g9
 have a5:=Zgt (c:=c) w1 (hs.kept g9) hsl (fun b o e=>Nat.lt_of_lt_of_le (hal b o e) g9.size)
 unfold batchV at a5
 obtain⟨y0,y1,y2⟩:=Zk k5
 have HM:=V hm;have HX:=V hX;have HD:=V hD;have HL:=V hl;have HS:=V hs;have HK:=V hk;have l6:=V k8;have k0:=V k5;have j5:=V g9;have k7:=V l8;have l0:=V a5
 clear hm hX hD hl hs hk k8 k5 g9 l8 a5 hal
 unfold batchV
 go_enter Tryz.func31,Tryz.ntmps31
 go_upto_region 1 with fail
 rw[←l6.o]
 clear l6
 go_wp2_with (go_at_call 48;fail)
 refine(Zh9 w1 k7.o.reg k7.o.wal.1).mono ?_
 rintro e w2 ⟨rfl,rfl⟩
 simp only[]
 cases hbr:X.broken with
 |true=>
  have HP:=V (show Z2 ev area l X B=.no 8 by unfold Z2;rw[if_pos hbr])
  go_wp2
  go_ret
  unfold CommitAns
  rw[HP.o]
  exact⟨rfl,j5.o⟩
 |false=>
  have j0:=V hbr
  go_wp2_with (go_at_call 81;fail)
  refine l0.o.mono ?_
  rintro e w2 ⟨rfl,h9⟩
  have d8:=j5.o.trans h9
  have j7:=V d8
  have k4:=V (HM.o.kept0 d8)
  have l7:=V (kb h9 k0.o)
  have e8:=V (show w.heap.size<w2.heap.size from Nat.lt_of_lt_of_le (Za k0.o) h9.size)
  clear h9 d8 y0 y1 y2 l0
  simp only[]
  cases hr:B.right with
  |false=>
   have HP:=V (show Z2 ev area l X B=.no 2 by unfold Z2;rw[if_neg (by rw[j0.o];decide),if_pos hr])
   go_wp2
   go_ret
   unfold CommitAns
   rw[HP.o]
   exact⟨rfl,j7.o⟩
  |true=>
   have HR:=V hr
   obtain⟨E,hE⟩: ∃E,E=doE ev l B:=⟨_,rfl⟩
   have HE:=V hE
   obtain⟨bx,i4⟩: ∃bx,bx=w.heap.size:=⟨_,rfl⟩
   have k6:=V (show w2.heap[bx]?=some (.cells #[.int .u64 B.epoch,.bool B.large,.slice a B.sets.length c] 56 (0,0)) by rw[i4];exact l7.o)
   go_upto_region 7 with fail
   rw[←i4]
   have hA:w2.drew.heap[bx]?=some (.cells #[.int .u64 B.epoch,.bool B.large,.slice a B.sets.length c] 56 (0,0))∧w2.drew.heap[r]?=some (.cells #[.pointer (some ⟨q,0,none⟩),.int .u64 ev,.map (some b),.int .i64 area] 172 (0,0)):=⟨k6.o,k4.o.reg⟩
   have n0:=V i4
   clear hbr hr hE i4
   go_cut [5,6] from 18 to 27 (fun v5 v6 wx=> ∃t5 ev' b',v5=.pointer (some ⟨t5,0,none⟩)∧v6=.int .i64 E∧wx.heap[t5]?=some (.cells #[.int .u64 ev',.map (some b')] 167 (0,0))∧DidIn w n C ev l B ev' b' wx∧U0 w2 wx∧w2.heap.size≤t5)
   case first=>
    refine Zj 10 (fun W=>W.heap[bx]?=some (.cells #[.int .u64 B.epoch,.bool B.large,.slice a B.sets.length c] 56 (0,0))∧W.heap[r]?=some (.cells #[.pointer (some ⟨q,0,none⟩),.int .u64 ev,.map (some b),.int .i64 area] 172 (0,0))) [false,false,false,false,false,false,false,false,false,false,false,false] rfl (by kernel_rfl) ?_
    have b7:RowKit.Hid (MapKV w2.drew b n C l):=V (k4.o.map.kept0 ((Upd.refl (fun _=>False) w2).drew))
    have e9:RowKit.Hid (SetsIn w2.drew a B.sets):=V ((HS.o.kept j7.o).kept ((Upd.refl (fun _=>False) w2).drew))
    have HU:=V ((Upd.refl (fun _=>False) w2).drew)
    generalize w2.drew=wd at hA HU b7 e9 ⊢
    refine tpZ 0 (.pointer (some ⟨r,0,none⟩)) hA ?_
    simp only[zz]
    refine tpZ 1 (.pointer (some ⟨r,0,none⟩)) hA ?_
    simp only[zz]
    refine tpZ 2 (.pointer (some ⟨r,1,none⟩)) hA ?_
    simp only[zz]
    refine tqZ 3 (.agg #[.int .u64 ev,.map (some b)]) [] hA (fun w5 q1=>?_) ?_
    ·obtain⟨c0,c1,c2,c3⟩:=Zp q1.2
     go_simp
    simp only[zz]
    refine tqZ 4 (.agg #[.int .u64 B.epoch,.bool B.large,.slice a B.sets.length c]) [] hA (fun w5 q1=>?_) ?_
    ·obtain⟨c0,c1,c2⟩:=Zk q1.1
     go_simp
    simp only[zz]
    refine Ya (i:=5) (j:=9) rfl rfl (by kernel_rfl) rfl rfl (fun K hK=>?_) (fun K hK=>?_)
    ·have a3:=V hK
     clear hK
     go_step
     refine(Znc (c:=c) w wd (Nat.le_of_lt (Nat.lt_of_lt_of_le e8.o HU.o.size)) b7.o hn HL.o e9.o HR.o).mono ?_
     rintro e b3 ⟨b6,b1,rfl,g1,g3⟩
     rw[←HE.o]
     have hA:=(⟨kb g3 hA.1,kb g3 hA.2⟩:_∧_)
     have f4:=V g1
     have HU:=V (HU.o.trans g3)
     clear g1
     clear g3
     refine a3.o _ _ hA ?_
     clear a3
     simp only[zz]
     refine tpZ 6 (.tuple #[.agg #[.int .u64 b6,.map (some b1)],.int .i64 E]) hA ?_
     simp only[zz]
     refine tpZ 7 (.agg #[.int .u64 b6,.map (some b1)]) hA ?_
     simp only[zz]
     refine tpZ 8 (.int .i64 E) hA ?_
     simp only[zz]
     refine doZ 9 (fun K a3=>?_)
     go_step
     have ua:U0 b3 (b3.alloc (.cells #[.int .u64 0,.map none] 167)):=(Upd.refl _ _).alloc _
     have b0:=V (show w2.heap.size≤b3.heap.size from HU.o.size)
     have a0:=V (Zc (w:=b3) (o:=.cells #[.int .u64 0,.map none] 167) (k:=b3.heap.size) rfl)
     have hA:=(⟨kb ua hA.1,kb ua hA.2⟩:_∧_)
     have HU:=V (HU.o.trans ua)
     have f4:=V (f4.o.kept0 ua)
     clear ua
     refine a3.o _ _ hA ?_
     clear a3
     simp only[zz]
     generalize b3.alloc (.cells #[.int .u64 0,.map none] 167)=f3 at a0 hA HU f4 ⊢
     generalize b3.heap.size=t5 at a0 b0 ⊢
     refine tlZ 10 ?_
     simp only[List.drop]
     have f0:f3.frozen? ⟨t5,0,none⟩=false:=Zb a0.o
     have f1:f3.frozen? ⟨t5,1,none⟩=false:=Zb a0.o
     obtain⟨d0,d1⟩:=Zg a0.o
     go_wp2
     go_meet
     case rel=>
      obtain⟨p1,p2⟩:=put2 (u:=.int .u64 b6) (v:=.map (some b1)) a0.o
      refine⟨t5,b6,b1,rfl,rfl,p1,fun h=>?_,HU.o.step p2 (fun k hk e=>by have:=b0.o;omega),b0.o⟩
      obtain⟨h1,h2,n',C',h3,h4⟩:=f4.o h
      refine⟨h1,h2,n',C',h3.kept p2 (fun e=>?_) (fun k hk e=>?_),h4⟩
      ·obtain⟨es,cc,q1⟩:=h3.1.isMapBlock
       rw[e,a0.o] at q1
       cases q1
      ·obtain⟨cs,q1⟩:=h3.1.rowC k hk
       rw[e,a0.o] at q1
       injection q1 with q1
       injection q1 with _ q1
       exact absurd q1 (by decide)
    ·have a3:=V hK
     clear hK
     go_step
     have ua:U0 wd (wd.alloc (.cells #[.int .u64 0,.map none] 167)):=(Upd.refl _ _).alloc _
     have b0:=V (show w2.heap.size≤wd.heap.size from HU.o.size)
     have a0:=V (Zc (w:=wd) (o:=.cells #[.int .u64 0,.map none] 167) (k:=wd.heap.size) rfl)
     have hA:=(⟨kb ua hA.1,kb ua hA.2⟩:_∧_)
     have HU:=V (HU.o.trans ua)
     have b7:=V (b7.o.kept0 ua)
     have e9:=V (e9.o.kept ua)
     clear ua
     refine a3.o _ _ hA ?_
     clear a3
     simp only[zz]
     generalize wd.alloc (.cells #[.int .u64 0,.map none] 167)=b3 at a0 hA HU b7 e9 ⊢
     generalize wd.heap.size=t5 at a0 b0 ⊢
     refine doZ 5 (fun K a3=>?_)
     go_step
     refine(Znc (c:=c) w b3 (Nat.le_of_lt (Nat.lt_of_lt_of_le e8.o HU.o.size)) b7.o hn HL.o e9.o HR.o).mono ?_
     rintro e f3 ⟨b6,b1,rfl,g1,g3⟩
     rw[←HE.o]
     have hA:=(⟨kb g3 hA.1,kb g3 hA.2⟩:_∧_)
     have f4:=V g1
     have HU:=V (HU.o.trans g3)
     clear g1
     have a0:=V (kb g3 a0.o)
     clear g3
     refine a3.o _ _ hA ?_
     clear a3
     simp only[zz]
     refine tpZ 6 (.tuple #[.agg #[.int .u64 b6,.map (some b1)],.int .i64 E]) hA ?_
     simp only[zz]
     refine tpZ 7 (.agg #[.int .u64 b6,.map (some b1)]) hA ?_
     simp only[zz]
     refine tpZ 8 (.int .i64 E) hA ?_
     simp only[zz]
     refine tlZ 10 ?_
     simp only[List.drop]
     have f0:f3.frozen? ⟨t5,0,none⟩=false:=Zb a0.o
     have f1:f3.frozen? ⟨t5,1,none⟩=false:=Zb a0.o
     obtain⟨d0,d1⟩:=Zg a0.o
     go_wp2
     go_meet
     case rel=>
      obtain⟨p1,p2⟩:=put2 (u:=.int .u64 b6) (v:=.map (some b1)) a0.o
      refine⟨t5,b6,b1,rfl,rfl,p1,fun h=>?_,HU.o.step p2 (fun k hk e=>by have:=b0.o;omega),b0.o⟩
      obtain⟨h1,h2,n',C',h3,h4⟩:=f4.o h
      refine⟨h1,h2,n',C',h3.kept p2 (fun e=>?_) (fun k hk e=>?_),h4⟩
      ·obtain⟨es,cc,q1⟩:=h3.1.isMapBlock
       rw[e,a0.o] at q1
       cases q1
      ·obtain⟨cs,q1⟩:=h3.1.rowC k hk
       rw[e,a0.o] at q1
       injection q1 with q1
       injection q1 with _ q1
       exact absurd q1 (by decide)
   case rest=>
    obtain⟨t5,b6,b1,rfl,rfl,j4,i2,i7,j2⟩:=hcut
    have i0:=j7.o.trans i7
    have l4:=V i0
    have m1:=V (HM.o.kept0 i0)
    have k9:=V (kb i7 k6.o)
    have a0:=V j4
    have b0:=V j2
    have g4:=i2
    clear hA l7 k6 k4 j5 k7 k0
    by_cases f5:E=0
    rotate_left
    ·have c7:(E !=0)=true:=by simpa using f5
     have m6:(E == 0)=false:=by simpa using f5
     have HP:=V (show Z2 ev area l X B=.no E by unfold Z2;rw[if_neg (by rw[j0.o];decide),if_neg (by rw[HR.o];decide),←HE.o,if_pos f5])
     clear f5 i2 g4 j4 i7 i0 j2
     go_wp2
     go_ret
     unfold CommitAns
     rw[HP.o]
     exact⟨rfl,l4.o⟩
    ·subst f5
     obtain⟨h1,h2,n1,C1,h3,h4,h5⟩:=i2 HE.o.symm
     subst h1
     have g7:=Zdg HL.o HR.o HK.o HE.o.symm
     have b8:=V g7.1
     have e4:=V (show 0≤B.epoch∧B.epoch≤4611686018427387904 from⟨HK.o.epoch.1,(BatchV.right_sets HR.o).1⟩)
     have i8:=V h2;have a6:=V h3;have i3:=V h5;have l3:=V h4
     obtain⟨wh,a9⟩: ∃wh,wh=Zz B.epoch (l.withs B.sets):=⟨_,rfl⟩
     obtain⟨ft,m0⟩: ∃ft,ft=Yh wh.length (area - 8):=⟨_,rfl⟩
     have b2:=V a9;have l9:=V m0
     have m7:IntKind.i64.wrap (area - 8)=area - 8:=by rw[IntKind.wrap_i64];omega
     clear i2 g4 j4 i0 g7 h2 h3 h4 h5 a9 m0 j2 i7
     go_upto_region 10 with fail
     have hA:wc.drew.heap[bx]?=some (.cells #[.int .u64 B.epoch,.bool B.large,.slice a B.sets.length c] 56 (0,0))∧wc.drew.heap[t5]?=some (.cells #[.int .u64 B.epoch,.map (some b1)] 167 (0,0))∧wc.drew.heap[r]?=some (.cells #[.pointer (some ⟨q,0,none⟩),.int .u64 ev,.map (some b),.int .i64 area] 172 (0,0)):=⟨k9.o,a0.o,m1.o.reg⟩
     go_cut [31] from 32 to 45 (fun v wx=>v=.bool (B.large && !ft)∧U0 wc wx)
     case first=>
      have b7:RowKit.Hid (MapKV wc.drew b1 n1 C1 (l.withs B.sets)):=V (a6.o.kept0 ((Upd.refl (fun _=>False) wc).drew))
      have HU:=V ((Upd.refl (fun _=>False) wc).drew)
      by_cases i5:B.large=true
      rotate_left
      ·have h8:=V (show B.large=false by simpa using i5)
       clear i5
       refine Zj 13 (fun W=>W.heap[bx]?=some (.cells #[.int .u64 B.epoch,.bool B.large,.slice a B.sets.length c] 56 (0,0))∧W.heap[t5]?=some (.cells #[.int .u64 B.epoch,.map (some b1)] 167 (0,0))∧W.heap[r]?=some (.cells #[.pointer (some ⟨q,0,none⟩),.int .u64 ev,.map (some b),.int .i64 area] 172 (0,0))) [false,false,false,false,false,false,false,false,false,false,false,false,false,false] rfl (by kernel_rfl) ?_
       generalize wc.drew=wd at hA HU b7 ⊢
       refine tpZ 0 (.pointer (some ⟨bx,1,none⟩)) hA ?_
       simp only[zz]
       refine tqZ 1 (.bool false) [12,2] hA (fun w5 q1=>?_) ?_
       ·obtain⟨c0,c1,c2⟩:=Zk q1.1
        rw[h8.o] at c1
        go_simp
       simp only[zz]
       refine tpZ 2 (.bool false) hA ?_
       simp only[zz]
       refine trZ 3 [10,4] hA ?_
       simp only[zz]
       refine trZ 4 [10] hA ?_
       simp only[zz]
       refine trZ 5 [10,9,8,7,6] hA ?_
       simp only[zz]
       refine trZ 6 [10,9,8,7] hA ?_
       simp only[zz]
       refine trZ 7 [10,9,8] hA ?_
       simp only[zz]
       refine trZ 8 [10,9] hA ?_
       simp only[zz]
       refine trZ 9 [10] hA ?_
       simp only[zz]
       refine trZ 10 [] hA ?_
       simp only[zz]
       refine trZ 11 [12] hA ?_
       simp only[zz]
       refine tpZ 12 (.bool false) hA ?_
       simp only[zz]
       refine tlZ 13 ?_
       simp only[List.drop]
       go_wp2
       go_meet
       case rel=>exact⟨by rw[h8.o];rfl,HU.o⟩
      ·have h8:=V i5
       clear i5
       refine Zj 13 (fun W=>W.heap[bx]?=some (.cells #[.int .u64 B.epoch,.bool B.large,.slice a B.sets.length c] 56 (0,0))∧W.heap[t5]?=some (.cells #[.int .u64 B.epoch,.map (some b1)] 167 (0,0))∧W.heap[r]?=some (.cells #[.pointer (some ⟨q,0,none⟩),.int .u64 ev,.map (some b),.int .i64 area] 172 (0,0))) [false,false,false,false,false,false,false,false,false,false,false,false,false,false] rfl (by kernel_rfl) ?_
       generalize wc.drew=wd at hA HU b7 ⊢
       refine tpZ 0 (.pointer (some ⟨bx,1,none⟩)) hA ?_
       simp only[zz]
       refine tqZ 1 (.bool true) [12,2] hA (fun w5 q1=>?_) ?_
       ·obtain⟨c0,c1,c2⟩:=Zk q1.1
        rw[h8.o] at c1
        go_simp
       simp only[zz]
       refine tpZ 2 (.bool true) hA ?_
       simp only[zz]
       refine tqZ 3 (.agg #[.int .u64 B.epoch,.map (some b1)]) [10,4] hA (fun w5 q1=>?_) ?_
       ·obtain⟨c0,c1⟩:=Zg q1.2.1
        go_simp
       simp only[zz]
       refine tpZ 5 (.pointer (some ⟨r,0,none⟩)) hA ?_
       simp only[zz]
       refine tpZ 6 (.pointer (some ⟨r,0,none⟩)) hA ?_
       simp only[zz]
       refine tpZ 7 (.pointer (some ⟨r,3,none⟩)) hA ?_
       simp only[zz]
       refine tqZ 8 (.int .i64 area) [10,9] hA (fun w5 q1=>?_) ?_
       ·obtain⟨c0,c1,c2,c3⟩:=Zp q1.2.2
        go_simp
       simp only[zz]
       refine tpZ 9 (.int .i64 (area - 8)) hA ?_
       simp only[zz]
       refine diZ 4 (fun K a3=>?_)
       go_step
       refine(Zdw wd b7.o b8.o e4.o.1 e4.o.2).mono ?_
       rintro e b3 ⟨ua,uc,rfl,_,g3⟩
       rw[←b2.o]
       have hA:=(⟨kb g3 hA.1,kb g3 hA.2.1,kb g3 hA.2.2⟩:_∧_∧_)
       have HU:=V (HU.o.trans g3)
       clear g3
       refine a3.o _ _ hA ?_
       clear a3
       simp only[zz]
       refine diZ 10 (fun K a3=>?_)
       go_step
       refine(Zhb (m:=area - 8) b3).mono ?_
       rintro e f3 ⟨rfl,rfl⟩
       rw[←l9.o]
       refine a3.o _ _ hA ?_
       clear a3
       simp only[zz]
       refine tpZ 11 (.bool (!ft)) hA ?_
       simp only[zz]
       refine tpZ 12 (.bool (!ft)) hA ?_
       simp only[zz]
       refine tlZ 13 ?_
       simp only[List.drop]
       go_wp2
       go_meet
       case rel=>exact⟨by rw[h8.o];rfl,HU.o⟩
     case rest=>
      obtain⟨rfl,g6⟩:=hcut
      have e3:=l4.o.trans g6
      have l1:=V e3
      have l5:=V (HM.o.kept0 e3)
      have i9:=V (kb g6 k9.o)
      have a0:=V (kb g6 a0.o)
      have a6:=V (a6.o.kept0 g6)
      clear g6 e3 hA
      obtain⟨j9,d6⟩: ∃x,x=(B.large && !ft):=⟨_,rfl⟩
      rw[←d6]
      have f6:=V (show(B.large && !Yh (Zz B.epoch (l.withs B.sets)).length (area - 8))=j9 by rw[d6,l9.o,b2.o])
      have i6:=V (show j9=false→Z2 ev area l X B=if B.sets=[]∧B.epoch=ev then .no 0
        else if Yh (encF B).length (X.h.area - X.used)=true then .app else if Yh wh.length area=true then .cp else .no 6 from fun hx=>by
       unfold Z2
       rw[if_neg (by rw[j0.o];decide),if_neg (by rw[HR.o];decide),if_neg (by rw[←HE.o];decide),if_neg (by rw[f6.o,hx];decide),b2.o])
      clear d6
      cases j9 with
      |true=>
       have HP:=V (show Z2 ev area l X B=.no 6 by
        unfold Z2
        rw[if_neg (by rw[j0.o];decide),if_neg (by rw[HR.o];decide),if_neg (by rw[←HE.o];decide),if_pos f6.o])
       go_wp2
       go_ret
       unfold CommitAns
       rw[HP.o]
       exact⟨rfl,l1.o⟩
      |false=>
       have i6:=V (i6.o rfl)
       go_upto_region 12 with fail
       have hA:wc.drew.heap[bx]?=some (.cells #[.int .u64 B.epoch,.bool B.large,.slice a B.sets.length c] 56 (0,0))∧wc.drew.heap[r]?=some (.cells #[.pointer (some ⟨q,0,none⟩),.int .u64 ev,.map (some b),.int .i64 area] 172 (0,0)):=⟨i9.o,l5.o.reg⟩
       go_cut [45] from 46 to 60 (fun v wx=>v=.bool (decide (B.sets=[]) && (B.epoch == ev))∧U0 wc wx)
       case first=>
        have HU:=V ((Upd.refl (fun _=>False) wc).drew)
        by_cases e7:B.sets=[]
        ·have j6:=V e7
         have j1:=V (show B.sets.length=0 by rw[e7];rfl)
         clear e7
         refine Zj 14 (fun W=>W.heap[bx]?=some (.cells #[.int .u64 B.epoch,.bool B.large,.slice a B.sets.length c] 56 (0,0))∧W.heap[r]?=some (.cells #[.pointer (some ⟨q,0,none⟩),.int .u64 ev,.map (some b),.int .i64 area] 172 (0,0))) [false,false,false,false,false,false,false,false,false,false,false,false,false,false,false] rfl (by kernel_rfl) ?_
         generalize wc.drew=wd at hA HU ⊢
         refine tpZ 0 (.pointer (some ⟨bx,2,none⟩)) hA ?_
         simp only[zz]
         refine tqZ 1 (.slice a B.sets.length c) [4,3,2] hA (fun w5 q1=>?_) ?_
         ·obtain⟨c0,c1,c2⟩:=Zk q1.1
          go_simp
         simp only[zz]
         refine tpZ 2 (.int .i64 B.sets.length) hA ?_
         simp only[zz]
         refine tqZ 3 (.bool true) [4] hA (fun w5 q1=>?_) ?_
         ·have hz:=j1.o
          go_simp
         simp only[zz]
         refine tpZ 4 (.bool true) hA ?_
         simp only[zz]
         refine tpZ 5 (.pointer (some ⟨bx,0,none⟩)) hA ?_
         simp only[zz]
         refine tqZ 6 (.int .u64 B.epoch) [13,12] hA (fun w5 q1=>?_) ?_
         ·obtain⟨c0,c1,c2⟩:=Zk q1.1
          go_simp
         simp only[zz]
         refine tpZ 7 (.pointer (some ⟨r,0,none⟩)) hA ?_
         simp only[zz]
         refine tpZ 8 (.pointer (some ⟨r,0,none⟩)) hA ?_
         simp only[zz]
         refine tpZ 9 (.pointer (some ⟨r,1,none⟩)) hA ?_
         simp only[zz]
         refine tpZ 10 (.pointer (some ⟨r,1,none⟩)) hA ?_
         simp only[zz]
         refine tqZ 11 (.int .u64 ev) [13,12] hA (fun w5 q1=>?_) ?_
         ·obtain⟨c0,c1,c2,c3⟩:=Zp q1.2
          go_simp
         simp only[zz]
         refine tpZ 12 (.bool (B.epoch == ev)) hA ?_
         simp only[zz]
         refine tpZ 13 (.bool (B.epoch == ev)) hA ?_
         simp only[zz]
         refine tlZ 14 ?_
         simp only[List.drop]
         go_wp2
         go_meet
         case rel=>exact⟨by rw[decide_eq_true j6.o];rfl,HU.o⟩
        ·have j6:=V e7
         have j1:=V (show¬B.sets.length=0 from fun e=>e7 (List.length_eq_zero_iff.1 e))
         clear e7
         refine Zj 14 (fun W=>W.heap[bx]?=some (.cells #[.int .u64 B.epoch,.bool B.large,.slice a B.sets.length c] 56 (0,0))∧W.heap[r]?=some (.cells #[.pointer (some ⟨q,0,none⟩),.int .u64 ev,.map (some b),.int .i64 area] 172 (0,0))) [false,false,false,false,false,false,false,false,false,false,false,false,false,false,false] rfl (by kernel_rfl) ?_
         generalize wc.drew=wd at hA HU ⊢
         refine tpZ 0 (.pointer (some ⟨bx,2,none⟩)) hA ?_
         simp only[zz]
         refine tqZ 1 (.slice a B.sets.length c) [4,3,2] hA (fun w5 q1=>?_) ?_
         ·obtain⟨c0,c1,c2⟩:=Zk q1.1
          go_simp
         simp only[zz]
         refine tpZ 2 (.int .i64 B.sets.length) hA ?_
         simp only[zz]
         refine tqZ 3 (.bool false) [4] hA (fun w5 q1=>?_) ?_
         ·have hz:=j1.o
          have m9:((B.sets.length:Int) == 0)=false:=by rw[beq_eq_false_iff_ne];omega
          go_simp
         simp only[zz]
         refine tpZ 4 (.bool false) hA ?_
         simp only[zz]
         refine trZ 5 [13,12,6] hA ?_
         simp only[zz]
         refine trZ 6 [13,12] hA ?_
         simp only[zz]
         refine trZ 7 [13,12,11,10,9,8] hA ?_
         simp only[zz]
         refine trZ 8 [13,12,11,10,9] hA ?_
         simp only[zz]
         refine trZ 9 [13,12,11,10] hA ?_
         simp only[zz]
         refine trZ 10 [13,12,11] hA ?_
         simp only[zz]
         refine trZ 11 [13,12] hA ?_
         simp only[zz]
         refine trZ 12 [13] hA ?_
         simp only[zz]
         refine tpZ 13 (.bool false) hA ?_
         simp only[zz]
         refine tlZ 14 ?_
         simp only[List.drop]
         go_wp2
         go_meet
         case rel=>exact⟨by rw[decide_eq_false j6.o];rfl,HU.o⟩
       case rest=>
        obtain⟨rfl,h0⟩:=hcut
        have g8:=l1.o.trans h0
        have a1:=V g8
        have i9:=V (kb h0 i9.o)
        have a0:=V (kb h0 a0.o)
        have a6:=V (a6.o.kept0 h0)
        clear h0 g8 hA l5
        obtain⟨l2,e2⟩: ∃x,x=(decide (B.sets=[]) && (B.epoch == ev)):=⟨_,rfl⟩
        rw[←e2]
        have f8:=V (show(B.sets=[]∧B.epoch=ev)↔l2=true by rw[e2];simp)
        clear e2
        cases l2 with
        |true=>
         have HP:=V (show Z2 ev area l X B=.no 0 by rw[i6.o,if_pos (f8.o.2 rfl)])
         go_wp2
         go_ret
         unfold CommitAns
         rw[HP.o]
         exact⟨rfl,a1.o⟩
        |false=>
         have f7:=V (show Z2 ev area l X B=if Yh (encF B).length (X.h.area - X.used)=true then .app else if Yh wh.length area=true then .cp else .no 6 by rw[i6.o,if_neg (fun e=>by have:=f8.o.1 e;cases this)])
         obtain⟨y0,y1,y2⟩:=Zk i9.o
         go_wp2_with (go_at_call 82;fail)
         refine(Zlk (c:=c) wc (HS.o.kept a1.o) HR.o HK.o).mono ?_
         rintro e w5 ⟨ua,uc,rfl,a8,hu⟩
         have a4:=V a8
         have e6:=V (show w.heap.size≤wc.heap.size from a1.o.size)
         have b5:=a1.o.trans hu
         have a1:=V b5
         have a0:=V (kb hu a0.o)
         have a6:=V (a6.o.kept0 hu)
         have c5:=V (HM.o.kept0 b5)
         have a2:=c5.o.reg
         unfold RegAt at a2
         obtain⟨c0,c1,c2,c3⟩:=Zp a2
         clear a8 hu b5 y0 y1 y2 a2 c1 c2 c3
         simp only[]
         go_wp2_with (go_at_call 54;fail)
         refine(Zem w5 c5.o.wal.1 HX.o).mono ?_
         rintro e w6 ⟨rfl,hu⟩
         have b5:=a1.o.trans hu
         have a1:=V b5
         have a0:=V (kb hu a0.o)
         have a6:=V (a6.o.kept0 hu)
         have c5:=V (HM.o.kept0 b5)
         have a4:=V (OwnB.keptF a4.o hu n3Z)
         have a2:=c5.o.reg
         unfold RegAt at a2
         obtain⟨c0,c1,c2,c3⟩:=Zp a2
         clear hu b5 a2 c1 c2
         simp only[]
         go_wp2_with (go_at_call 97;fail)
         refine(Zhb (n:=(encF B).length) (m:=X.h.area - X.used) w6).mono ?_
         rintro e w7 ⟨rfl,rfl⟩
         simp only[]
         obtain⟨m2,e0⟩: ∃x,x=Yh (encF B).length (X.h.area - X.used):=⟨_,rfl⟩
         rw[←e0]
         have f9:=V e0
         clear e0
         have j3:=V a1.o.size
         cases m2 with
         |true=>
          have HP:=V (show Z2 ev area l X B=.app by rw[f7.o,if_pos f9.o.symm])
          go_wp2_with (go_at_call 43;fail)
          refine(Zgv w6 c5.o.wal HX.o hpl HD.o hK (Zae HK.o) (by have:=Zer HR.o;omega) a4.o.bytesAt.1.bytesIn (fun _ a' n' c' e=>?_)).mono ?_
          ·have h1:=a4.o.lt a'.block (by rw[e];rfl)
           have h2:=HM.o.lt.2.2.2.2 a'.block
           have h3:=HM.o.lt.2.2.2.1 q HM.o.wal.1.mem
           have h4:=e6.o
           exact⟨fun e=>by have:=h2 e;omega,fun e=>by omega⟩
          rintro e w7 (⟨c6,rfl,hu⟩ | ⟨c6,E1,c7,rfl,G7,F7,h7,d2,d9,b9⟩)
          ·simp only[]
           have HZ:=V c6
           have h6:(X.refuses (encF B).length X.used == 0)=false:=by simpa using c6
           have i1:=V (a1.o.trans hu)
           clear hu
           go_wp2
           go_ret
           unfold CommitAns
           rw[HP.o]
           exact⟨Zae HK.o,.inl ⟨HZ.o,rfl,i1.o⟩⟩
          ·have d4:=V c6
           clear c6
           have a7:=V c7;have H7:=V h7;have d3:=V d2;have d7:=V d9;have g5:=V b9
           have b4:=(b9.block _ (Za a0.o) (fun e=>e.elim (fun e=>by have:=HM.o.lt.2.2.2.1 _ e;have:=b0.o;have:=e8.o;omega) (fun e=>by have:=HM.o.lt.2.2.2.2 _ e;have:=b0.o;have:=e8.o;omega))).trans a0.o
           have e1:=HM.o.after1 a1.o h7 d2 d9 b9
           have c9:=V e1
           have a2:=e1.reg
           unfold RegAt at a2
           obtain⟨c0,c1,c2,c3⟩:=Zp a2
           have f1:w7.frozen? ⟨r,1,none⟩=false:=Zb a2
           have f2:w7.frozen? ⟨r,2,none⟩=false:=Zb a2
           obtain⟨d0,d1⟩:=Zg b4
           clear c7 h7 d2 d9 b9 b4 e1 a2
           by_cases hz:E1=0
           ·have h6:(E1 == 0)=true:=by simpa using hz
            have e5:=V hz
            clear hz
            go_wp2
            go_ret
            unfold CommitAns
            rw[HP.o]
            have a9:=b2.o;subst a9
            obtain⟨p1,p2⟩:=HM.o.after2 (ev':=B.epoch) a1.o H7.o d3.o d7.o g5.o a6.o i8.o i3.o
            exact⟨Zae HK.o,.inr ⟨d4.o,⟨by rw[←a7.o];rfl,B.epoch,b1,n1,C1,l.withs B.sets,_,_,by rw[←a7.o];exact p1,fun _=>⟨rfl,rfl⟩,fun e=>absurd (a7.o ▸ e5.o) e,l3.o,.inr i8.o,i3.o,fun k hk=>(d3.o k hk).imp_right (Nat.le_trans a1.o.size),fun k hk=>(d7.o k hk).imp_right (Nat.le_trans a1.o.size),p2⟩⟩⟩
           ·have h6:(E1 == 0)=false:=by simpa using hz
            have e5:=V hz
            go_wp2
            go_ret
            unfold CommitAns
            rw[HP.o]
            have a9:=b2.o;subst a9
            exact⟨Zae HK.o,.inr ⟨d4.o,⟨by rw[←a7.o];rfl,ev,b,n,C,l,_,_,by rw[←a7.o];exact c9.o,fun e=>absurd (a7.o.trans e) e5.o,fun _=>⟨rfl,rfl⟩,by omega,.inl rfl,fun k hk=>.inl hk,fun k hk=>(d3.o k hk).imp_right (Nat.le_trans a1.o.size),fun k hk=>(d7.o k hk).imp_right (Nat.le_trans a1.o.size),((a1.o.mono (F:=fun _=>False) (G:=fun k=>G k∨F k∨k=r) (fun _ _ e=>e.elim)).step (g5.o.mono (F:=fun k=>G k∨F k) (G:=fun k=>G k∨F k∨k=r) (fun _ _ e=>e.elim .inl (fun e=>.inr (.inl e)))) n3Z)⟩⟩⟩
         |false=>
          have g2:=V (show Z2 ev area l X B=if Yh wh.length area=true then .cp else .no 6 by rw[f7.o,if_neg (by rw[←f9.o];decide)])
          obtain⟨d0,d1⟩:=Zg a0.o
          clear a4 c0 c3
          go_wp2_with (go_at_call 98;fail)
          refine(Zdw w6 a6.o b8.o e4.o.1 e4.o.2).mono ?_
          rintro e w5 ⟨m8,m5,rfl,a8,hu⟩
          rw[←b2.o] at a8
          rw[←b2.o]
          have a4:=V a8
          have b5:=a1.o.trans hu
          have a1:=V b5
          have a0:=V (kb hu a0.o)
          have a6:=V (a6.o.kept0 hu)
          have c5:=V (HM.o.kept0 b5)
          have a2:=c5.o.reg
          unfold RegAt at a2
          obtain⟨c0,c1,c2,c3⟩:=Zp a2
          have e6:=V (show w.heap.size≤w6.heap.size from j3.o)
          clear a8 hu b5 a2 c1 c2 d0 d1
          simp only[]
          go_wp2_with (go_at_call 97;fail)
          refine(Zhb (n:=wh.length) (m:=area) w5).mono ?_
          rintro e w7 ⟨rfl,rfl⟩
          simp only[]
          obtain⟨m4,d5⟩: ∃x,x=Yh wh.length area:=⟨_,rfl⟩
          rw[←d5]
          have g0:=V d5
          clear d5
          cases m4 with
          |false=>
           have HP:=V (show Z2 ev area l X B=.no 6 by rw[g2.o,if_neg (by rw[←g0.o];decide)])
           go_wp2
           go_ret
           unfold CommitAns
           rw[HP.o]
           exact⟨rfl,a1.o⟩
          |true=>
           have HP:=V (show Z2 ev area l X B=.cp by rw[g2.o,if_pos g0.o.symm])
           have c4:=V (show Bytes wh by rw[b2.o];exact Zae (Za8 b8.o e4.o.1 e4.o.2))
           have j8:=V (show wh.length≤300000 by rw[b2.o];exact Zer (Za1 b8.o e4.o.2))
           go_wp2_with (go_at_call 42;fail)
           refine(Znf w5 c5.o.wal HX.o HD.o hK c4.o (by have:=j8.o;omega) a4.o.bytesAt.1.bytesIn (fun _ a' n' c' e=>?_)).mono ?_
           ·have h1:=a4.o.lt a'.block (by rw[e];rfl)
            have h2:=HM.o.lt.2.2.2.2 a'.block
            have h3:=HM.o.lt.2.2.2.1 q HM.o.wal.1.mem
            have h4:=e6.o
            exact⟨fun e=>by have:=h2 e;omega,fun e=>by omega⟩
           rintro e w7 (⟨E1,rfl,c7,c8,hu⟩ | ⟨c6,E1,c7,rfl,G7,F7,h7,d2,d9,b9⟩)
           ·simp only[]
            have m3:=V c8
            have h6:(E1 == 0)=false:=by simpa using c7
            have i1:=V (a1.o.trans hu)
            clear hu c8
            go_wp2
            go_ret
            unfold CommitAns
            rw[HP.o]
            have a9:=b2.o;subst a9
            refine⟨c4.o,?_⟩
            rcases m3.o with ⟨k1,k2⟩ | ⟨k1,k2,k3⟩
            ·exact .inl ⟨k1,by rw[←k2];rfl,i1.o⟩
            ·exact .inr (.inl ⟨k1,k2,by rw[k3];rfl,i1.o⟩)
           ·have d4:=V c6
            clear c6
            have a7:=V c7;have H7:=V h7;have d3:=V d2;have d7:=V d9;have g5:=V b9
            have b4:=(b9.block _ (Za a0.o) (fun e=>e.elim (fun e=>by have:=HM.o.lt.2.2.2.1 _ e;have:=b0.o;have:=e8.o;omega) (fun e=>by have:=HM.o.lt.2.2.2.2 _ e;have:=b0.o;have:=e8.o;omega))).trans a0.o
            have e1:=HM.o.after1 a1.o h7 d2 d9 b9
            have c9:=V e1
            have a2:=e1.reg
            unfold RegAt at a2
            obtain⟨c0,c1,c2,c3⟩:=Zp a2
            have f1:w7.frozen? ⟨r,1,none⟩=false:=Zb a2
            have f2:w7.frozen? ⟨r,2,none⟩=false:=Zb a2
            obtain⟨d0,d1⟩:=Zg b4
            clear c7 h7 d2 d9 b9 b4 e1 a2
            by_cases hz:E1=0
            ·have h6:(E1 == 0)=true:=by simpa using hz
             have e5:=V hz
             clear hz
             go_wp2
             go_ret
             unfold CommitAns
             rw[HP.o]
             have a9:=b2.o;subst a9
             obtain⟨p1,p2⟩:=HM.o.after2 (ev':=B.epoch) a1.o H7.o d3.o d7.o g5.o a6.o i8.o i3.o
             exact⟨c4.o,.inr (.inr ⟨d4.o.1,d4.o.2,⟨by rw[←a7.o];rfl,B.epoch,b1,n1,C1,l.withs B.sets,_,_,by rw[←a7.o];exact p1,fun _=>⟨rfl,rfl⟩,fun e=>absurd (a7.o ▸ e5.o) e,l3.o,.inr i8.o,i3.o,fun k hk=>(d3.o k hk).imp_right (Nat.le_trans a1.o.size),fun k hk=>(d7.o k hk).imp_right (Nat.le_trans a1.o.size),p2⟩⟩)⟩
            ·have h6:(E1 == 0)=false:=by simpa using hz
             have e5:=V hz
             go_wp2
             go_ret
             unfold CommitAns
             rw[HP.o]
             have a9:=b2.o;subst a9
             exact⟨c4.o,.inr (.inr ⟨d4.o.1,d4.o.2,⟨by rw[←a7.o];rfl,ev,b,n,C,l,_,_,by rw[←a7.o];exact c9.o,fun e=>absurd (a7.o.trans e) e5.o,fun _=>⟨rfl,rfl⟩,by omega,.inl rfl,fun k hk=>.inl hk,fun k hk=>(d3.o k hk).imp_right (Nat.le_trans a1.o.size),fun k hk=>(d7.o k hk).imp_right (Nat.le_trans a1.o.size),((a1.o.mono (F:=fun _=>False) (G:=fun k=>G k∨F k∨k=r) (fun _ _ e=>e.elim)).step (g5.o.mono (F:=fun k=>G k∨F k) (G:=fun k=>G k∨F k∨k=r) (fun _ _ e=>e.elim .inl (fun e=>.inr (.inl e)))) n3Z)⟩⟩)⟩
end
end Go.Proofs.YtbimkhdiplnbfaaGreat
