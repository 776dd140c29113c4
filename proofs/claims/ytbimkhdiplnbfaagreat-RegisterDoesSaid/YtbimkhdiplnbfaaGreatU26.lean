/- Walks. -/
import Derived.Test.YtbimkhdiplnbfaaGreatU19
set_option linter.unusedVariables false
set_option linter.unusedSimpArgs false
namespace Go.Proofs.YtbimkhdiplnbfaaGreat
set_option maxRecDepth 1000000
set_option maxHeartbeats 16000000
variable {snap:Bool} {D:Dk} {h:Hd} {i number p place τ:Int} {X:Lg} {b:List Int} {N:Nat}
section
open Go.RowKit
theorem Zmm (h:Hd): ∃r,headF h=lettersF++(layF h.turn 32++(layF h.area 32++(layF h.place 32++(layF h.number 32++r)))):=by
 obtain⟨z,c,e⟩: ∃z c,headF h=(lettersF++layF h.turn 32++layF h.area 32++layF h.place 32++layF h.number 32++z)++c:=⟨_,_,rfl⟩
 exact⟨z++c,by rw[e];simp only[List.append_assoc]⟩
theorem Zb4 (hu:h.U32):readF (headF h)=h:=by
 obtain⟨r,hr⟩:=Zmm h
 have e0:(headF h).drop 8=layF h.turn 32++(layF h.area 32++(layF h.place 32++(layF h.number 32++r))):=by rw[hr];rfl
 have e1:(headF h).drop 12=layF h.area 32++(layF h.place 32++(layF h.number 32++r)):=by rw[hr];rfl
 have e2:(headF h).drop 16=layF h.place 32++(layF h.number 32++r):=by rw[hr];rfl
 have e3:(headF h).drop 20=layF h.number 32++r:=by rw[hr];rfl
 unfold readF
 rw[e0,e1,e2,e3,Zcs hu.turn,Zcs hu.area,Zcs hu.place,Zcs hu.number]
theorem Zru (hu:h.U32)(hs:h.Says):hOk (headF h)=true:=by rw[Zci,Zb4 hu];exact⟨hs,rfl⟩
theorem Zld:hOk zblk=false:=by
 rw[Bool.eq_false_iff]
 intro h
 have:=((Zci _).1 h).1.turn.1
 revert this
 decide
theorem Hd.Says.u32 (hs:h.Says)(hp:0≤h.place):h.U32:=by
 obtain⟨h1,h2,h3,h4⟩:=hs
 exact⟨by omega,by omega,by omega,by omega⟩
def OldC (next τ:Int)(s:List Int):Prop:=s=zblk∨ ∃t n snap b k,s=cutF t n snap b k∧(1≤t∧t≤2000000000)∧b.length≤40000∧k<secsN b.length∧0≤n∧(n<next∨(n=next∧(snap=true∨t<τ)))
theorem OldC.mono {n n' τ':Int}{s:List Int}(h:OldC n τ s)(hn:n<n'∨n=n'∧τ≤τ'):OldC n' τ' s:=by
 rcases h with h | ⟨t,m,a0,b,k,h1,h2,h3,h4,h5,h6⟩
 ·exact .inl h
 ·refine .inr ⟨t,m,a0,b,k,h1,h2,h3,h4,h5,?_⟩
  rcases h6 with h6 | ⟨h6,h7⟩
  ·exact .inl (by omega)
  ·rcases hn with hn | hn
   ·exact .inl (by omega)
   ·refine .inr ⟨by omega,?_⟩
    rcases h7 with h7 | h7
    ·exact .inl h7
    ·exact .inr (by omega)
theorem Znh:be zblk=0:=by decide
structure LawD (X:Lg) (τ:Int) (S:Int→List Int):Prop where
 sum:X.used=Zx X.parts
 one:X.parts≠[]
 says:X.h.Says
 place:0≤X.h.place
 fits:X.used≤X.h.area
 next:X.h.number+X.parts.length≤2000000000
 head:S (X.h.turn % 2)=headF X.h
 other:S ((X.h.turn+1) % 2)=zblk∨ ∃h',S ((X.h.turn+1) % 2)=headF h'∧h'.U32∧h'.turn<X.h.turn
 parts:PartsAt S X.h 0 0 X.parts
 old: ∀v,0≤v→v<2 * X.h.area→OldC (X.h.number+X.parts.length) τ (S (2+v))
 none: ∀t b,1≤t→t≤X.h.turn→b.length≤40000→ ¬LiesAt S X.h (X.h.number+X.parts.length) (X.h.place+X.used) t false b
theorem Zct {area:Int}(ha:1≤area): ∃v,(0≤v∧v<2 * area)∧atF area p=2+v:=
 ⟨p % (2 * area),⟨Int.emod_nonneg _ (by omega),Int.emod_lt_of_pos _ (by omega)⟩,rfl⟩
theorem Zk5 {S:Int→List Int}{next:Int}(ha:1≤h.area)(hnx:0≤next∧next≤2000000000)(hS: ∀v,0≤v→v<2 * h.area→OldC next τ (S (2+v)))(hτ:τ≤1)(t:Int)(b:List Int)(h1:1≤t)(h2:t≤2000000000)(hb:b.length≤40000): ¬LiesAt S h next place t false b:=by
 intro hl
 have e:=hl 0 (by have:=Yu b.length;omega)
 obtain⟨v,hv,a0⟩:=Zct (p:=place+((0:Nat):Int)) ha
 rw[a0] at e
 rcases hS v hv.1 hv.2 with hz | ⟨t',n',s',b',k',e',g1,g2,g3,g4,g5⟩
 ·rw[hz] at e
  have:=Zfz (turn:=t) (number:=next) (by omega) false b 0
  rw[←e,Znh] at this
  omega
 ·rw[e'] at e
  have g6:k'≤65535:=by unfold secsN at g3;omega
  obtain⟨c1,c2,_⟩:=Zes (by omega) (by omega) (by omega) (by omega) g6 (by omega) g2 hb e
  have c3:=Zjp (by omega) (by omega) (by omega) (by omega) g6 (by omega) g2 hb e
  rcases g5 with g5 | ⟨_,g5 | g5⟩
  ·omega
  ·rw[c3] at g5;simp at g5
  ·omega
theorem LawD.counts {S:Int→List Int}(h:LawD X τ S):Yx (S 0) (S 1)=(X.h,true):=by
 have hu:=h.says.u32 h.place
 have hk:=Zru hu h.says
 have ho:=h.other
 have hh:=h.head
 have ht:=h.says.turn
 unfold Yx
 rcases(by omega:X.h.turn % 2=0∨X.h.turn % 2=1) with e | e
 ·have e2:(X.h.turn+1) % 2=1:=by omega
  rw[e] at hh;rw[e2] at ho
  rw[hh,hk,Zb4 hu]
  refine if_pos ⟨rfl,?_⟩
  rcases ho with ho | ⟨h',ho,a0,a1⟩
  ·rw[ho];exact .inl Zld
  ·rw[ho,Zb4 a0];exact .inr (by omega)
 ·have e2:(X.h.turn+1) % 2=0:=by omega
  rw[e] at hh;rw[e2] at ho
  rw[hh,hk,Zb4 hu]
  rcases ho with ho | ⟨h',ho,a0,a1⟩
  ·rw[ho,if_neg (by rw[Zld];simp)]
  ·rw[ho,Zb4 a0,if_neg (by simp;omega)]
theorem LawD.found {S:Int→List Int}(h:LawD X τ S)(hS: ∀i,0≤startN (S i)){f:Nat}(hf:X.parts.length<f):Zcr S X.h f [] 0=X.parts:=by
 have ht:=h.says.turn;have ha:=h.says.area;have hs:=h.sum;have a0:=h.fits
 have e:=Zfx (S:=S) (h:=X.h) (by omega) X.parts f [] 0 h.parts (by omega) hf (by
  rw[List.nil_append,Int.zero_add,←hs]
  rcases hw:wholeS S X.h (X.h.number+X.parts.length) (X.h.place+X.used) (decide (X.parts=[])) (X.h.area - X.used) with _ | b
  ·rfl
  ·rw[show decide (X.parts=[])=false by simp[h.one]] at hw
   obtain⟨t,h1,h2,h3,h4⟩:=Zl0 hw hS
   exact absurd h4 (h.none t b h1.1 h1.2 h2))
 simpa using e
theorem Zlu {area:Int}(ha:1≤area)(hi:i<2):atF area p≠i:=by
 obtain⟨v,hv,e⟩:=Zct (p:=p) ha
 rw[e];omega
theorem LawD.add {S:Int→List Int}(h:LawD X τ S)(hb:b.length≤40000)(hr:X.used+secsN b.length≤X.h.area)(hn:X.h.number+X.parts.length+1≤2000000000){τ':Int}(hτ:τ'≤1):
  LawD (X.add b) τ' (layS S (Za6 X.h (X.h.number+X.parts.length) (X.h.place+X.used) false b)):=by
 have ha:=h.says.area;have ht:=h.says.turn;have hs:=h.sum;have a4:=h.says.number
 have a6:=Yu b.length
 have a5:=Zed X.parts
 have a0: ∀i,i<2→layS S (Za6 X.h (X.h.number+X.parts.length) (X.h.place+X.used) false b) i=S i:=fun i hi=>Zam (fun k _=>Zlu (by omega) hi)
 have a3:(X.h.number+(X.parts.length:Int))<(X.add b).h.number+(X.add b).parts.length:=by show X.h.number+(X.parts.length:Int)<X.h.number+((X.parts++[b]).length:Int);simp;omega
 have a2: ∀v,0≤v→v<2 * X.h.area→OldC ((X.add b).h.number+(X.add b).parts.length) τ' (layS S (Za6 X.h (X.h.number+X.parts.length) (X.h.place+X.used) false b) (2+v)):=by
  intro v h1 h2
  by_cases hk: ∃k:Nat,k<secsN b.length∧atF X.h.area (X.h.place+X.used+k)=2+v
  ·obtain⟨k,hk,e⟩:=hk
   rw[←e,Zfu (by omega) (by omega) k hk]
   exact .inr ⟨_,_,_,_,_,rfl,by omega,hb,hk,by omega,.inl a3⟩
  ·rw[Zam (fun k hk' e=>hk ⟨k,hk',e⟩)]
   exact(h.old v h1 h2).mono (.inl a3)
 have a1:(X.add b).h.number+(X.add b).parts.length=X.h.number+X.parts.length+1:=by show X.h.number+((X.parts++[b]).length:Int)=_;simp;omega
 refine⟨?_,?_,h.says,h.place,hr,by rw[a1];omega,?_,?_,?_,a2,fun t c h1 h2 hc=>Zk5 (h:=(X.add b).h) (by show 1≤X.h.area;omega) (by rw[a1];omega) a2 hτ t c h1 (by have:t≤X.h.turn:=h2;omega) hc⟩
 ·show X.used+secsN b.length=Zx (X.parts++[b])
  rw[Zbl,Yj,Zay,hs];omega
 ·show X.parts++[b]≠[]
  simp
 ·show layS S _ (X.h.turn % 2)=headF X.h
  rw[a0 _ (by omega),h.head]
 ·show layS S _ ((X.h.turn+1) % 2)=zblk∨ ∃h',layS S _ ((X.h.turn+1) % 2)=headF h'∧h'.U32∧h'.turn<X.h.turn
  rw[a0 _ (by omega)]
  exact h.other
 ·show PartsAt _ X.h 0 0 (X.parts++[b])
  refine PartsAt.snoc X.parts 0 0 (PartsAt.congr X.parts 0 0 (fun v h1 h2=>?_) h.parts) ⟨X.h.turn,by omega,?_⟩ hb
  ·refine Zam (fun k hk e=>?_)
   rw[show X.h.place+X.used+(k:Int)=X.h.place+(X.used+k) by omega] at e
   have:=Zni (by omega) e.symm (by omega) (by omega)
   omega
  ·have e0:decide (0+X.parts.length=0)=false:=by have:=h.one;simpa using this
   rw[e0,Int.zero_add,←hs,Nat.zero_add]
   exact Zfu (by omega) (by omega)
def Hd.laid (h:Hd):Int×List Int:=(h.turn % 2,headF h)
def Lg.on (X:Lg):Lg:={X with h:={X.h with turn:=X.h.turn+1},broken:=false}
theorem LawD.opened {S:Int→List Int}(h:LawD X τ S)(ht1:X.h.turn<1073741824)(hτ:τ≤X.h.turn+1):LawD X.on (X.h.turn+1) (layS S [X.on.h.laid]):=by
 have ha:=h.says.area;have ht:=h.says.turn;have hs:=h.sum;have a2:=h.says.number
 have a1: ∀i,i≠(X.h.turn+1) % 2→layS S [X.on.h.laid] i=S i:=fun i hi=>
  Zbd _ _ (by intro x hx;simp at hx;subst hx;exact fun e=>hi e.symm)
 have a4: ∀p,layS S [X.on.h.laid] (atF X.h.area p)=S (atF X.h.area p):=fun p=>a1 _ (Zlu (by omega) (by omega))
 have hl: ∀{n p t:Int} {s:Bool} {b:List Int},LiesAt (layS S [X.on.h.laid]) X.on.h n p t s b→LiesAt S X.h n p t s b:=fun h k hk=>by
  have:=h k hk
  rw[←this]
  exact(a4 _).symm
 have a0: ∀v,0≤v→v<2 * X.h.area→OldC (X.h.number+X.parts.length) (X.h.turn+1) (layS S [X.on.h.laid] (2+v)):=by
  intro v h1 h2
  rw[a1 _ (by omega)]
  exact(h.old v h1 h2).mono (.inr ⟨rfl,hτ⟩)
 refine⟨hs,h.one,⟨by show 1≤X.h.turn+1∧X.h.turn+1≤1073741824;omega,ha,h.says.place,a2⟩,h.place,h.fits,h.next,?_,?_,?_,a0,fun t c h1 h2 hc hx=>?_⟩
 ·exact Zde _ _ (List.pairwise_singleton ..) (List.mem_singleton.2 rfl)
 ·refine .inr ⟨X.h,?_,h.says.u32 h.place,by show X.h.turn<X.h.turn+1;omega⟩
  show layS S [X.on.h.laid] ((X.h.turn+1+1) % 2)=headF X.h
  rw[a1 _ (by omega),show(X.h.turn+1+1) % 2=X.h.turn % 2 by omega,h.head]
 ·refine PartsAt.turn (h:=X.h) (h':=X.on.h) rfl rfl rfl (by show X.h.turn≤X.h.turn+1;omega) _ _ _ (PartsAt.congr X.parts 0 0 (fun v _ _=>a4 _) h.parts)
 ·have a3:=hl hx
  have a6:t≤X.h.turn+1:=h2
  by_cases h3:t≤X.h.turn
  ·exact h.none t c h1 h3 hc a3
  ·have e:=a3 0 (by have:=Yu c.length;omega)
   obtain⟨v,hv,a5⟩:=Zct (area:=X.h.area) (p:=X.h.place+X.used+((0:Nat):Int)) (by omega)
   have e':S (2+v)=cutF t (X.h.number+X.parts.length) false c 0:=by rw[←a5];exact e
   have a7:=h.next
   rcases h.old v hv.1 hv.2 with hz | ⟨t',n',s',b',k',e2,g1,g2,g3,g4,g5⟩
   ·rw[hz] at e'
    have:=Zfz (turn:=t) (number:=X.h.number+X.parts.length) (by omega) false c 0
    rw[←e',Znh] at this
    omega
   ·rw[e2] at e'
    have g6:k'≤65535:=by unfold secsN at g3;omega
    obtain⟨c1,c2,_⟩:=Zes (by omega) (by omega) (by omega) (by omega) g6 (by omega) g2 hc e'
    have c3:=Zjp (by omega) (by omega) (by omega) (by omega) g6 (by omega) g2 hc e'
    rcases g5 with g5 | ⟨_,g5 | g5⟩
    ·omega
    ·rw[c3] at g5;simp at g5
    ·omega
def Dk.S (D:Dk)(i:Int):List Int:=D.shows i.toNat
theorem Dk.Good.calm (h:D.Good N):D.Calm:=⟨h.dead,h.arm,h.fail⟩
theorem Dk.Good.S_write (h:D.Good N){j:Int}(hi:0≤i∧i<N)(hj:0≤j)(b:List Int):(D.write i b).S j=if j=i then b else D.S j:=by
 have ho: ¬D.off i:=by have:=h.len;unfold Dk.off;omega
 unfold Dk.S
 rw[h.calm.shows_write]
 by_cases e:j=i
 ·subst e;simp[ho]
 ·rw[if_neg (by omega),if_neg e]
theorem Dk.Good.S_sync (h:D.Good N){j:Int}(hj:0≤j∧j<N):D.sync.S j=D.S j:=by
 have hl:=h.len
 unfold Dk.S
 rw[h.calm.sync (by omega)]
 have e:((List.range D.arr.length).map D.shows).getD j.toNat []=D.shows j.toNat:=by
  rw[List.getD_eq_getElem?_getD,List.getElem?_map,List.getElem?_range (by omega)]
  rfl
 show(((((List.range D.arr.length).map D.shows).getD j.toNat [],(0:Int)) :: []).getLast?.getD (zblk,0)).1=_
 rw[e]
 rfl
theorem Zen {N:Int}: ∀(l:List (Int×List Int)) (S S':Int→List Int),(∀i,0≤i→i<N→S i=S' i)→ ∀i,0≤i→i<N→layS S l i=layS S' l i
 | [],_,_,h,i,h1,h2=>h i h1 h2
 |x :: l,S,S',h,i,h1,h2=>by
  unfold layS
  refine Zen l _ _ (fun j h3 h4=>?_) i h1 h2
  show(if j=x.1 then x.2 else S j)=if j=x.1 then x.2 else S' j
  rw[h j h3 h4]
theorem Dk.Good.S_lays: ∀(l:List (Int×List Int)) {D:Dk} {N:Nat},D.Good N→(∀x∈l,0≤x.1∧x.1<N)→ ∀j:Int,0≤j→j<N→(D.lays l).S j=layS D.S l j
 | [],_,_,h,_,j,h1,h2=>h.S_sync ⟨h1,h2⟩
 | (i,b) :: l,D,N,h,hl,j,h1,h2=>by
  have hi:=hl (i,b) (List.mem_cons_self ..)
  have he:=(h.callD (i:=i) hi).1
  unfold Dk.lays layS
  rw[if_pos he,Dk.Good.S_lays l (h.write hi b) (fun x hx=>hl x (List.mem_cons_of_mem _ hx)) j h1 h2]
  exact Zen (N:=N) l _ _ (fun k h3 _=>h.S_write hi h3 b) j h1 h2
theorem LiesAt.congr {S S':Int→List Int}{n t:Int}{s:Bool}(hS: ∀q,S' (atF h.area q)=S (atF h.area q))(hl:LiesAt S h n p t s b):LiesAt S' h n p t s b:=fun k hk=>by
 rw[hS];exact hl k hk
theorem LawD.congr {S S':Int→List Int}(h:LawD X τ S)(hS: ∀i,0≤i→i<2+2 * X.h.area→S' i=S i):LawD X τ S':=by
 have ha:=h.says.area
 have a0: ∀q,S' (atF X.h.area q)=S (atF X.h.area q):=fun q=>by
  obtain⟨v,hv,e⟩:=Zct (area:=X.h.area) (p:=q) (by omega)
  rw[e];exact hS _ (by omega) (by omega)
 refine⟨h.sum,h.one,h.says,h.place,h.fits,h.next,?_,?_,PartsAt.congr _ _ _ (fun v _ _=>a0 _) h.parts,fun v h1 h2=>?_,fun t b h1 h2 hb hl=>h.none t b h1 h2 hb (LiesAt.congr (fun q=>(a0 q).symm) hl)⟩
 ·rw[hS _ (by omega) (by omega)];exact h.head
 ·rw[hS _ (by omega) (by omega)];exact h.other
 ·rw[hS _ (by omega) (by omega)];exact h.old v h1 h2
def fmtX (area:Nat):Lg:=⟨fmtH area,[[]],1,false⟩
theorem LawD.fmt {area:Nat}{S:Int→List Int}(ha:4≤area∧area≤1000)(hz: ∀i:Int,0≤i→i<2+2 * area→S i=zblk):LawD (fmtX area) 1 (layS (layS S (Za6 (fmtH area) 1 0 true [])) [(fmtH area).laid]):=by
 have hA:(fmtX area).h.area=area:=rfl
 have hn:(fmtX area).h.number+(fmtX area).parts.length=2:=rfl
 have a1: ∀i,2≤i→layS (layS S (Za6 (fmtH area) 1 0 true [])) [(fmtH area).laid] i=layS S (Za6 (fmtH area) 1 0 true []) i:=fun i hi=>
  Zbd _ _ (by intro x hx;simp at hx;subst hx;show(1:Int) % 2≠i;omega)
 have hs:secsN ([]:List Int).length=1:=rfl
 have hp:=Zfu (S:=S) (h:=fmtH area) (number:=1) (place:=0) (snap:=true) (b:=[]) (by show(1:Int)≤area;omega) (by rw[hs];show((1:Nat):Int)≤2 * (area:Int);omega)
 have a0: ∀v,0≤v→v<2 * (fmtX area).h.area→OldC ((fmtX area).h.number+(fmtX area).parts.length) 1 (layS (layS S (Za6 (fmtH area) 1 0 true [])) [(fmtH area).laid] (2+v)):=by
  intro v h1 h2
  rw[hA] at h2
  rw[a1 _ (by omega),hn]
  by_cases hk: ∃k:Nat,k<secsN ([]:List Int).length∧atF area (0+k)=2+v
  ·obtain⟨k,hk,e⟩:=hk
   rw[←e,show(area:Int)=(fmtH area).area from rfl,hp k hk]
   exact .inr ⟨_,_,_,_,_,rfl,by show(1:Int)≤1∧(1:Int)≤2000000000;omega,by simp,hk,by omega,.inl (by omega)⟩
  ·rw[Zam (fun k hk' e=>hk ⟨k,hk',e⟩),hz _ (by omega) (by omega)]
   exact .inl rfl
 refine⟨rfl,by simp[fmtX],⟨by show(1:Int)≤1∧(1:Int)≤1073741824;omega,by rw[hA];omega,by show(0:Int)<2 * area;omega,by show(1:Int)≤1∧(1:Int)≤1073741824;omega⟩,by show(0:Int)≤0;omega,by show(1:Int)≤area;omega,by rw[hn];omega,?_,?_,?_,a0,fun t c h1 h2 hc=>Zk5 (by rw[hA];omega) (by rw[hn];omega) a0 (by omega) t c h1 (by have:t≤1:=h2;omega) hc⟩
 ·exact Zde _ _ (List.pairwise_singleton ..) (List.mem_singleton.2 rfl)
 ·refine .inl ?_
  show layS (layS S _) [(fmtH area).laid] 0=zblk
  rw[Zbd _ _ (by intro x hx;simp at hx;subst hx;show(1:Int) % 2≠0;omega),Zam (fun k _=>Zlu (by show(1:Int)≤area;omega) (by omega)),hz _ (by omega) (by omega)]
 ·refine⟨⟨1,by show(1:Int)≤1∧(1:Int)≤1;omega,fun k hk=>?_⟩,by simp,trivial⟩
  show layS (layS S _) [(fmtH area).laid] (atF area (0+0+k))=cutF 1 (1+0) (decide (0=0)) [] k
  rw[a1 _ (by obtain⟨v,hv,e⟩:=Zct (area:=(area:Int)) (p:=0+0+k) (by omega);omega)]
  exact hp k hk
theorem Ztb {area:Nat}{S:Int→List Int}(h1:0≤i)(h2:i<2+2 * area):layS S (fmt1 area) i=zblk:=by
 have e:fmt1 area=(List.range (2+2 * area)).map fun(i:Nat)=>((i:Int),zblk):=by
  simp only[fmt1,raw,zl,List.map_map];rfl
 rw[e]
 refine Zde _ _ ?_ (List.mem_map.2 ⟨i.toNat,by simp;omega,by rw[show((i.toNat:Nat):Int)=i by omega]⟩)
 rw[List.pairwise_map]
 refine(List.pairwise_lt_range (n:=2+2 * area)).imp (fun {x y} hx e=>?_)
 have:(x:Int)=y:=e
 omega
theorem Zja (hb:Bytes b):raw (partSc h number place snap b hb)=Za6 h number place snap b:=by
 simp only[raw,partSc,Za6,List.map_map];rfl
theorem Zju {bs:List Int}(h:Bytes bs):0≤be bs:=by
 unfold be
 split
 ·rename_i b0 b1 b2 b3 r
  exact(Zaw (fun x hx=>h x (by simp at hx;rcases hx with rfl | rfl | rfl | rfl<;> simp))).1
 ·omega
open Classical in
noncomputable def goD (h:Hd)(number place turn:Int)(snap:Bool):Nat→Nat→List Int→Dk→Option (List Int)×Int×Dk
 | 0,_,b,D=>(some b,0,D)
 |m+1,k,b,D=>
  if D.callE (atF h.area (place+k)) false=0 then
   if cutF turn number snap (Yo b (48 * k - 4) ((D.reads (atF h.area (place+k))).drop 16)) k=D.reads (atF h.area (place+k)) then
    goD h number place turn snap m (k+1) (Yo b (48 * k - 4) ((D.reads (atF h.area (place+k))).drop 16)) (D.callD (atF h.area (place+k)) false)
   else(none,0,D.callD (atF h.area (place+k)) false)
  else(none,D.callE (atF h.area (place+k)) false,D.callD (atF h.area (place+k)) false)
open Classical in
noncomputable def wholeD (h:Hd)(number place:Int)(snap:Bool)(left:Int)(D:Dk):Option (List Int)×Int×Dk:=
 if left=0 then(none,0,D) else
 if D.callE (atF h.area place) false=0 then
  if Starts h left (D.reads (atF h.area place)) then
   if cutF (Zai (D.reads (atF h.area place))) number snap (Zab (D.reads (atF h.area place))) 0=D.reads (atF h.area place) then
    goD h number place (Zai (D.reads (atF h.area place))) snap (secsN (startN (D.reads (atF h.area place))).toNat - 1) 1 (Zab (D.reads (atF h.area place))) (D.callD (atF h.area place) false)
   else(none,0,D.callD (atF h.area place) false)
  else(none,0,D.callD (atF h.area place) false)
 else(none,D.callE (atF h.area place) false,D.callD (atF h.area place) false)
noncomputable def Ys (h:Hd):Nat→List (List Int)→Int→Dk→List (List Int)×Int×Dk
 | 0,ps,_,D=>(ps,0,D)
 |f+1,ps,u,D=>
  match wholeD h (h.number+ps.length) (h.place+u) (decide (ps=[])) (h.area - u) D with
  | (some b,_,D')=>Ys h f (ps++[b]) (u+secsN b.length) D'
  | (none,E,D')=>(ps,E,D')
theorem Dk.Good.callR (h:D.Good N)(hi:0≤i∧i<N):D.callE i false=0∧(D.callD i false).Good N∧D.reads i=D.S i∧(D.callD i false).S=D.S:=by
 obtain⟨h1,h2,h3,h4⟩:=h
 have n1: ¬(i<0∨(D.arr.length:Int)≤i):=by omega
 have e:D.callD i false={D with fail:=max (D.fail - 1) (-1),ops:=D.ops+1}:=by
  simp[Dk.callD,h1,h3,n1]
 have hr:D.callR i false=true:=by simp[Dk.callR,h1,h3];omega
 refine⟨by simp[Dk.callE,h1,h3,n1],?_,by unfold Dk.reads Dk.S;rw[if_pos hr],?_⟩
 ·rw[e]
  exact⟨h1,h2,by show max (D.fail - 1) (-1)= -1;omega,h4⟩
 ·rw[e];rfl
theorem Zlg {turn:Int}(ha:1≤h.area)(hN:2+2 * h.area≤N): ∀(m k:Nat) (b:List Int) (D:Dk),D.Good N→ ∃D',goD h number place turn snap m k b D=(goS D.S h number place turn snap m k b,0,D')∧D'.Good N∧D'.S=D.S∧ ∀K,D.Ok K→D'.Ok (K+m)
 | 0,_,_,D,hg=>⟨D,rfl,hg,rfl,fun _ h=>h⟩
 |m+1,k,b,D,hg=>by
  have hb:=Zf2 (area:=h.area) (place:=place+k) ha
  obtain⟨h1,h2,h3,h4⟩:=hg.callR (i:=atF h.area (place+k)) (by omega)
  unfold goD goS
  rw[if_pos h1,h3]
  split
  ·obtain⟨D',e1,e2,e3,e4⟩:=Zlg ha hN m (k+1) (Yo b (48 * k - 4) ((D.S (atF h.area (place+k))).drop 16)) _ h2
   rw[h4] at e1 e3
   exact⟨D',e1,e2,e3,fun K hK=>Dk.Ok.mono (e4 _ (hK.callD _ _)) (by omega)⟩
  ·exact⟨_,rfl,h2,h4,fun K hK=>Dk.Ok.mono (hK.callD _ _) (by omega)⟩
theorem Zl1 {left:Int}(ha:1≤h.area)(hN:2+2 * h.area≤N)(hl:left≤1000)(hg:D.Good N): ∃D',wholeD h number place snap left D=(wholeS D.S h number place snap left,0,D')∧D'.Good N∧D'.S=D.S∧ ∀K,D.Ok K→D'.Ok (K+1000):=by
 have hb:=Zf2 (area:=h.area) (place:=place) ha
 obtain⟨h1,h2,h3,h4⟩:=hg.callR (i:=atF h.area place) (by omega)
 unfold wholeD wholeS
 by_cases a0:left=0
 ·rw[if_pos a0,if_pos a0];exact⟨D,rfl,hg,rfl,fun K hK=>Dk.Ok.mono hK (by omega)⟩
 ·rw[if_neg a0,if_neg a0,if_pos h1,h3]
  by_cases hs:Starts h left (D.S (atF h.area place))
  ·rw[if_pos hs]
   by_cases hc:cutF (Zai (D.S (atF h.area place))) number snap (Zab (D.S (atF h.area place))) 0=D.S (atF h.area place)
   ·rw[if_pos hc,if_pos ⟨hs,hc⟩]
    obtain⟨D',e1,e2,e3,e4⟩:=Zlg (number:=number) (place:=place) (turn:=Zai (D.S (atF h.area place))) (snap:=snap) ha hN (secsN (startN (D.S (atF h.area place))).toNat - 1) 1 (Zab (D.S (atF h.area place))) _ h2
    rw[h4] at e1 e3
    have h5:=hs.2.2.2
    exact⟨D',e1,e2,e3,fun K hK=>Dk.Ok.mono (e4 _ (hK.callD _ _)) (by omega)⟩
   ·rw[if_neg hc,if_neg (fun q=>hc q.2)]
    exact⟨_,rfl,h2,h4,fun K hK=>Dk.Ok.mono (hK.callD _ _) (by omega)⟩
  ·rw[if_neg hs,if_neg (fun q=>hs q.1)]
   exact⟨_,rfl,h2,h4,fun K hK=>Dk.Ok.mono (hK.callD _ _) (by omega)⟩
theorem Zgo (ha:1≤h.area∧h.area≤1000)(hN:2+2 * h.area≤N): ∀(f:Nat) (ps:List (List Int)) (u:Int) (D:Dk),0≤u→D.Good N→ ∃D',Ys h f ps u D=(Zcr D.S h f ps u,0,D')∧D'.Good N∧D'.S=D.S∧ ∀K,D.Ok K→D'.Ok (K+1000 * f)
 | 0,ps,u,D,_,hg=>⟨D,rfl,hg,rfl,fun _ h=>h⟩
 |f+1,ps,u,D,hu,hg=>by
  obtain⟨D',e1,e2,e3,e4⟩:=Zl1 (number:=h.number+ps.length) (place:=h.place+u) (left:=h.area - u) (snap:=decide (ps=[])) (by omega) hN (by omega) hg
  unfold Ys Zcr
  rw[e1]
  rcases wholeS D.S h (h.number+ps.length) (h.place+u) (decide (ps=[])) (h.area - u) with _ | b
  ·exact⟨D',rfl,e2,e3,fun K hK=>Dk.Ok.mono (e4 K hK) (by omega)⟩
  ·obtain⟨D2,g1,g2,g3,g4⟩:=Zgo ha hN f (ps++[b]) (u+secsN b.length) D' (by omega) e2
   rw[e3] at g1 g3
   exact⟨D2,g1,g2,g3,fun K hK=>Dk.Ok.mono (g4 _ (e4 K hK)) (by omega)⟩
end
end Go.Proofs.YtbimkhdiplnbfaaGreat
