/- A log of whatever bytes: what the law of RegisterOpens builds on each of its two disks, as a function of the bytes. -/
import Derived.Test.YtbimkhdiplnbfaaGreatO25
import Derived.Test.YtbimkhdiplnbfaaGreatO28
import Derived.Test.YtbimkhdiplnbfaaGreatO29
import Derived.Test.YtbimkhdiplnbfaaGreatO30
import Derived.Test.YtbimkhdiplnbfaaGreatO32
import Derived.Test.YtbimkhdiplnbfaaGreatO40
set_option linter.unusedVariables false
set_option linter.unusedSimpArgs false
namespace Go.Proofs.YtbimkhdiplnbfaaGreat
set_option maxRecDepth 1000000
set_option maxHeartbeats 16000000
section
open Go.RowKit Go.Shelf
open Classical in
noncomputable def apN (s:Lg×Dk)(b:List Int):Lg×Dk:=if h:Bytes b∧s.1.used+(secsN b.length:Int)≤s.1.h.area then(s.1.add b,s.2.lays (s.1.apS b h.1)) else s
open Classical in
noncomputable def cpN (s:Lg×Dk)(b:List Int):Lg×Dk:=if h:Bytes b then((⟨s.1.cpH,[],0,false⟩:Lg).add b,(s.2.lays (s.1.cpS b h)).lays (raw [headSc s.1.cpH])) else s
theorem apN_h (s:Lg×Dk)(b:List Int):(apN s b).1.h=s.1.h:=by
 unfold apN
 split<;> rfl
theorem apN_len (s:Lg×Dk)(b:List Int):(apN s b).1.parts.length≤s.1.parts.length+1:=by
 unfold apN
 split
 ·simp[Lg.add]
 ·simp
theorem fold_apN: ∀(l:List (List Int)) (s:Lg×Dk),(l.foldl apN s).1.h=s.1.h∧(l.foldl apN s).1.parts.length≤s.1.parts.length+l.length
 | [],s=>⟨rfl,by simp⟩
 |b :: l,s=>by
  obtain⟨h1,h2⟩:=fold_apN l (apN s b)
  have h3:=apN_len s b
  rw[List.foldl_cons]
  exact⟨h1.trans (apN_h s b),by rw[List.length_cons];omega⟩
theorem append_step {q p:Nat}{s:Lg×Dk}{G F:Nat→Prop}{N K:Nat}{v:Value}{b:List Int}(w:World)(h:WalG w q p s.1 s.2 G F N K)(hp:s.1.parts.length<1000)(hK:K≤1000000000)(hb:Bytes b)(hl:b.length≤40000)(hn:s.1.h.number+s.1.parts.length≤1073741824)(hbi:BytesIn w v b)
  (hsv:b≠[]→ ∀a n c,v=.slice (some a) n c→ ¬F a.block∧a.block≠q):
  Calls Tryz.prog 43 #[.pointer (some ⟨q,0,none⟩),v] w fun e w'=> ∃E,e=.returned (.int .i64 E)∧ ∃G' F',WalG w' q p (apN s b).1 (apN s b).2 G' F' N (K+2000)∧(∀k,G' k→G k∨w.heap.size≤k)∧(∀k,F' k→F k∨w.heap.size≤k)∧Upd (fun k=>G k∨F k) w w':=by
 by_cases hr:s.1.used+(secsN b.length:Int)≤s.1.h.area
 ·have e:apN s b=(s.1.add b,s.2.lays (s.1.apS b hb)):=by unfold apN;rw[dif_pos ⟨hb,hr⟩]
  rw[e]
  refine(append_good w h hp hK hb hl hr hn hbi hsv).mono ?_
  rintro e w' ⟨rfl,h2⟩
  exact⟨0,rfl,h2⟩
 ·have e:apN s b=s:=by unfold apN;rw[dif_neg (fun x=>hr x.2)]
  rw[e]
  refine(append_full w h hp hK hb hl (by omega) hbi hsv).mono ?_
  rintro e w' ⟨rfl,h2⟩
  have h3:=h.kept h2 (fun _ _ e=>e) (fun _ _ e=>e)
  exact⟨6,rfl,G,F,⟨h3.wal,h3.ok,h3.unbroken,h3.good,Dk.Ok.mono h3.dok (by omega),h3.fits⟩,fun k hk=>.inl hk,fun k hk=>.inl hk,h2.mono (F:=fun _=>False) (fun _ _ e=>e.elim)⟩
theorem cp_step {q p:Nat}{s:Lg×Dk}{G F:Nat→Prop}{N K:Nat}{v:Value}{b:List Int}(w:World)(h:WalG w q p s.1 s.2 G F N K)(hK:K≤1000000000)(hb:Bytes b)(hl:b.length≤40000)(hr:(secsN b.length:Int)≤s.1.h.area)(hn:s.1.h.number+s.1.parts.length≤1073741824)(ht:s.1.h.turn<1073741824)(hbi:BytesIn w v b)
  (hsv:b≠[]→ ∀a n c,v=.slice (some a) n c→ ¬F a.block∧a.block≠q):
  Calls Tryz.prog 42 #[.pointer (some ⟨q,0,none⟩),v] w fun e w'=>e=.returned (.int .i64 0)∧ ∃G' F',WalG w' q p (cpN s b).1 (cpN s b).2 G' F' N (K+2000)∧(∀k,G' k→G k∨w.heap.size≤k)∧(∀k,F' k→F k∨w.heap.size≤k)∧Upd (fun k=>G k∨F k) w w':=by
 have e:cpN s b=((⟨s.1.cpH,[],0,false⟩:Lg).add b,(s.2.lays (s.1.cpS b hb)).lays (raw [headSc s.1.cpH])):=by unfold cpN;rw[dif_pos hb]
 rw[e]
 exact cp_good w h hK hb hl hr hn ht hbi hsv
noncomputable def fmN:Lg×Dk:=(⟨fmtH 200,[[]],1,false⟩,fmtD (Dk.new 402) 200 3)
noncomputable def bldN (p0:List Int)(l:List (List Int)):Lg×Dk:=l.foldl apN (cpN fmN p0)
theorem bldN_h {p0:List Int}(hb:Bytes p0)(l:List (List Int)):(bldN p0 l).1.h=⟨2,200,1,2⟩∧(bldN p0 l).1.parts.length≤1+l.length:=by
 obtain⟨h1,h2⟩:=fold_apN l (cpN fmN p0)
 have e:cpN fmN p0=((⟨fmN.1.cpH,[],0,false⟩:Lg).add p0,(fmN.2.lays (fmN.1.cpS p0 hb)).lays (raw [headSc fmN.1.cpH])):=by unfold cpN;rw[dif_pos hb]
 refine⟨h1.trans ?_,Nat.le_trans h2 ?_⟩
 ·rw[e];rfl
 ·rw[e];simp[Lg.add]
theorem bldN_snoc (p0:List Int)(l:List (List Int))(b:List Int):bldN p0 (l++[b])=apN (bldN p0 l) b:=by unfold bldN;rw[List.foldl_append];rfl
end
section
open Go.ChangeShapes Go.WideShapes Go.ChangeAt Go.RowKit Go.Joins Go.Deep
section
variable {H:Type} {enc:TypeId×Value→H} {w:World} {base:Nat} {held:Bool} {n:Nat} {cs:List Value} {y:DataW H×List MemPlace}
end
end
section
open Go.RowKit Go.Shelf
theorem BytesIn.head {w:World}{a:Option Addr}{c:Nat}{bs:List Int}(h:BytesIn w (.slice a bs.length c) bs)(hc:bs.length≤c){n:Nat}(hn:n≤bs.length):
  (∀W,(Instr.slice 39 (.slice a bs.length c) none (some (.int .i64 n)) none).run Tryz.prog W=.ok (.slice a n c) W)∧BytesIn w (.slice a n c) (bs.take n):=by
 have hl:(bs.take n).length=n:=by simp;omega
 rcases h with ⟨h1,rfl⟩ | ⟨ad,c',h1,h2,h3,h4⟩
 ·injection h1 with e1 _ e3
  subst e1
  subst e3
  obtain rfl:n=0:=by simpa using hn
  refine⟨fun W=>?_,.inl ⟨rfl,rfl⟩⟩
  have:=run_slice_h W 39 none 0 0 elem39 .i64 0 (by omega) (by omega)
  rw[show((0:Nat):Int)=0 from rfl,show([]:List Int).length=0 from rfl,this,size39e]
  rfl
 ·injection h1 with e1 _ e3
  subst e1
  subst e3
  refine⟨fun W=>?_,.inr ⟨ad,c,by rw[hl],by rw[hl];omega,h3,fun i u hi=>?_⟩⟩
  ·rw[run_slice_h W 39 _ bs.length c elem39 .i64 n (by omega) (by omega),size39e]
   simp[Result.andThen,sliced,Addr.add_zero']
  ·have hi2:=(List.getElem?_eq_some_iff.1 hi).1
   simp only[bcells,List.length_map,hl] at hi2
   refine h4 i u ?_
   simp only[bcells,List.getElem?_map,List.getElem?_take_of_lt hi2] at hi ⊢
   exact hi
end
end Go.Proofs.YtbimkhdiplnbfaaGreat
