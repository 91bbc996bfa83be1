/- Of the proof of FnExactProofOk: FcsS, SizS, Srch, Cmp, Args, oO, AllP. -/
import Derived.Test.YtlmngncogomgeaaGreatDoorM05
import Derived.Test.YtlmngncogomgeaaGreatDoorM06
import Derived.ProofKit
import Derived.OpenShut
import Derived.ShutString
import Derived.WideKeyEntry
set_option linter.unusedVariables false
set_option maxHeartbeats 2000000
set_option maxRecDepth 100000
namespace Go.Proofs.YtlmngncogomgeaaGreatDoor
section
open Go.RowKit D
attribute [local go_sem ↓] Go.wp_at_zero Go.wp_at_succ
theorem Ot:(Tryz.prog.info? 40).map (fun i=>(i.zero,i.size,i.bytes))=some (some (.agg #[.string ⟨#[]⟩,.slice none 0 0]),2,40):=by kernel_rfl
theorem D.BK {n:Nat} {w:World} {s v u k:Value} {p:Pf} {I:List Nat} (h:dP n w [s,v,u,k] p I):∃ b,aP w [s,v] p.fact b∧∀ c ∈ b,c ∈ I:=by
 cases n with
 | zero=>exact h.elim
 | succ n=>
  obtain ⟨s',k',J,b2,y,U,_,rfl,ht,_⟩:=h;simp only [List.cons.injEq,and_true] at y;obtain ⟨rfl,rfl,_,_⟩:=y;exact ⟨J,⟨_,rfl,U,ht⟩,fun c hc=>Ξ _ hc⟩
theorem D.La (y:List Pf) (k:Nat) (h:k < y.length):(y.take (k+1)).map Pf.fact=(y.take k).map Pf.fact ++ [y[k].fact]:=by
 rw [ρ h,List.map_append]; rfl
theorem Lc (n:Nat) (y:List Pf) (v:Value) (bs:List Nat) (w:World) (h:kY n w [v] y bs) (hn:y.length≤16777216):
  Calls Tryz.prog 78 #[v] w (Reads aQ (y.map Pf.fact) w.heap.size w):=by
 obtain ⟨Ad,cap,rfl,hl,hm⟩:=ai h;obtain ⟨i0,hi,a9,aa,ab⟩:=info_parts Ot;clear hm;have hA:Below w.heap.size w (w.alloc (.cells #[] 40)):=ζ;have a0:=cu.empty (n:=2) (R:=aP) (e:=40) (ω w (.cells #[] 40)) (Nat.le_refl w.heap.size);have HH:=η h;clear h
 go_enter Tryz.func78,Tryz.ntmps78
 go_wp2
 go_loopw [3,4] (fun v i wr=>∃ (k:Nat) (At:Option Addr) (ct:Nat) (L:List Value) (b2:List Nat),k≤y.length∧i=.int .i64 k∧v=.slice At k ct∧cu 2 aP w.heap.size 40 wr (.slice At k ct) L ((y.take k).map Pf.fact) b2∧Below w.heap.size w wr) (fun _ i _=>y.length - (intOf i).toNat)
 case atStart=>exact ⟨0,_,_,_,_,ε,rfl,rfl,a0,hA⟩
 case round=>
  obtain ⟨k,At,ct,L,b2,hk,rfl,rfl,hC,hb⟩:=hrel;clear a0 hA;by_cases I:k < y.length
  ·have U:=η I
   obtain ⟨b,o,Ae,ce,Af,cf,bk,rfl,-,f0,f1,f2,f3,a1,a2⟩:=jJ ((dm n).below HH.out hb) I;obtain ⟨ba,a3,a4⟩:=BK a1;have av:(0:Int)≤(k:Int):=by omega
   have ac:(k:Int) < (y.length:Int):=by omega
   have ae:=η (La y k I);have af:Hid (∀ c ∈ ba,c < w.heap.size):=η fun c hc=>(dm n).lt HH.out c (a2 c (a4 c hc))
   have HC:=η hC;have HB:=η hb;have a5:=η a3;clear hC a1 a2 hk hb a3 a4 f2 f3;generalize y[k].fact=a at *;clear I;have J:Below wr.heap.size wr (wr.alloc (.cells #[.string a.name,.slice Ae a.args.length ce] 40)):=ζ;have a6:=η (HB.out.trans (J.mono HB.out.size));have ag:=η (HC.out.below ak J);have HL:=η (aS (ω wr (.cells #[.string a.name,.slice Ae a.args.length ce] 40)));have am:=η (aV.dY (n:=2) (R:=aP) fM (ak.below a5.out J));have HF:Hid (∀ c ∈ ba,(Value.slice At k ct).ownBlock ≠ some c):=η (fun c hc=>aO HC.out.own (af.out c hc));have ao:Hid (((y.take k).map Pf.fact).length=k):=η (by rw [List.length_map,List.length_take]; have:=U.out; omega);clear J a5
   go_wp2_with (at_builtin; refine gU rfl _ _ _ rfl w.heap.size 40 i0 (.agg #[.string ⟨#[]⟩,.slice none 0 0]) 2 40 Tryz.underlying36 hi a9 aa ab rfl (by omega) ak (.slice At k ct) k _ _ _ rfl ag.out ao.out (some ⟨wr.heap.size,0,none⟩) 1 1 _ [a] _ rfl am.out rfl HL.out HF.out (by unfold maxLen; omega) (by omega) w w.heap.size a6.out ν a6.out.size ?_; intro A2 ap w2 a7 aq aw _)
   have ar:=η a7;clear a7;go_wp2;go_roundw
   case rel=>exact ⟨k+1,A2,ap,_,_,U.out,by go_num,rfl,by rw [ae.out]; exact ar.out,aq⟩
   case measure=>have:=U.out; simp [intOf]; omega
  ·have he:k=y.length:=by omega
   subst he;rw [ϕ ν] at hC;obtain ⟨b5,a8,_⟩:=hC.slice;have ac:¬ (y.length:Int) < (y.length:Int):=by omega
   have HS:=η a8;clear hC a8 I hk;go_wp2;go_ret;exact ⟨hb,_,b5,rfl,HS.out⟩
theorem D.AA (p:Pf):p.kids.length+1≤aK p:=by
 have h:∀ y:List Pf,y.length≤dh aK y:=by
  intro y
  induction y with
  | nil=>exact ν
  | cons k y ih=>
   have:=uX k;simp only [dh,List.map_cons,List.sum_cons,List.length_cons] at *;omega
 rw [kV];have:=h p.kids;omega
theorem BL:∀ (n:Nat) (p:Pf) (c0 c1 c2 c3:Value) (bs:List Nat) (w:World) (h:dP n w [c0,c1,c2,c3] p bs) (hs:aK p≤16777216),
  Calls Tryz.prog 25 #[.agg #[c0,c1,c2,c3]] w fun e w'=>e=.returned (.int .i64 (aK p))∧Below w.heap.size w w':=by
 intro n
 induction n with
 | zero=>exact fun p c0 c1 c2 c3 bs w h=>h.elim
 | succ n ih=>
  intro p c0 c1 c2 c3 bs w h hs;obtain ⟨Ad,cap,Ae,I,b1,b2,rfl,rfl,rfl,rfl,rfl,_,_,hq⟩:=gV h;have IH:=η ih;have HQ:=η hq;have HS:=η (kV p);have HM:=η hs;have a6:p.kids.length≤16777216:=by have:=AA p; omega
  have hA:=(Below.refl w.heap.size w).alloc ν (.cells #[.string p.fact.name,.slice Ad p.fact.args.length cap,.int .i64 p.rule,.slice Ae p.kids.length I] 43);clear h hq ih hs
  go_enter Tryz.func25,Tryz.ntmps25
  go_wp2_with fail
  go_loopw [3,4] (fun c i wr=>∃ k:Nat,k≤p.kids.length∧i=.int .i64 k∧c=.int .i64 (1+dh aK (p.kids.take k):Nat)∧Below w.heap.size w wr∧wr.cell? ⟨w.heap.size,3,none⟩=some (.slice Ae p.kids.length I)) (fun _ i _=>p.kids.length - (intOf i).toNat)
  case atStart=>exact ⟨0,ε,rfl,rfl,hA,by go_simp⟩
  case round=>
   obtain ⟨k,hk,rfl,rfl,hb,c3⟩:=hrel;have HB:=η hb;clear hA;by_cases J:k < p.kids.length
   ·obtain ⟨b,o,Af,cf,Ag,cg,bk,rfl,_,d0,d1,d2,d3,a0,_⟩:=jJ ((dm n).below HQ.out hb) J
    have a1:=kR aK p.kids k J
    have a7:dh aK (p.kids.take k)+aK p.kids[k]≤16777216:=by
     have h1:=HS.out;have h2:=HM.out;have h3:dh aK (p.kids.take (k+1))≤dh aK p.kids:=oJ _ _ _;omega
    have a3:=η a1;have a2:=IH.out p.kids[k] _ _ _ _ bk wr a0 (by omega);have a4:(k:Int) < (p.kids.length:Int):=by omega
    generalize dh aK (p.kids.take k)=z at *;generalize aK p.kids[k]=y at *;clear a0 hb a1
    go_wp2_with fail
    refine a2.mono ?_;rintro e w1 ⟨rfl,U⟩;have a5:=η (HB.out.trans (U.mono HB.out.size));have x3:w1.cell? ⟨w.heap.size,3,none⟩=some (.slice (some ⟨b,o,none⟩) p.kids.length I):=ξ U c3;clear a2 U;go_wp2;go_roundw
    case rel=>exact ⟨k+1,by omega,by go_num,by rw [a3.out]; go_num,a5.out,x3⟩
    case measure=>simp [intOf]; omega
   ·have he:k=p.kids.length:=by omega
    have HE:Hid (1+dh aK (p.kids.take k)=aK p):=η (by rw [he,ϕ ν,HS.out]);have a4:¬ (k:Int) < (p.kids.length:Int):=by omega
    clear J hk he;go_wp2;go_ret;exact ⟨by rw [← HE.out]; rfl,HB.out⟩
theorem Ld (s:ByteArray) (w:World):Calls Tryz.prog 198 #[.string s] w fun e w'=>e=.returned (.bool false)∧Below w.heap.size w w':=by
 have y:=η (Below.refl w.heap.size w)
 go_enter Tryz.func198,Tryz.ntmps198
 go_wp2;go_ret;exact ⟨by simp,y.out⟩
theorem Lh (s:ByteArray) (w:World):Calls Tryz.prog 228 #[.string s] w fun e w'=>e=.returned (.bool false)∧Below w.heap.size w w':=by
 have y:=η (Below.refl w.heap.size w)
 go_enter Tryz.func228,Tryz.ntmps228
 go_wp2;go_ret;exact ⟨by simp,y.out⟩
theorem Ik (s t:ByteArray) (w:World):Calls Tryz.prog 197 #[.string s,.string t] w fun e w'=>e=.returned (.bool (decide (fA s t < 0)))∧Below w.heap.size w w':=by
 have y:=fun s w=>Lh s w
 have I:=η (su s t)
 go_enter Tryz.func197,Tryz.ntmps197
 go_wp2_with fail
 refine (y _ _).mono ?_;rintro e U ⟨rfl,hB⟩;have J:=η hB;clear y hB;go_wp2;go_ret;exact ⟨by simp [I.out],J.out⟩
theorem D.QS {xs:List ByteArray} (h:qR xs) {x:ByteArray} (U:x ∈ xs) (m:Nat) (hm:m < xs.length):fA xs[m] x < 0 ↔ m < xs.idxOf x:=by
 have hi:xs.idxOf x < xs.length:=List.idxOf_lt_length_of_mem U;have he:xs[xs.idxOf x]=x:=List.getElem_idxOf hi;have J:=List.pairwise_iff_getElem.1 h;constructor
 ·intro hc
  rcases Nat.lt_trichotomy m (xs.idxOf x) with h1 | h1 | h1
  ·exact h1
  ·exfalso
   have:xs[m]=x:=by simp only [h1,he]
   rw [this,gK.refl] at hc; omega
  ·have y:=J _ _ hi hm h1
   rw [he] at y;have h3:=gK.anti xs[m] x;omega
 ·intro I
  have y:=J _ _ hm hi I
  rwa [he] at y
theorem Il (xs:List ByteArray) (x:ByteArray) (v:Value) (bs:List Nat) (w:World) (h:jA w [v] xs bs) (hs:qR xs) (hx:x ∈ xs) (a9:xs.length≤1000000):
  Calls Tryz.prog 148 #[v,.string x] w fun e w'=>e=.returned (.tuple #[.int .i64 (xs.idxOf x:Nat),.bool true])∧Below w.heap.size w w':=by
 obtain ⟨Ad,cap,rfl,hl,hm⟩:=ai h;have aa:=ay (τ hl hm);have HN:=fun s w=>Ld s w
 have HL:=fun s t w=>Ik s t w
 have a1:xs.idxOf x < xs.length:=List.idxOf_lt_length_of_mem hx;have HX:=η (fun m hm=>QS hs hx m hm);have HE:Hid (∀ h:xs.idxOf x < xs.length,xs[xs.idxOf x]=x):=η (fun h=>List.getElem_idxOf h);clear hl hm hs hx;obtain ⟨i,hi⟩:∃ i,i=xs.idxOf x:=⟨_,rfl⟩;rw [← hi] at a1 HX HE ⊢;clear hi;have HB:=η (Below.refl w.heap.size w)
 go_enter Tryz.func148,Tryz.ntmps148
 go_wp2
 go_loopw [7,8] (fun p q wr=>∃ k n:Nat,k≤i∧i≤n∧n≤xs.length∧p=.int .i64 k∧q=.int .i64 n∧Below w.heap.size w wr) (fun p q _=>(intOf q).toNat - (intOf p).toNat)
 case atStart=>exact ⟨0,xs.length,ε,by omega,ν,rfl,rfl,HB.out⟩
 case round=>
  obtain ⟨k,n,hk,a5,hn,rfl,rfl,hb⟩:=hrel;clear HB;by_cases ab:k < n
  ·obtain ⟨m,hm⟩:∃ m,m=(k+n) / 2:=⟨_,rfl⟩
   have ac:k≤m:=by omega
   have ae:m < n:=by omega
   have a4:m < xs.length:=by omega
   have hq:((k:Int)+(n:Int)) / 2=(m:Int):=by omega
   have a6:(0:Int)≤(m:Int):=by omega
   have a7:(m:Int) < (xs.length:Int):=by omega
   clear hm;have U:=η (HX.out m a4);obtain ⟨b,o,rfl,_,c0,_⟩:=pK (bV.below h hb) a4;clear h HX HE;generalize xs[m]=y at *;have a0:=HL y x;have I:=η hb;clear HL hb HN;by_cases hc:fA y x < 0
   ·have hd:decide (fA y x < 0)=true:=decide_eq_true hc
    have a2:=η (U.out.1 hc);clear U hc
    go_wp2_with fail
    refine (a0 _).mono ?_;rintro e w2 ⟨rfl,J⟩;have a3:=η (I.out.trans (J.mono I.out.size));clear a0 J;go_wp2;go_roundw
    case rel=>exact ⟨m+1,n,a2.out,a5,hn,by go_num,rfl,a3.out⟩
    case measure=>simp [intOf]; omega
   ·have hd:decide (fA y x < 0)=false:=decide_eq_false hc
    have a2:Hid (i≤m):=η (by have:=mt U.out.2 hc; omega);clear U hc
    go_wp2_with fail
    refine (a0 _).mono ?_;rintro e w2 ⟨rfl,J⟩;have a3:=η (I.out.trans (J.mono I.out.size));clear a0 J;go_wp2;go_roundw
    case rel=>exact ⟨k,m,hk,a2.out,by omega,rfl,rfl,a3.out⟩
    case measure=>simp [intOf]; omega
  ·obtain rfl:k=i:=by omega
   have a6:(0:Int)≤(k:Int):=by omega
   have a7:(k:Int) < (xs.length:Int):=by omega
   have a8:¬ (k:Int) < (n:Int):=by omega
   obtain ⟨b,o,rfl,_,c0,_⟩:=pK (bV.below h hb) a1;rw [HE.out a1] at c0;have I:=η hb;clear h HX HE HL HN hb;go_wp2;go_ret2;exact ⟨rfl,I.out⟩
theorem jW (a b:ByteArray) (w:World):
  Calls Tryz.prog 140 #[.string a,.string b] w fun e w'=>e=.returned (.int .i64 (fA a b))∧w'=w:=by
 rw [← EZ];exact Tryz.strings_Compare a b w
theorem Lj (t u:T) (w:World):
  Calls Tryz.prog 142 #[.agg #[.bool t.var,.string t.name],.agg #[.bool u.var,.string u.name]] w fun e w'=>e=.returned (.int .i64 (fA t.name u.name))∧Below w.heap.size w w':=by
 go_enter Tryz.func142,Tryz.ntmps142
 go_wp2_with (go_at_call 140; refine (jW _ _ _).mono ?_; rintro e w' ⟨rfl,rfl⟩)
 go_ret;exact ⟨rfl,(ζ).alloc (by simp) _⟩
theorem zT (I us:List T) (v1 v2:Value) (b1 b2:List Nat) (w:World) (h1:fD w [v1] I b1) (h2:fD w [v2] us b2):
  Calls Tryz.prog 141 #[v1,v2,.func (.func 142) #[] #[]] w
   fun e w'=>e=.returned (.int .i64 (kF I us))∧Below w.heap.size w w':=by
 obtain ⟨Ad,cap,rfl,hl,hm⟩:=ai h1;obtain ⟨a6,cap2,rfl,a2,a1⟩:=ai h2;have a7:=ay (τ hl hm);have a5:=ay (τ a2 a1);clear hm a1
 go_enter Tryz.func141,Tryz.ntmps141
 go_wp2
 go_loopw [13] (fun i wr=>∃ k:Nat,k≤I.length∧k≤us.length∧i=.int .i64 k∧kF I us=kF (I.drop k) (us.drop k)∧Below w.heap.size w wr) (fun i _=>I.length - (intOf i).toNat)
 case atStart=>exact ⟨0,ε,ε,rfl,rfl,ϑ⟩
 case round=>
  obtain ⟨k,hk,a8,rfl,hc,J⟩:=hrel;have HC:=η hc;clear hc;by_cases a0:k < I.length
  ·obtain ⟨b,o,rfl,_,c0,c1,_⟩:=dN (aG.below h1 J) a0
   have hA:Below wr.heap.size wr (wr.alloc (.cells #[.bool I[k].var,.string I[k].name] 154)):=ζ;by_cases y:k < us.length
   ·obtain ⟨b',o',rfl,_,d0,d1,_⟩:=dN (aG.below h2 (J.trans (hA.mono J.size))) y
    have U:=η (uP a0 y);clear h1 h2
    go_wp2_with fail
    refine (Lj I[k] us[k] _).mono ?_;rintro e w' ⟨rfl,a3⟩;have B':Below w.heap.size w w':=(((J.alloc J.size _).alloc (by have:=J.size; simp; omega) _)).trans (a3.mono (by have:=J.size; simp; omega));by_cases hz:fA I[k].name us[k].name=0
    ·have a4:(fA I[k].name us[k].name == 0)=true:=by simp [hz]
     have HZ:=η hz;clear hz hA;go_wp2;go_roundw
     case rel=>exact ⟨k+1,by omega,by omega,by go_num,by rw [HC.out,U.out,if_pos HZ.out],B'⟩
     case measure=>simp [intOf]; omega
    ·have a4:(fA I[k].name us[k].name == 0)=false:=by simp [hz]
     have HZ:=η hz;clear hz hA;go_wp2;go_ret;exact ⟨dO (by rw [HC.out,U.out,if_neg HZ.out]),B'⟩
   ·clear h1 h2
    have U:=η (uQ a0 (Nat.le_of_not_lt y));go_wp2;go_ret;exact ⟨dO (by rw [HC.out,U.out]),J.trans (hA.mono J.size)⟩
  ·have he:I.length≤k:=by omega
   by_cases y:k < us.length
   ·have U:=η (uS he y)
    have hx:I.length < us.length:=by omega
    go_wp2;go_ret;exact ⟨dO (by rw [HC.out,U.out]),J⟩
   ·have U:=η (uT he (Nat.le_of_not_lt y))
    have hx:¬ I.length < us.length:=by omega
    go_wp2;go_ret;exact ⟨dO (by rw [HC.out,U.out]),J⟩
theorem oh (a b:A) (c0 c1 d0 d1:Value) (b1 b2:List Nat) (w:World) (h1:aP w [c0,c1] a b1) (U:aP w [d0,d1] b b2):
  Calls Tryz.prog 82 #[.agg #[c0,c1],.agg #[d0,d1]] w fun e w'=>e=.returned (.int .i64 (dJ a b))∧Below w.heap.size w w':=by
 obtain ⟨Ad,cap,rfl,rfl⟩:=bK h1;obtain ⟨Ae,y,rfl,rfl⟩:=bK U;have hq:=fun w' (hb:Below w.heap.size w w')=>zT a.args b.args (.slice Ad a.args.length cap) (.slice Ae b.args.length y) b1 b2 w' (dK (ak.below h1 hb)) (dK (ak.below U hb))
 have hc:dJ a b=if fA a.name b.name=0 then kF a.args b.args else fA a.name b.name:=rfl
 have HC:=η hc;clear h1 U hc;have J:=((Below.refl w.heap.size w).alloc ν (.cells #[.string a.name,.slice Ad a.args.length cap] 40)).alloc (by simp) (.cells #[.string b.name,.slice Ae b.args.length y] 40);by_cases I:fA a.name b.name=0
 ·have a0:(fA a.name b.name != 0)=false:=by simp [I]
  have HZ:=η I;clear I
  go_enter Tryz.func82,Tryz.ntmps82
  go_wp2_with (go_at_call 140; refine (jW _ _ _).mono ?_; rintro e w' ⟨rfl,rfl⟩)
  refine (hq _ J).mono ?_;rintro e w' ⟨rfl,a1⟩;go_wp2;go_ret;exact ⟨dO (by rw [HC.out,if_pos HZ.out]),J.trans (a1.mono J.size)⟩
 ·have a0:(fA a.name b.name != 0)=true:=by simp [I]
  have HZ:=η I;clear I
  go_enter Tryz.func82,Tryz.ntmps82
  go_wp2_with (go_at_call 140; refine (jW _ _ _).mono ?_; rintro e w' ⟨rfl,rfl⟩)
  go_ret;exact ⟨dO (by rw [HC.out,if_neg HZ.out]),J⟩
end
section
open Go.RowKit D Go.ChangeShapes Go.WideShapes
theorem own:ownKnob Tryz.prog.godebug=none:=by kernel_rfl
theorem laidOut:laidOutB Tryz.prog=true:=by kernel_rfl
theorem FK {α:Type} {P:Program} {t:TypeId} {R:Rel α} (y:Opens P t R) {H:Type} {enc:TypeId × Value→H} {w:World} {spare:Nat→Bool} {held:Bool} {v:Value} {d:DataW H} {ps:List MemPlace}
  (h:DataW.Trod enc P w 0 spare held t v d ps):∃ x I,R w v.cells.toList x I:=by
 obtain ⟨fuel,hf⟩:=h;exact y H enc w spare held fuel _ _ hf
theorem VX {cs:Array Value} {n:Nat} (h:cs.size=n) (y:n=4):∃ a b c d,cs=#[a,b,c,d]:=by
 obtain ⟨l⟩:=cs;subst y
 match l,h with
 | [a,b,c,d],_=>exact ⟨a,b,c,d,rfl⟩
theorem Vh:Opens Tryz.prog 205 kQ:=KP Tryz.underlying205 (by kernel_rfl) Tryz.underlying4 Tryz.underlying9 (by kernel_rfl) (by kernel_rfl) rfl rfl
theorem Uh:Opens Tryz.prog 24 fD:=nO Tryz.underlying24 (by kernel_rfl) (by omega) Vh
theorem FM:Opens Tryz.prog 26 aP:=KQ Tryz.underlying26 (by kernel_rfl) Tryz.underlying9 Uh (by kernel_rfl) (by kernel_rfl) rfl rfl
theorem Ui:Opens Tryz.prog 23 aQ:=nO Tryz.underlying23 (by kernel_rfl) (by omega) FM
theorem Vj:Opens Tryz.prog 203 nC:=KR Tryz.underlying203 (by kernel_rfl) Tryz.underlying4 FM (by kernel_rfl) (by kernel_rfl) rfl rfl
theorem Uj:Opens Tryz.prog 69 gJ:=nO Tryz.underlying69 (by kernel_rfl) (by omega) Vj
theorem Vk:Opens Tryz.prog 71 jk:=KT Tryz.underlying71 (by kernel_rfl) FM Uj (by kernel_rfl) (by kernel_rfl) rfl rfl
theorem Uk:Opens Tryz.prog 22 dD:=nO Tryz.underlying22 (by kernel_rfl) (by omega) Vk
end
section
open Go.RowKit Go.ChangeMaps Go.MapKept D
structure D.oO (S:Value→Prop) (b:Nat) (L:List (Value × Value × Nat)) (c:Nat) (w:World):Prop where
 blk:∃ es,w.heap[b]? = some (.map es c)∧es.toList.map (fun e=>(e.key,e.val,e.born))=L
 keys:∀ p ∈ L,S p.1
 once:L.Pairwise fun p q=>p.1 ≠ q.1
 nums:(L.map fun p=>p.2.2).Nodup
 less:∀ p ∈ L,p.2.2 < c
section
variable {P:Program} {kt:TypeId} {W:World→Prop} {S:Value→Prop}
theorem D.oO.same {b c:Nat} {L:List (Value × Value × Nat)} {w w':World} (h:oO S b L c w) (e:w'.heap[b]? = w.heap[b]?):oO S b L c w':=by
 obtain ⟨⟨es,h1,y⟩,I,J,U,h6⟩:=h;exact ⟨⟨es,e.trans h1,y⟩,I,J,U,h6⟩
theorem D.oO.lt {b c:Nat} {L:List (Value × Value × Nat)} {w:World} (h:oO S b L c w):b < w.heap.size:=by
 obtain ⟨⟨es,h1,y⟩,I,J,U,h6⟩:=h;exact (Array.getElem?_eq_some_iff.1 h1).1
theorem D.oO.VY {b c:Nat} {L:List (Value × Value × Nat)} {w:World} (h:oO S b L c w):gq S b (L.map fun p=>(p.1,p.2.1)) w:=by
 obtain ⟨⟨es,h1,y⟩,I,J,h5,h6⟩:=h;refine ⟨⟨es,c,h1,?_⟩,?_,?_⟩
 ·rw [← y,List.map_map]; rfl
 ·intro p U
  obtain ⟨q,hq,rfl⟩:=List.mem_map.1 U;exact I q hq
 ·exact List.pairwise_map.2 J
theorem D.oO.made (w:World):oO S w.heap.size [] 0 (w.alloc (.map #[] 0)):=
 ⟨⟨#[],(MapKept.heap_alloc w _).1,rfl⟩,fun p h=>by simp at h,List.Pairwise.nil,List.nodup_nil,fun p h=>by simp at h⟩
theorem D.Ef {α:Type} {A B:List α} {p:α}:(A ++ p :: B)[A.length]? = some p:=by simp
theorem FN (hK:wJ P kt W S) {w:World} (hW:W w) {t e:TypeId} (ht:P.underlying t=some (.map kt e)) {b c:Nat} {L:List (Value × Value × Nat)} {k z:Value} (h:oO S b L c w)
  (hz:(zeroValue e).run P w=.ok z w) (hS:S k) (hk:∀ p ∈ L,p.1 ≠ k):
  ∃ w',(Instr.mapEntry t (.map (some b)) k).run P w=.ok (.tuple #[z,goInt c]) w'∧oO S b (L ++ [(k,z,c)]) (c+1) w'∧w.grownBy w' (some b):=by
 obtain ⟨⟨es,J,rfl⟩,h2,h3,h4,h5⟩:=h;have a0:∀ e ∈ es.toList,S e.key:=fun e he=>h2 (e.key,e.val,e.born) (List.mem_map.2 ⟨e,he,rfl⟩)
 rcases iZ hK hW hS es.toList a0 with ⟨h6,h7⟩ | ⟨i,U,h6,h7,h8⟩
 ·refine ⟨setBlock w b (.map (es.push ⟨k,z,c⟩) (c+1)),?_,⟨⟨_,heap_setBlock_same J _,by simp⟩,?_,?_,?_,?_⟩,gZ J _⟩
  ·simp [Instr.mapEntry,run_underlying ht,MapKept.run_getObj_map J,hK.check w false hS,h6,hz,MapKept.run_setObj_map _ J,Result.andThen,setBlock]
  ·intro p I
   rcases μ.1 I with I | I
   ·exact h2 p I
   ·rw [ώ.1 I]; exact hS
  ·refine List.pairwise_append.2 ⟨h3,List.pairwise_singleton _ _,fun p I q hq=>?_⟩
   rw [ώ.1 hq];exact hk p I
  ·rw [List.map_append]
   refine List.nodup_append.2 ⟨h4,by simp,fun x hx y hy=>?_⟩;obtain ⟨p,I,rfl⟩:=List.mem_map.1 hx;have:=h5 p I;simp at hy;omega
  ·intro p I
   rcases μ.1 I with I | I
   ·exact Nat.lt_succ_of_lt (h5 p I)
   ·rw [ώ.1 I]; exact Nat.lt_succ_self _
 ·exact absurd h8 (hk (U.key,U.val,U.born) (List.mem_map.2 ⟨U,List.mem_of_getElem? h7,rfl⟩))
theorem FO (hK:wJ P kt W S) {w:World} (hW:W w) {t e:TypeId} (ht:P.underlying t=some (.map kt e)) {b c n:Nat} {A B:List (Value × Value × Nat)} {k u:Value} (h:oO S b (A ++ (k,u,n) :: B) c w):
  ∃ w',(Instr.mapEntry t (.map (some b)) k).run P w=.ok (.tuple #[u,goInt n]) w'∧oO S b (A ++ (k,u,n) :: B) c w'∧w.grownBy w' (some b):=by
 obtain ⟨⟨es,hb,hL⟩,h2,h3,h4,h5⟩:=h;have hS:S k:=h2 (k,u,n) (by simp);have a3:∀ e ∈ es.toList,S e.key:=fun e he=>h2 (e.key,e.val,e.born) (hL ▸ List.mem_map.2 ⟨e,he,rfl⟩)
 rcases iZ hK hW hS es.toList a3 with ⟨h6,J⟩ | ⟨i,U,h6,J,h8⟩
 ·have:(k,u,n) ∈ es.toList.map (fun e=>(e.key,e.val,e.born)):=by rw [hL]; simp
  obtain ⟨e0,a4,a0⟩:=List.mem_map.1 this;simp only [Prod.mk.injEq] at a0;exact absurd a0.1 (J e0 a4)
 ·have y:(A ++ (k,u,n) :: B)[i]? = some (U.key,U.val,U.born):=by rw [← hL]; simp [J]
  have a5:i=A.length:=by
   obtain ⟨a1,a2⟩:=List.getElem?_eq_some_iff.1 y
   rcases Nat.lt_trichotomy i A.length with hh | hh | hh
   ·exact absurd (by rw [a2]; simp [h8]) (List.pairwise_iff_getElem.1 h3 i A.length a1 (by simp) hh)
   ·exact hh
   ·exact absurd (by rw [a2]; simp [h8]) (List.pairwise_iff_getElem.1 h3 A.length i (by simp) a1 hh)
  subst a5;rw [Ef] at y;simp only [Option.some.injEq,Prod.mk.injEq] at y;obtain ⟨g1,g2,g3⟩:=y;have hj:es[A.length]? = some U:=by simpa using J
  have a6:(Instr.keyThatStays k k).run P w=.ok k w:=by simp [Instr.keyThatStays,hK.same hS]
  have I:es.modify A.length (fun e=>{ e with key:=k })=es:=by
   apply Array.ext';rw [Array.toList_modify,modify_eq_set _ _ _ _ J];have:({ U with key:=k }:MapEntry)=U:=by rw [← h8]
   rw [this];exact WideElems.set_self _ _ _ J
  refine ⟨setBlock w b (.map es c),?_,⟨⟨_,heap_setBlock_same hb _,hL⟩,h2,h3,h4,h5⟩,gZ hb _⟩;simp [Instr.mapEntry,run_underlying ht,MapKept.run_getObj_map hb,hK.check w false hS,h6,hj,h8,a6,I,g2,g3,MapKept.run_setObj_map _ hb,Result.andThen,setBlock]
theorem BN {w:World} {t:TypeId} {b c n:Nat} {A B:List (Value × Value × Nat)} {k u:Value} (v:Value) (h:oO S b (A ++ (k,u,n) :: B) c w):
  ∃ w',(Instr.entryStore t (.map (some b)) (goInt n) v).run P w=.ok () w'∧oO S b (A ++ (k,v,n) :: B) c w'∧w.grownBy w' (some b):=by
 obtain ⟨⟨es,hb,hL⟩,h2,h3,h4,h5⟩:=h
 obtain ⟨J,U,g⟩:∃ J,es.toList[A.length]? = some J∧(J.key,J.val,J.born)=(k,u,n):=by
  have:(es.toList.map fun e=>(e.key,e.val,e.born))[A.length]? = some (k,u,n):=by rw [hL]; exact Ef
  rw [List.getElem?_map] at this;exact Option.map_eq_some_iff.1 this
 simp only [Prod.mk.injEq] at g;obtain ⟨g1,g2,g3⟩:=g
 have a1:(es.toList.map (·.born)).Nodup:=by
  have e0:es.toList.map (·.born)=(es.toList.map fun e=>(e.key,e.val,e.born)).map fun p=>p.2.2:=by rw [List.map_map]; rfl
  rw [e0,hL];exact h4
 have a0:es.findIdx? (fun e=>((e.born:Nat):Int) == ((n:Nat):Int))=some A.length:=by
  rw [WideElems.findIdx_arr,← g3];exact WideElems.findIdx_born a1 U
 have I:((es.modify A.length (fun e=>{ e with val:=v })).toList.map fun e=>(e.key,e.val,e.born))=A ++ (k,v,n) :: B:=by
  rw [Array.toList_modify,modify_eq_set _ _ _ _ U,List.map_set,hL,g1,g3];simp
 refine ⟨setBlock w b (.map (es.modify A.length fun e=>{ e with val:=v }) c),?_,⟨⟨_,heap_setBlock_same hb _,I⟩,?_,?_,?_,?_⟩,gZ hb _⟩
 ·simp [Instr.entryStore,MapKept.run_getObj_map hb,asInt,asIntOf,goInt,a0,MapKept.run_setObj_map _ hb,Result.andThen,setBlock]
 ·intro p y
  rcases μ.1 y with y | y
  ·exact h2 p (by simp [y])
  ·rcases ύ.1 y with rfl | y
   ·exact h2 (k,u,n) (by simp)
   ·exact h2 p (by simp [y])
 ·have:=List.pairwise_append.1 h3
  have h9:=List.pairwise_cons.1 this.2.1;refine List.pairwise_append.2 ⟨this.1,List.pairwise_cons.2 ⟨fun q hq=>h9.1 q hq,h9.2⟩,fun p y q hq=>?_⟩
  rcases ύ.1 hq with rfl | hq
  ·exact this.2.2 p y (k,u,n) (by simp)
  ·exact this.2.2 p y q (by simp [hq])
 ·simpa using h4
 ·intro p y
  rcases μ.1 y with y | y
  ·exact h5 p (by simp [y])
  ·rcases ύ.1 y with rfl | y
   ·exact h5 (k,u,n) (by simp)
   ·exact h5 p (by simp [y])
section
variable {ops:Array Oper} {rest:List Oper} {o:Oper} {a:Act} {Q:Exit→Act→World→Prop}
end
end
end
namespace D
open Go.RowKit
def jB (list:List A) (a:A) (b:Bd):List Bd:=list.filterMap fun f=>if (aC a f b).2 then some (aC a f b).1 else none
def Eg (list:List A) (p:Pt) (out:List Bd):List Bd:=if p.no then out else out.flatMap (jB list p.atom)
def wQ (list:List A) (body:List Pt):List Bd:=body.foldl (fun out p=>Eg list p out) [[]]
theorem sG (list:List A) (body:List Pt) (k:Nat) (h:k < body.length):wQ list (body.take (k+1))=Eg list body[k] (wQ list (body.take k)):=by
 unfold wQ;rw [ρ h,List.foldl_append];rfl
theorem Ll (list:List A) (a:A) (b:Bd) (j:Nat) (h:j < list.length):jB (list.take (j+1)) a b=jB (list.take j) a b ++ (if (aC a list[j] b).2 then [(aC a list[j] b).1] else []):=by
 unfold jB;rw [ρ h,List.filterMap_append]
 congr 1
 by_cases hm:(aC a list[j] b).2=true
 ·simp [hm]
 ·simp [hm]
theorem Eh (list:List A) (a:A) (b:Bd):(jB list a b).length≤list.length:=List.length_filterMap_le _ _
theorem wR {list:List A} {a:A}:∀ (out:List Bd),(out.flatMap (jB list a)).length≤out.length * list.length:=by
 intro out
 induction out with
 | nil=>simp
 | cons b out ih=>
  rw [List.flatMap_cons,χ,List.length_cons,Nat.add_mul,Nat.one_mul];have:=Eh list a b;omega
theorem Ou (list:List A) (a:A) (out:List Bd) (k:Nat) (h:k < out.length):(out.take (k+1)).flatMap (jB list a)=(out.take k).flatMap (jB list a) ++ jB list a out[k]:=by
 rw [ρ h,List.flatMap_append];simp
theorem Ov {list:List A} {p:Pt} {out:List Bd} {n:Nat} (y:list.length≤300) (h:out.length≤300 ^ n):(Eg list p out).length≤300 ^ (n+1):=by
 unfold Eg
 split
 ·exact τ h (Nat.pow_le_pow_right (by omega) (by omega))
 ·refine τ (wR out) ?_
  rw [Nat.pow_succ];exact Nat.mul_le_mul h y
theorem qf:∀ (y fs:List T) (b:Bd),(bZ y fs b).1.length≤b.length+y.length
 | [],fs,b=>by cases fs <;> simp [bZ]
 | t :: y,[],b=>by simp [bZ]
 | t :: y,f :: fs,b=>by
  rw [bZ]
  split
  ·split
   ·split
    ·have:=qf y fs b
     simp only [List.length_cons]; omega
    ·simp
   ·have:=qf y fs (b ++ [(t.name,f.name)])
    simp only [χ,List.length_cons,List.length_nil] at this ⊢; omega
  ·split
   ·have:=qf y fs b
    simp only [List.length_cons]; omega
   ·simp
theorem vz (a f:A) (b:Bd):(aC a f b).1.length≤b.length+a.args.length:=by
 unfold aC
 split
 ·exact qf _ _ _
 ·simp
theorem Ls {list:List A} {a:A} {b y:Bd} (h:y ∈ jB list a b):y.length≤b.length+a.args.length:=by
 unfold jB at h;obtain ⟨f,_,hf⟩:=List.mem_filterMap.1 h
 split at hf
 ·cases hf
  exact vz a f b
 ·cases hf
def dW (list:List A) (body:List Pt) (b:Bd):Bool:=body.all fun p=>!p.no || !hasB list (aY p.atom b)
def allB (list:List A) (body:List Pt):List Bd:=(wQ list body).filter (dW list body)
end D
end Go.Proofs.YtlmngncogomgeaaGreatDoor
