/- Of the proof of FnDeltaNeeds: Atom, Copy, AtH, L3, AtomsS, Facts2, CmpD, Draw2, FsH. -/
import Derived.Test.YtkjinanbccloeaaGreatDoorE06
import Derived.Test.YtkjinanbccloeaaGreatDoorE08
import Derived.Test.YtkjinanbccloeaaGreatDoorE07
set_option linter.unusedVariables false
set_option maxHeartbeats 8000000
set_option maxRecDepth 100000
namespace Go.Proofs.YtkjinanbccloeaaGreatDoor
section
open Go.RowKit D
theorem uI (a:A) (c0 c1:Value) (bs:List Nat) (w:World) (h:aJ w [c0,c1] a bs):
  Calls Tryz.prog 200 #[.agg #[c0,c1]] w fun e w'=>e=.returned (.bool (aZ a))∧Below w.heap.size w w':=by
 obtain ⟨s,a1,U,ht⟩:=h;simp only [List.cons.injEq,and_true] at a1;obtain ⟨rfl,rfl⟩:=a1;obtain ⟨Ad,cap,rfl,hl,hm⟩:=aj ht;have a5:=ay (τ hl hm);clear hm;have hn:=fun w=>Cc a.name w U
 unfold aZ;obtain ⟨nm,y⟩:=a;dsimp only at *;generalize jc nm=b at *
 go_enter Tryz.func200,Tryz.ntmps200
 go_wp2
 go_loopw [3] (fun i wr=>∃ k:Nat,k≤y.length∧i=.int .i64 k∧(y.take k).all jv=true∧Below w.heap.size w wr∧wr.cell? ⟨w.heap.size,0,none⟩=some (.string nm)∧wr.cell? ⟨w.heap.size,1,none⟩=some (.slice Ad y.length cap)∧w.heap.size < wr.heap.size) (fun i _=>y.length - (intOf i).toNat)
 case atStart=>exact ⟨0,ε,rfl,rfl,ζ,by simp,by simp,by simp⟩
 case round=>
  obtain ⟨k,hk,rfl,J,hb,a2,a3,a6⟩:=hrel;have HA:=η J;clear J;by_cases a0:k < y.length
  ·have hw:=aQ.below ht hb
   obtain ⟨b0,o,rfl,_,d0,d1,U⟩:=fJ hw a0;have HT:=η ht;clear ht hw
   go_wp2_with (go_at_call 261; refine (O0 _ _ U).mono ?_; rintro e w' ⟨rfl,I⟩)
   ·have hx:(!jv y[k])=true:=by assumption
    go_ret;exact ⟨aH (by rw [vI y k a0 (by simpa using hx)]; simp),hb.trans (I.mono (by omega))⟩
   ·have hx:(!jv y[k])=false:=by assumption
    go_roundw
    case rel=>exact ⟨k+1,by omega,by go_num,by rw [jw y k a0,HA.out]; simpa using hx,hb.trans (I.mono (by omega)),ξ I a2,ξ I a3,by have:=I.size; omega⟩
    case measure=>simp [intOf]; omega
  ·have he:k=y.length:=by omega
   subst he;have ha:y.all jv=true:=by have:=HA.out; rwa [ϕ ν] at this
   have a4:=η ha;clear ha;cases b
   all_goals
    go_wp2_with (go_at_call 262; refine (hn _).mono ?_; rintro e w3 ⟨rfl,rfl⟩)
    go_ret;exact ⟨aH (by rw [a4.out]; first | (simp; done) | (rw [Bool.eq_iff_iff]; simp; omega)),hb⟩
theorem uJ (a:A) (c0 c1:Value) (bs:List Nat) (w:World) (h:aJ w [c0,c1] a bs):
  Calls Tryz.prog 127 #[.agg #[c0,c1]] w fun e w'=>e=.returned (.bool (aZ a))∧Below w.heap.size w w':=by
 obtain ⟨s,a0,J,ht⟩:=h;simp only [List.cons.injEq,and_true] at a0;obtain ⟨rfl,rfl⟩:=a0;obtain ⟨Ad,cap,rfl,hl,hm⟩:=aj ht;have a3:=ay (τ hl hm);clear hm;have hn:=fun w=>Ce a.name w J
 unfold aZ;obtain ⟨nm,y⟩:=a;dsimp only at *;generalize jc nm=b at *;by_cases h3:y.length≤3
 all_goals cases b
 case pos.true=>
  go_enter Tryz.func127,Tryz.ntmps127
  go_wp2_with (go_at_call 183; refine (hn _).mono ?_; rintro e w3 ⟨rfl,rfl⟩)
  go_loopw [18] (fun i wr=>∃ k:Nat,k≤y.length∧i=.int .i64 k∧(y.take k).all jv=true∧Below w.heap.size w wr) (fun i _=>y.length - (intOf i).toNat)
  case atStart=>exact ⟨0,ε,rfl,rfl,ζ⟩
  case round=>
   obtain ⟨k,hk,rfl,I,hb⟩:=hrel;have HA:=η I;clear I;by_cases U:k < y.length
   ·have hw:=aQ.below ht hb
    obtain ⟨b0,o,rfl,_,d0,d1,J⟩:=fJ hw U;have HT:=η ht;clear ht hw
    go_wp2_with (go_at_call 184; refine (OZ _ _ J).mono ?_; rintro e w' ⟨rfl,a1⟩)
    ·have hx:(!jv y[k])=true:=by assumption
     go_ret;exact ⟨aH (by rw [vI y k U (by simpa using hx)]; simp),(hb.alloc hb.size _).trans (a1.mono (by have:=hb.size; simp; omega))⟩
    ·have hx:(!jv y[k])=false:=by assumption
     go_roundw
     case rel=>exact ⟨k+1,by omega,by go_num,by rw [jw y k U,HA.out]; simpa using hx,(hb.alloc hb.size _).trans (a1.mono (by have:=hb.size; simp; omega))⟩
     case measure=>simp [intOf]; omega
   ·have he:k=y.length:=by omega
    subst he;have ha:y.all jv=true:=by have:=HA.out; rwa [ϕ ν] at this
    have a2:=η ha;clear ha;go_wp2;go_ret;exact ⟨aH (by rw [a2.out]; simp; omega),hb⟩
 all_goals
  go_enter Tryz.func127,Tryz.ntmps127
  go_wp2_with (go_at_call 183; refine (hn _).mono ?_; rintro e w3 ⟨rfl,rfl⟩)
  all_goals (go_ret; exact ⟨aH (by first | (simp; done) | (simp; omega)),ζ⟩)
theorem wM (y:List A) (v:Value) (bs:List Nat) (w:World) (h:aC w [v] y bs) (hn:y.length≤16777216) (ha:∀ a ∈ y,a.args.length≤16777216):
  Calls Tryz.prog 54 #[v] w (Makes aC y w.heap.size w):=by
 obtain ⟨Ad,cap,rfl,hl,hm⟩:=aj h;obtain ⟨i0,hi,a2,a3,a4⟩:=info_parts qK;clear hm;by_cases h0:y.length=0
 ·have hl:((y.length:Int) == 0)=true:=beq_iff_eq.2 (by omega)
  have hx:y = []:=List.length_eq_zero_iff.1 h0;have HX:=η hx;clear h h0 hx hi a2 a3 a4 ha
  go_enter Tryz.func54,Tryz.ntmps54
  go_wp2;go_ret;exact ⟨ϑ,_,[],rfl,by rw [HX.out]; exact dh _,New.nil _ _⟩
 ·have a8:((y.length:Int) == 0)=false:=beq_eq_false_iff_ne.2 (by omega)
  go_enter Tryz.func54,Tryz.ntmps54
  go_wp2_with (at_make; refine wpList_make_full _ rfl _ _ _ rfl w.heap.size 33 i0 _ 2 Tryz.underlying24 hi a2 a3 _ _ _ _ y.length rfl rfl rfl rfl (by rw [a4]; omega) (by unfold maxLen; omega) ν ?_; intro w1 I J)
  have a5:Below w.heap.size w w1:=ϑ.grown J ν (fun _ e=>by cases e);have a9:w.heap.size < w1.heap.size:=(I.lt _ rfl).2;clear J a8
  go_loopw [14] (fun i wr=>∃ (k:Nat) (L:List Value) (bs':List Nat),k≤y.length∧i=.int .i64 k∧wr.ownsRow w.heap.size 33 2 (.slice (some ⟨w.heap.size,0,none⟩) y.length y.length) y.length L∧
    lD 2 aJ w1.heap.size wr L y k bs'∧Below w.heap.size w wr∧w1.heap.size≤wr.heap.size) (fun i _=>y.length - (intOf i).toNat)
  case atStart=>exact ⟨0,_,_,ε,rfl,I,lD.start,a5,ν⟩
  case round=>
   obtain ⟨k,L,bs',hk,rfl,a0,hF,hb,aa⟩:=hrel;clear I a5;by_cases a6:k < y.length
   ·have hw:=au.below h hb
    obtain ⟨b,o,Ae,ce,bk,rfl,_,c0,c1,a7,_⟩:=dL hw a6;have ab:y[k].args.length≤16777216:=ha _ (δ _);have HK:=η hF;have ac:(0:Int)≤(k:Int):=by omega
    have ae:(k:Int) < (y.length:Int):=by omega
    clear h hw hF ha;have hL:=η a0.1;have hA:Below wr.heap.size wr (wr.alloc (.cells #[.string y[k].name,.slice Ae y[k].args.length ce] 33)):=ζ;have hc:=Jk y[k] _ _ bk _ (ak.below a7 hA) ab
    go_wp2_with fail
    refine hc.mono ?_;rintro e w' ⟨a1,af,b2,rfl,hR,hN⟩;obtain ⟨ag,am,rfl⟩:=wS hR;have hB:=hA.trans (a1.mono hA.size);have U:=own_below a0 hB;obtain ⟨⟨u0,ao⟩,aq⟩:=Ku U (j:=k * 2) (by omega);obtain ⟨⟨u1,ar⟩,av⟩:=Ku U (j:=k * 2+1) (by omega);obtain ⟨R1,R2,R3,R4⟩:=YW ak a0 HK.out a6 hb hB a9 ν aa hR (hN.mono hA.size);clear U a7 hR hN hc;go_wp2;go_roundw
    case rel=>exact ⟨k+1,_,_,by omega,by go_num,R1,R2,R3,R4⟩
    case measure=>simp [intOf]; omega
   ·have he:k=y.length:=by omega
    subst he;have HF:=η hF;clear hF;go_wp2;go_ret;obtain ⟨b2,r1,r2,r3,r4⟩:=HF.out.slice a0 (fun hm=>by have:=(HF.out.new.own _ hm).1; omega);refine ⟨hb,_,b2,rfl,r1,r2,fun b a1=>⟨?_,r4 b a1⟩⟩
    rcases r3 b a1 with ⟨rfl,h⟩ | h
    ·exact h
    ·have:=(HF.out.new.own b h).1; omega
end
section
open Go.RowKit D
attribute [local go_sem ↓] Go.wp_at_zero Go.wp_at_succ
theorem AZ (xs:List A) (a:A) (v U d1:Value) (bs b2:List Nat) (w:World) (h:aC w [v] xs bs) (I:aJ w [U,d1] a b2) (hs:gm xs=true):
  Calls Tryz.prog 141 #[v,.agg #[U,d1]] w fun e w'=>e=.returned (.bool (hasB xs a))∧Below w.heap.size w w':=by
 obtain ⟨Ad,cap,rfl,hl,hm⟩:=aj h;obtain ⟨Aa,ca,rfl,rfl⟩:=bG I;have y:Below w.heap.size w (w.alloc (.cells #[.string a.name,.slice Aa a.args.length ca] 33)):=ζ;have hk:=yE xs a _ _ _ bs b2 _ (au.below h y) (ak.below I y) hs;clear h I hm
 go_enter Tryz.func141,Tryz.ntmps141
 go_wp2_with fail
 refine hk.mono ?_;rintro e w1 ⟨rfl,J⟩;go_wp2;go_ret;exact ⟨rfl,y.trans (J.mono y.size)⟩
theorem EJ (y:List A) (v:Value) (bs:List Nat) (w:World) (h:aC w [v] y bs) (hn:y.length≤100000000000) (ha:∀ a ∈ y,a.args.length≤16777216):
  Calls Tryz.prog 108 #[v] w fun e w'=>Below w.heap.size w w'∧∃ v bs,e=.returned v∧aC w' [v] y bs∧∀ c ∈ bs,w.heap.size≤c:=by
 obtain ⟨Ad,cap,rfl,hl,hm⟩:=aj h;obtain ⟨i0,hi,ag,am,ao⟩:=info_parts qK;clear hm;have hA:Below w.heap.size w (w.alloc (.cells #[] 33)):=ζ;have a6:=aX.empty (n:=2) (R:=aJ) (e:=33) (ω w (.cells #[] 33)) (Nat.le_refl w.heap.size)
 go_enter Tryz.func108,Tryz.ntmps108
 go_wp2
 go_loopw [3,4] (fun v i wr=>∃ (k:Nat) (A:Option Addr) (cp:Nat) (L:List Value) (b2:List Nat),k≤y.length∧i=.int .i64 k∧v=.slice A k cp∧aX 2 aJ w.heap.size 33 wr (.slice A k cp) L (y.take k) b2∧Hid (∀ c ∈ b2,w.heap.size≤c)∧Below w.heap.size w wr) (fun _ i _=>y.length - (intOf i).toNat)
 case atStart=>exact ⟨0,_,_,_,_,ε,rfl,rfl,a6,η (fun c hc=>by cases hc),hA⟩
 case round=>
  obtain ⟨k,A,cp,L,b2,hk,rfl,rfl,hC,a7,hb⟩:=hrel;clear a6 hA;by_cases a3:k < y.length
  ·have a8:=η a3
   obtain ⟨b,o,Ae,ce,bk,rfl,_,c0,c1,a9,_⟩:=dL (au.below h hb) a3;have aq:y[k].args.length≤16777216:=ha _ (δ _);have aL:(0:Int)≤(k:Int):=by omega
   have aM:(k:Int) < (y.length:Int):=by omega
   have HT:Hid (y.take (k+1)=y.take k ++ [y[k]]):=η (ρ a3);have hc:=Ez y[k] _ _ bk _ a9 aq;have HC:=η hC;clear h ha hC
   go_wp2_with fail
   refine hc.mono ?_;rintro e w1 ⟨aa,aR,b3,rfl,hR,hN⟩;obtain ⟨J,U,rfl⟩:=wS hR;clear a9 hc;have hlen:(y.take k).length=k:=by rw [List.length_take]; omega
   have a4:Below wr.heap.size wr (w1.alloc (.cells #[.string y[k].name,.slice J y[k].args.length U] 33)):=aa.alloc aa.size _;have ar:Below w1.heap.size w1 (w1.alloc (.cells #[.string y[k].name,.slice J y[k].args.length U] 33)):=ζ;have a5:=HC.out.below ak a4;have ab:=ak.below hR ar;have hL:Lies (w1.alloc (.cells #[.string y[k].name,.slice J y[k].args.length U] 33)) (some ⟨w1.heap.size,0,none⟩) [.string y[k].name,.slice J y[k].args.length U]:=aP (ω w1 _);have av:=η a5;have ac:Hid ((w1.alloc (.cells #[.string y[k].name,.slice J y[k].args.length U] 33)).ownsRow w.heap.size 33 2 (.slice A k cp) k L):=η (by have:=a5.own; rw [hlen] at this; exact this);have HL:=η hL;have aw:=η ab;have ae:=a4.size;clear a5 hL ab hlen
   go_wp2_with (at_builtin; refine wW rfl _ _ _ rfl w.heap.size 33 i0 (.agg #[.string ⟨#[]⟩,.slice none 0 0]) 2 40 Tryz.underlying24 hi ag am ao rfl (by omega) (.slice A k cp) k L rfl ac.out (some ⟨w1.heap.size,0,none⟩) 1 1 [.string y[k].name,.slice J y[k].args.length U] rfl rfl HL.out (by simp [Value.oneCell']) (by unfold maxLen; omega) (by omega) (τ hb.size ae) ?_; intro A2 az w2 a0 I a1)
   have hlen:(y.take k).length=k:=by rw [List.length_take]; omega
   have a2:∀ b ∈ b3,(Value.slice A k cp).ownBlock ≠ some b:=fun b aD=>jk HC.out.own (hN.own b aD).1
   have C3:=av.out.app ak (aT.dJ eH aw.out) a2 (by rw [hlen]; exact a0) I a1;have B3:=iQ (hb.trans (a4.mono hb.size)) ac.out ν (τ hb.size ae) I;have aE:Hid (∀ c ∈ b2 ++ b3,w.heap.size≤c):=η fun c hc=>(μ.1 hc).elim (a7.out c) fun h=>τ hb.size (hN.own c h).1
   clear a0 I a1 a2 hlen hR hN;have H3:=η C3;clear C3;go_wp2;go_roundw
   case rel=>exact ⟨k+1,A2,az,_,_,a8.out,by go_num,rfl,by rw [HT.out]; exact H3.out,aE,B3⟩
   case measure=>have:=a8.out; simp [intOf]; omega
  ·have he:k=y.length:=by omega
   subst he;rw [ϕ ν] at hC;obtain ⟨b3,hs,af⟩:=hC.slice;have HS:=η (ι hs fun c hc=>(af c hc).elim id (a7.out c));clear hC hs af;go_wp2;go_ret;exact ⟨hb,_,b3,rfl,HS.out⟩
theorem Ph (y:List A) (v:Value) (bs:List Nat) (w:World) (h:aC w [v] y bs) (hn:y.length≤16777216) (ha:∀ a ∈ y,a.args.length≤16777216):
  Calls Tryz.prog 108 #[v] w (Reads aC y w.heap.size w):=
 (EJ y v bs w h (by omega) ha).mono fun e w' ⟨h1,I,bs',J,U,_⟩=>⟨h1,I,bs',J,U⟩
theorem RJ:(Tryz.prog.info? 33).map (fun i=>(i.zero,i.size,i.bytes))=some (some (.agg #[.string ⟨#[]⟩,.slice none 0 0]),2,40):=by kernel_rfl
structure D.CW (w:World) (v:Value) (L:List Value) (xs:List A) (wr:World):Prop where
 coll:∃ bs,aX 2 aJ w.heap.size 33 wr v L xs bs
 bel:Below w.heap.size w wr
theorem D.CW.below {w wr w':World} {v:Value} {L:List Value} {xs:List A} (h:CW w v L xs wr) (hb:Below wr.heap.size wr w'):CW w v L xs w':=
 ⟨by obtain ⟨bs,hc⟩:=h.coll; exact ⟨bs,hc.below ak hb⟩,h.bel.trans (hb.mono h.bel.size)⟩
theorem CX (rs:List Ru) (v:Value) (bs:List Nat) (w:World) (h:dW w [v] rs bs) (hn:(aB rs).length≤1000000):
  Calls Tryz.prog 169 #[v] w fun e w'=>Below w.heap.size w w'∧∃ v' b2,e=.returned v'∧aC w' [v'] (aB rs) b2:=by
 obtain ⟨Ad,cap,rfl,hl,hm⟩:=aj h;have b5:=ay (τ hl hm);obtain ⟨i0,hi,a9,aa,ab⟩:=info_parts RJ
 have HN:Hid (∀ k,(aB (rs.take k)).length≤1000000):=η fun k=>by
  have h1:aB rs=aB (rs.take k) ++ aB (rs.drop k):=by unfold aB; rw [← List.flatMap_append,List.take_append_drop]
  rw [h1,χ] at hn; omega
 have ac:Hid (CW w (.slice (some ⟨w.heap.size,0,none⟩) 0 0) [] [] (w.alloc (.cells #[] 33))):=η ⟨⟨[],aX.empty (ω _ _) ν⟩,ζ⟩;clear hl hm hn
 go_enter Tryz.func169,Tryz.ntmps169
 go_wp2;generalize w.alloc (.cells #[] 33)=w0 at *
 go_loopw [3,4] (fun v i wr=>∃ (k:Nat) (Av:Option Addr) (cp:Nat) (L:List Value) (xs:List A),k≤rs.length∧i=.int .i64 k∧v=.slice Av xs.length cp∧xs=aB (rs.take k)∧CW w (.slice Av xs.length cp) L xs wr) (fun _ i _=>rs.length - (intOf i).toNat)
 case atStart=>exact ⟨0,_,0,[],[],ε,rfl,rfl,rfl,ac.out⟩
 case round=>
  obtain ⟨k,Av,cp,L,xs,hk,rfl,rfl,a5,I⟩:=hrel;clear ac;have HX:=η a5;have a6:Hid (xs.length≤1000000):=η (by rw [a5]; exact HN.out k);clear a5;by_cases J:k < rs.length
  ·obtain ⟨b,o,Ae,ce,Af,cf,bk,rfl,_,d0,d1,d2,a1,_⟩:=iI h J
   have e2:=ξ I.bel d2;replace d0:=ξ I.bel d0;replace d1:=ξ I.bel d1;have D2:=η d2;have b6:(0:Int)≤(k:Int):=by omega
   have aD:(k:Int) < (rs.length:Int):=by omega
   have ae:Hid ((aB (rs.take k) ++ [rs[k].head] ++ fZ rs[k].body).length≤1000000):=η (by rw [← qw rs k J]; exact HN.out (k+1));obtain ⟨b1,b2,_,a0,af⟩:=iW a1;have aE:=η af;have b7:(rs[k].body.length:Int)≤1000000:=by have:=ae.out; rw [χ,nG] at this; omega
   have hA:Below wr.heap.size wr (wr.alloc (.cells #[.string rs[k].head.name,.slice Ae rs[k].head.args.length ce] 33)):=ζ;obtain ⟨ag,U⟩:=(I.below hA).coll;have HC:=η U;have HB:=η (I.below hA).bel;have HR:Hid (aT 2 aJ (wr.alloc (.cells #[.string rs[k].head.name,.slice Ae rs[k].head.args.length ce] 33)) [.string rs[k].head.name,.slice Ae rs[k].head.args.length ce] [rs[k].head] b1):=η (aT.dJ eH (ak.below (ak.below a0 I.bel) hA));have HL:Hid (Lies (wr.alloc (.cells #[.string rs[k].head.name,.slice Ae rs[k].head.args.length ce] 33)) (some ⟨wr.heap.size,0,none⟩) [.string rs[k].head.name,.slice Ae rs[k].head.args.length ce]):=η (aP (ω wr (.cells #[.string rs[k].head.name,.slice Ae rs[k].head.args.length ce] 33)));have HF:Hid (∀ c ∈ b1,(Value.slice Av xs.length cp).ownBlock ≠ some c):=η fun c hc=>aO U.own (ak.lt a0 c hc)
   have am:=η J;have aL:=η (qw rs k J);clear h a1 a0 af I hA U d2;generalize rs[k]=r at *;clear J;obtain ⟨⟨nm,args⟩,body⟩:=r;dsimp only at *
   go_wp2_with (at_builtin; refine bU rfl _ _ _ rfl w.heap.size 33 i0 (.agg #[.string ⟨#[]⟩,.slice none 0 0]) 2 40 Tryz.underlying24 hi a9 aa ab rfl (by omega) ak (.slice Av xs.length cp) xs.length _ _ _ rfl HC.out rfl (some ⟨wr.heap.size,0,none⟩) 1 1 _ [⟨nm,args⟩] _ rfl HR.out rfl HL.out HF.out (by have:=a6.out; unfold maxLen; omega) (by have:=a6.out; omega) w w.heap.size HB.out ν HB.out.size ?_; intro A2 a4 w2 a2 a3 a7 _)
   have ao:Hid (CW w (.slice A2 (xs ++ [(⟨nm,args⟩:A)]).length a4) (L ++ [.string nm,.slice Ae args.length ce]) (xs ++ [(⟨nm,args⟩:A)]) w2):=η ⟨⟨_,by rw [χ]; exact a2⟩,a3⟩;have aq:Hid (xs ++ [(⟨nm,args⟩:A)]=aB (rs.take k) ++ [(⟨nm,args⟩:A)]):=η (by rw [HX.out]);have ar:xs.length+1=(xs ++ [(⟨nm,args⟩:A)]).length:=by simp
   rw [ar];clear a2 a3 a7 HC HB HR HL HF d0 d1 HX ar e2;generalize xs ++ [(⟨nm,args⟩:A)]=ys at *;generalize L ++ [.string nm,.slice Ae args.length ce]=M at *;clear a6;go_wp2
   go_loopw [3,5] (fun v i wr=>∃ (j:Nat) (Av:Option Addr) (cp:Nat) (M:List Value) (zs:List A),j≤body.length∧i=.int .i64 j∧v=.slice Av zs.length cp∧zs=ys ++ fZ (body.take j)∧CW w (.slice Av zs.length cp) M zs wr) (fun _ i _=>body.length - (intOf i).toNat)
   case atStart=>exact ⟨0,_,_,_,ys,ε,rfl,rfl,by simp [fZ],ao.out⟩
   case round=>
    obtain ⟨j,Aw,cq,M2,zs,hj,rfl,rfl,a8,I⟩:=hrel;clear ao;have HZ:=η a8
    have av:Hid (zs.length+1≤1000001):=η (by
     have h1:=ae.out;rw [← aq.out,χ,nG] at h1
     rw [a8,χ,nG,List.length_take]; omega)
    clear a8;have e2:=ξ I.bel D2.out;by_cases J:j < body.length
    ·obtain ⟨b4,o4,Ag,cg,bg,rfl,_,f0,f1,f2,a1,_⟩:=iV aE.out J
     replace f0:=ξ I.bel f0;replace f1:=ξ I.bel f1;replace f2:=ξ I.bel f2;have b8:(0:Int)≤(j:Int):=by omega
     have aM:(j:Int) < (body.length:Int):=by omega
     have a0:=jD a1;have hA:Below wr.heap.size wr (wr.alloc (.cells #[.string body[j].atom.name,.slice Ag body[j].atom.args.length cg] 33)):=ζ;obtain ⟨ag,U⟩:=(I.below hA).coll;have HC:=η U;have HB:=η (I.below hA).bel;have HR:Hid (aT 2 aJ (wr.alloc (.cells #[.string body[j].atom.name,.slice Ag body[j].atom.args.length cg] 33)) [.string body[j].atom.name,.slice Ag body[j].atom.args.length cg] [body[j].atom] bg):=η (aT.dJ eH (ak.below (ak.below a0 I.bel) hA));have HL:Hid (Lies (wr.alloc (.cells #[.string body[j].atom.name,.slice Ag body[j].atom.args.length cg] 33)) (some ⟨wr.heap.size,0,none⟩) [.string body[j].atom.name,.slice Ag body[j].atom.args.length cg]):=η (aP (ω wr (.cells #[.string body[j].atom.name,.slice Ag body[j].atom.args.length cg] 33)));have HF:Hid (∀ c ∈ bg,(Value.slice Aw zs.length cq).ownBlock ≠ some c):=η fun c hc=>aO U.own (ak.lt a0 c hc)
     have aw:=η J;have aR:=η (uH body j J);clear a1 a0 I hA U;generalize body[j]=p at *;clear J;obtain ⟨no,⟨pn,y⟩⟩:=p;dsimp only at *
     go_wp2_with (at_builtin; refine bU rfl _ _ _ rfl w.heap.size 33 i0 (.agg #[.string ⟨#[]⟩,.slice none 0 0]) 2 40 Tryz.underlying24 hi a9 aa ab rfl (by omega) ak (.slice Aw zs.length cq) zs.length _ _ _ rfl HC.out rfl (some ⟨wr.heap.size,0,none⟩) 1 1 _ [⟨pn,y⟩] _ rfl HR.out rfl HL.out HF.out (by have:=av.out; unfold maxLen; omega) (by have:=av.out; omega) w w.heap.size HB.out ν HB.out.size ?_; intro A2 a4 w2 a2 a3 a7 _)
     have b3:Hid (CW w (.slice A2 (zs ++ [(⟨pn,y⟩:A)]).length a4) (M2 ++ [.string pn,.slice Ag y.length cg]) (zs ++ [(⟨pn,y⟩:A)]) w2):=η ⟨⟨_,by rw [χ]; exact a2⟩,a3⟩;clear a2 a3 a7 HC HB HR HL HF f0 f1 f2 e2;go_wp2;go_roundw
     case rel=>exact ⟨j+1,A2,a4,_,zs ++ [(⟨pn,y⟩:A)],aw.out,by go_num,by simp,by rw [aR.out,HZ.out,List.append_assoc],b3.out⟩
     case measure=>have:=aw.out; simp [intOf]; omega
    ·have he:j=body.length:=by omega
     have aM:¬ (j:Int) < (body.length:Int):=by omega
     have HE:Hid (zs=aB (rs.take (k+1))):=η (by rw [aL.out,HZ.out,aq.out,he,ϕ ν]);have HV:=η I;clear I he;go_wp2;go_roundw
     case rel=>exact ⟨k+1,Aw,cq,M2,zs,am.out,by go_num,rfl,HE.out,HV.out⟩
     case measure=>have:=am.out; simp [intOf]; omega
  ·have he:k=rs.length:=by omega
   have aD:¬ (k:Int) < (rs.length:Int):=by omega
   obtain ⟨ag,U⟩:=I.coll;obtain ⟨b2,az,_⟩:=U.slice;have hx:xs=aB rs:=by rw [HX.out,he,ϕ ν]
   have HZ:Hid (Below w.heap.size w wr∧∃ b2,aC wr [.slice Av xs.length cp] (aB rs) b2):=η ⟨I.bel,b2,by rw [← hx]; exact az⟩;clear h I he hx az U HX;go_wp2;go_ret;obtain ⟨q1,q2,q3⟩:=HZ.out;exact ⟨q1,_,rfl,q2,q3⟩
theorem iH (y:Option Addr) (n cap:Nat) (w:World):
  Calls Tryz.prog 66 #[.slice y n cap] w fun e w'=>e=.returned (.agg #[.slice y n cap,.func (.func 64) #[] #[]])∧Below w.heap.size w w':=by
 go_enter Tryz.func66,Tryz.ntmps66
 go_wp2;exact bodyPost_ret (v:=.agg #[.slice y n cap,.func (.func 64) #[] #[]]) (by simp [results,Tryz.results66,go_sem]) rfl ⟨rfl,by repeat (first | exact ϑ | (refine Below.setCell ?_ (by first | (simp; done) | (simp; omega)) _) | (refine Below.alloc ?_ (by first | (simp; done) | (simp; omega)) _))⟩
theorem LP (xs:List A) (v:Value) (bs:List Nat) (w:World) (h:aC w [v] xs bs):
  Calls Tryz.prog 67 #[.agg #[v,.func (.func 64) #[] #[]]] w fun e w'=>e=.returned (.bool (gm xs))∧Below w.heap.size w w':=by
 obtain ⟨Ad,cap,rfl,hl,hm⟩:=aj h;have a7:=ay (τ hl hm);clear hm;have a0:Below w.heap.size w (w.alloc (.cells #[.slice Ad xs.length cap,.func (.func 64) #[] #[]] 112)):=ζ
 go_enter Tryz.func67,Tryz.ntmps67
 go_wp2
 go_loopw [3] (fun i wr=>∃ k:Nat,0 < k∧(k≤xs.length∨k=1)∧i=.int .i64 k∧Ee xs k∧Below w.heap.size w wr∧wr.cell? ⟨w.heap.size,0,none⟩=some (.slice Ad xs.length cap)∧wr.cell? ⟨w.heap.size,1,none⟩=some (.func (.func 64) #[] #[])∧w.heap.size < wr.heap.size) (fun i _=>xs.length+1 - (intOf i).toNat)
 case atStart=>exact ⟨1,Nat.one_pos,.inr rfl,rfl,QX _,a0,by go_simp,by go_simp,by simp⟩
 case round=>
  obtain ⟨k,a8,hk,rfl,J,hb,s0,s1,a4⟩:=hrel;have HA:=η J;have HK:=η hk;clear J a0 hk;by_cases U:k < xs.length
  ·have a9:(0:Int)≤(k:Int):=by omega
   have aa:(k:Int) < (xs.length:Int):=by omega
   obtain ⟨j,I⟩:∃ j,k=j+1:=⟨k - 1,by omega⟩;have a5:j < xs.length:=by omega
   have HS:Hid (bV xs[j] xs[k] < 0→Ee xs (k+1)):=by subst I; exact η (fun hc=>Oz (xs:=xs) (k:=j) HA.out U hc)
   have HB:Hid (¬ bV xs[j] xs[k] < 0→gm xs=false):=by subst I; exact η (fun hc=>Xb xs j U hc)
   have ab:IntKind.i64.wrap ((k:Int) - 1)=(j:Int):=(IntWalk.i64_in _ ⟨by omega,by omega⟩).trans (by omega);have hK:=η I;have ac:(0:Int)≤(j:Int):=by omega
   have ae:(j:Int) < (xs.length:Int):=by omega
   clear HA I;obtain ⟨b,o,Ae,ce,bk,Af,cf,bm,rfl,c0,c1,a1,d0,d1,a2⟩:=GX (au.below h hb) a5 U;have hD:Below wr.heap.size wr wr.drew:=Below.drew ϑ;have a3:=wK xs[j] xs[k] _ _ _ _ bk bm wr.drew (ak.below a1 hD) (ak.below a2 hD);clear h a1 a2;by_cases hc:bV xs[j] xs[k] < 0
   ·have a6:¬ 0≤bV xs[j] xs[k]:=by omega
    have HC:=η (HS.out hc);clear hc;go_wp2
    go_region_held3 (fun w'=>w'.cell? ⟨b,o+j * 2,none⟩=some (.string xs[j].name)∧w'.cell? ⟨b,o+j * 2+1,none⟩=some (.slice Ae xs[j].args.length ce)∧w'.cell? ⟨b,o+k * 2,none⟩=some (.string xs[k].name)∧w'.cell? ⟨b,o+k * 2+1,none⟩=some (.slice Af xs[k].args.length cf)∧w'.cell? ⟨w.heap.size,0,none⟩=some (.slice (some ⟨b,o,none⟩) xs.length cap)∧w'.cell? ⟨w.heap.size,1,none⟩=some (.func (.func 64) #[] #[]))
     (first | go_keep | exact ⟨y0,y1,y2,y3,y4,y5⟩)
     (first
      | (go_at_call 64; refine a3.mono ?_; rintro e w2 ⟨rfl,y⟩; have y0:=ξ y c0; have y1:=ξ y c1; have y2:=ξ y d0; have y3:=ξ y d1; have y4:=ξ y s0; have y5:=ξ y s1; have B2:=hD.trans y))
    go_wp2;go_roundw
    case rel=>exact ⟨k+1,Nat.succ_pos _,.inl (by omega),by go_num,HC.out,hb.trans (B2.mono hb.size),y4,y5,κ a4 B2.size⟩
    case measure=>simp [intOf]; omega
   ·have a6:0≤bV xs[j] xs[k]:=by omega
    have HC:=η (HB.out hc);clear hc;go_wp2
    go_region_held3 (fun w'=>w'.cell? ⟨b,o+j * 2,none⟩=some (.string xs[j].name)∧w'.cell? ⟨b,o+j * 2+1,none⟩=some (.slice Ae xs[j].args.length ce)∧w'.cell? ⟨b,o+k * 2,none⟩=some (.string xs[k].name)∧w'.cell? ⟨b,o+k * 2+1,none⟩=some (.slice Af xs[k].args.length cf)∧w'.cell? ⟨w.heap.size,0,none⟩=some (.slice (some ⟨b,o,none⟩) xs.length cap)∧w'.cell? ⟨w.heap.size,1,none⟩=some (.func (.func 64) #[] #[]))
     (first | go_keep | exact ⟨y0,y1,y2,y3,y4,y5⟩)
     (first
      | (go_at_call 64; refine a3.mono ?_; rintro e w2 ⟨rfl,y⟩; have y0:=ξ y c0; have y1:=ξ y c1; have y2:=ξ y d0; have y3:=ξ y d1; have y4:=ξ y s0; have y5:=ξ y s1; have B2:=hD.trans y))
    go_wp2;go_ret;exact ⟨aH HC.out.symm,hb.trans (B2.mono hb.size)⟩
  ·have HE:Hid (gm xs=true):=η (Xd fun j hj af=>HA.out j hj (by have:=HK.out; omega))
   go_wp2;go_ret;exact ⟨aH HE.out.symm,hb⟩
structure D.Grew (w w':World):Prop where
 bel:Below w.heap.size w w'
 dr:w.drawn≤w'.drawn
theorem D.Grew.refl (w:World):Grew w w:=⟨ϑ,ν⟩
theorem D.Grew.trans {a b c:World} (h:Grew a b) (k:Grew b c):Grew a c:=⟨h.bel.trans (k.bel.mono h.bel.size),τ h.dr k.dr⟩
theorem D.Grew.alloc {w w':World} (h:Grew w w') (o:Obj):Grew w (w'.alloc o):=⟨h.bel.alloc h.bel.size _,h.dr⟩
theorem D.Grew.is {w w':World} (h:Grew w w'):∃ q y,w'=Go.Sort.grow (w.drewN q) y:=by
 refine ⟨w'.drawn - w.drawn,w'.heap.extract w.heap.size w'.heap.size,?_⟩;have U:=h.bel.os;have e2:=h.bel.tape;have e3:=h.bel.output;have e4:w'.drawn=w.drawn+(w'.drawn - w.drawn):=by have:=h.dr; omega
 have e5:w'.heap=w.heap ++ w'.heap.extract w.heap.size w'.heap.size:=by
  have hs:=h.bel.size;apply Array.ext
  ·simp; omega
  ·intro i h1 h2
   by_cases I:i < w.heap.size
   ·rw [Array.getElem_append_left I]
    have:=h.bel.block i I;rw [Array.getElem?_eq_getElem h1,Array.getElem?_eq_getElem I] at this;exact Option.some.inj this
   ·rw [Array.getElem_append_right (by omega)]
    simp
    congr 1
    omega
 obtain ⟨hp,tp,dn,os,out⟩:=w;obtain ⟨a0,a1,a2,y,J⟩:=w';simp only [Go.Sort.grow,World.drewN] at *;subst U e2 e3;rw [← e4,← e5]
theorem LQ (t u:T) (w:World):
  Calls Tryz.prog 126 #[.agg #[.bool t.var,.string t.name],.agg #[.bool u.var,.string u.name]] w fun e w'=>e=.returned (.int .i64 (gJ t.name u.name))∧Grew w w':=by
 go_enter Tryz.func126,Tryz.ntmps126
 go_wp2_with (go_at_call 124; refine (lN _ _ _).mono ?_; rintro e w' ⟨rfl,rfl⟩)
 go_ret;exact ⟨rfl,((Grew.refl _).alloc _).alloc _⟩
theorem Ba (I us:List T) (v1 v2:Value) (b1 b2:List Nat) (w:World) (h1:gG w [v1] I b1) (h2:gG w [v2] us b2):
  Calls Tryz.prog 125 #[v1,v2,.func (.func 126) #[] #[]] w
   fun e w'=>e=.returned (.int .i64 (lY I us))∧Grew w w':=by
 obtain ⟨Ad,cap,rfl,hl,hm⟩:=aj h1;obtain ⟨a5,cap2,rfl,a1,a0⟩:=aj h2;have a6:=ay (τ hl hm);have a4:=ay (τ a1 a0);clear hm a0
 go_enter Tryz.func125,Tryz.ntmps125
 go_wp2
 go_loopw [13] (fun i wr=>∃ k:Nat,k≤I.length∧k≤us.length∧i=.int .i64 k∧lY I us=lY (I.drop k) (us.drop k)∧Grew w wr) (fun i _=>I.length - (intOf i).toNat)
 case atStart=>exact ⟨0,ε,ε,rfl,rfl,Grew.refl _⟩
 case round=>
  obtain ⟨k,hk,a7,rfl,hc,hb⟩:=hrel;have HC:=η hc;clear hc;by_cases U:k < I.length
  ·obtain ⟨b,o,rfl,_,c0,c1,_⟩:=fJ (aQ.below h1 hb.bel) U
   have hA:Grew wr (wr.alloc (.cells #[.bool I[k].var,.string I[k].name] 91)):=(Grew.refl _).alloc _;by_cases y:k < us.length
   ·obtain ⟨b',o',rfl,_,d0,d1,_⟩:=fJ (aQ.below h2 (hb.trans hA).bel) y
    have J:=η (wY U y);clear h1 h2
    go_wp2_with fail
    refine (LQ I[k] us[k] _).mono ?_;rintro e w' ⟨rfl,a2⟩;have B':Grew w w':=((hb.alloc _).alloc _).trans a2;by_cases hz:gJ I[k].name us[k].name=0
    ·have a3:(gJ I[k].name us[k].name == 0)=true:=by simp [hz]
     have HZ:=η hz;clear hz hA;go_wp2;go_roundw
     case rel=>exact ⟨k+1,by omega,by omega,by go_num,by rw [HC.out,J.out,if_pos HZ.out],B'⟩
     case measure=>simp [intOf]; omega
    ·have a3:(gJ I[k].name us[k].name == 0)=false:=by simp [hz]
     have HZ:=η hz;clear hz hA;go_wp2;go_ret;exact ⟨fC (by rw [HC.out,J.out,if_neg HZ.out]),B'⟩
   ·clear h1 h2
    have J:=η (wZ U (Nat.le_of_not_lt y));go_wp2;go_ret;exact ⟨fC (by rw [HC.out,J.out]),hb.trans hA⟩
  ·have he:I.length≤k:=by omega
   by_cases y:k < us.length
   ·have J:=η (xg he y)
    have hx:I.length < us.length:=by omega
    go_wp2;go_ret;exact ⟨fC (by rw [HC.out,J.out]),hb⟩
   ·have J:=η (xk he (Nat.le_of_not_lt y))
    have hx:¬ I.length < us.length:=by omega
    go_wp2;go_ret;exact ⟨fC (by rw [HC.out,J.out]),hb⟩
theorem EK (a b:A) (c0 c1 d0 d1:Value) (b1 b2:List Nat) (w:World) (h1:aJ w [c0,c1] a b1) (J:aJ w [d0,d1] b b2):
  Calls Tryz.prog 64 #[.agg #[c0,c1],.agg #[d0,d1]] w fun e w'=>e=.returned (.int .i64 (bV a b))∧Grew w w':=by
 obtain ⟨Ad,cap,rfl,rfl⟩:=bG h1;obtain ⟨Ae,y,rfl,rfl⟩:=bG J;have hq:=fun w' (hb:Grew w w')=>Ba a.args b.args (.slice Ad a.args.length cap) (.slice Ae b.args.length y) b1 b2 w' (dM (ak.below h1 hb.bel)) (dM (ak.below J hb.bel))
 have hc:bV a b=if gJ a.name b.name=0 then lY a.args b.args else gJ a.name b.name:=rfl
 have HC:=η hc;clear h1 J hc;have U:=((Grew.refl w).alloc (.cells #[.string a.name,.slice Ad a.args.length cap] 33)).alloc (.cells #[.string b.name,.slice Ae b.args.length y] 33);by_cases I:gJ a.name b.name=0
 ·have a0:(gJ a.name b.name != 0)=false:=by simp [I]
  have HZ:=η I;clear I
  go_enter Tryz.func64,Tryz.ntmps64
  go_wp2_with (go_at_call 124; refine (lN _ _ _).mono ?_; rintro e w' ⟨rfl,rfl⟩)
  refine (hq _ U).mono ?_;rintro e w' ⟨rfl,a1⟩;go_wp2;go_ret;exact ⟨fC (by rw [HC.out,if_pos HZ.out]),U.trans a1⟩
 ·have a0:(gJ a.name b.name != 0)=true:=by simp [I]
  have HZ:=η I;clear I
  go_enter Tryz.func64,Tryz.ntmps64
  go_wp2_with (go_at_call 124; refine (lN _ _ _).mono ?_; rintro e w' ⟨rfl,rfl⟩)
  go_ret;exact ⟨fC (by rw [HC.out,if_neg HZ.out]),U⟩
theorem U6 (g p:Nat) (y:List ByteArray) (n b:Nat) (w:World) (h:kQ g p w) (hb:w.heap[b]? = some (.cells (y.map Value.string).toArray 9 (0,0))) (J:g ≠ b) (U:p≤1000000) (hn:y.length=n) (h1:1≤n) (h2:n≤100) (I:∀ s ∈ y,Sm s):
  Calls Tryz.prog 159 #[.pointer (some ⟨g,0,none⟩),.slice (some ⟨b,0,none⟩) n n] w (Word g p w):=by
 subst hn;refine (UD g p _ y _ _ h (wJ (cap:=y.length) hb ν (by unfold maxLen; omega) (fun s hm=>Sm.max (I s hm))) U h1 (by omega) (by split <;> simp <;> omega)).mono ?_;rintro e w' ⟨s,rfl,hm,hR,hG⟩;exact ⟨s,rfl,I s hm,hR,aI.dB hG⟩
theorem LU {k g p' p0 q I B:Nat} {w wr:World} {nm:ByteArray} {v:Value} {L:List Value} {xs:List T} {x y:Value} (J:wr.heap[I]? = some (.cells #[x,y] 33 (0,0))) (h0:w.heap.size≤I) (hC:aX 2 kD B 91 wr v L xs []) (hB:w.heap.size≤B)
  (hR:kQ g p' wr) (hK:aI [g] w wr) (hg:g < w.heap.size) (hn:Sm nm) (hx:xs.length≤k) (hp:p'≤p0+q):Lj k g p0 q w (.returned (.agg #[.string nm,v])) ((wr.setCell ⟨I,0,none⟩ (.string nm)).setCell ⟨I,1,none⟩ v):=by
 have U:Below w.heap.size wr ((wr.setCell ⟨I,0,none⟩ (.string nm)).setCell ⟨I,1,none⟩ v):=(ϑ.setCell h0 _).setCell h0 _;have b0:=qJ (u:=.string nm) J;have c1:=(hC.mono hB).l9 (o:=0) (u:=.string nm) bD (gV hC.own J (by decide)) (by simp);exact ⟨⟨nm,xs⟩,v,L,p',rfl,hn,hx,c1.l9 bD (gV c1.own b0 (by decide)) (by simp),hR.eP U hg,hp,hK.eP U ν⟩
theorem D.aI.blk {bs:List Nat} {w w':World} {b:Nat} {cs:Array Value} {t:TypeId} (h:aI bs w w') (hb:w.heap[b]? = some (.cells cs t (0,0))) (hn:b ∉ bs):w'.heap[b]? = some (.cells cs t (0,0)):=(h.block b (ψ hb) hn).trans hb
theorem Yr {g b:Nat} {W X y:World} {cs:Array Value} {t:TypeId} (I:W.grownBy y (some g)) (hb:X.heap[b]? = some (.cells cs t (0,0))) (J:g ≠ b):W=X.drew→y.heap[b]? = some (.cells cs t (0,0)):=by
 rintro rfl;exact (aI.dB I).blk hb (by simp; omega)
def LV (w:World) (b:Nat):Nat:=match w.cell? ⟨b,1,none⟩ with
 | some (.slice _ l _)=>l
 | _=>0
theorem LW {w:World} {b l c:Nat} {A:Option Addr} (h:w.cell? ⟨b,1,none⟩=some (.slice A l c)):LV w b=l:=by unfold LV; rw [h]
theorem jY.Xn {g p:Nat} {w:World} {I J:Nat} {nm:ByteArray} {v:Value} {L:List Value} {xs:List T} {wr:World} (h:jY g p w I J nm v L xs wr):∃ x y,wr.cell? ⟨I,0,none⟩=some x∧wr.cell? ⟨I,1,none⟩=some y:=by
 obtain ⟨x,y,hr⟩:=h.r0;exact ⟨x,y,ai hr,ai hr⟩
theorem jY.start {g p B:Nat} {w wr:World} {J:Nat} {nm:ByteArray} {v:Value} {L:List Value} {xs:List T} {x y:Value} (I:wr.heap[J]? = some (.cells #[x,y] 33 (0,0))) (h0:w.heap.size≤J) (hC:aX 2 kD B 91 wr v L xs []) (hB:w.heap.size≤B)
  (hR:kQ g p wr) (hK:aI [g] w wr) (hg:g < w.heap.size) (a0:∀ t ∈ xs,Sm t.name):jY g p w J wr.heap.size nm v L xs (wr.alloc (.cells #[.string nm,v] 33)):=by
 have U:Below wr.heap.size wr (wr.alloc (.cells #[.string nm,v] 33)):=ζ;have hl:=ψ I;exact ⟨⟨x,y,(U.block J hl).trans I⟩,ω wr _,h0,hK.size,by omega,(hC.mono hB).below bD U,hR.below U,hK.eP U hK.size,hg,a0⟩
theorem yJ (g p:Nat) (w:World) (h:kQ g p w) (hp:p≤800000):
  Calls Tryz.prog 139 #[.pointer (some ⟨g,0,none⟩)] w (Ll 4 g p 20 w):=by
 obtain ⟨i0,hi,ar,av,aw⟩:=info_parts Hw;have hA:Below w.heap.size w (w.alloc (.cells #[.string ⟨#[]⟩,.slice none 0 0] 33)):=ζ;have ho:=rY g p [⟨#[101]⟩,⟨#[112]⟩,⟨#[116]⟩,⟨#[113]⟩,⟨#[122]⟩,⟨#[104]⟩] 6 (w.alloc (.cells #[.string ⟨#[]⟩,.slice none 0 0] 33)) (h.below hA) (by omega) rfl (by decide) (by decide) (by decide);rw [World.size_alloc] at ho;have hg:=h.lt;have J:=η (ω w (.cells #[.string ⟨#[]⟩,.slice none 0 0] 33));have az:=η hp;clear h hp
 go_enter Tryz.func139,Tryz.ntmps139
 go_wp2_with fail
 refine ho.mono ?_;rintro e w1 ⟨s,rfl,hs,hR,hK⟩;replace J:=η (hK.blk J.out (by simp; omega));have HK:=η ((aI.of_below hA (bs:=[g])).trans hK);have aD:=oO s true g (p+1) w1 hR (by have:=az.out; omega) hs;clear ho hK hR hA
 go_wp2_with fail
 refine aD.mono ?_;rintro e w2 ⟨a,v,L,p',rfl,aE,hx,hC,aL,b9,ae,aM⟩;replace J:=η (ae.blk J.out (by simp; omega));have y:=η (jY.start (nm:=a.name) J.out ν hC HK.out.size aL (HK.out.trans ae) hg aM);have HP:Hid (p'≤p+7∧p≤800000):=η (by have:=az.out; omega);have HN:=η aE;have HX:=η hx;obtain ⟨Av,cv,rfl⟩:=dU hC.own;have aR:=pick_any g p' 16 _ y.out.rdr (by have:=HP.out; omega) (by omega) (by omega);clear aD hC aL ae aE hx b9 hs HK J aM
 go_wp2_with fail
 refine aR.mono ?_;rintro e w3 ⟨j,rfl,hj,b1,U⟩;replace y:=η (y.out.call b1 (aI.dB U));have bc:w2.heap.size < w3.heap.size:=lt_of_cell y.out.cell0;clear aR b1 U;by_cases bf:j=0
 ·subst bf
  have ho:=rY g (p'+1) [⟨#[]⟩,⟨#[110,111,116]⟩,⟨#[65]⟩,⟨#[97,98,99,100,101,102,103,104,105]⟩] 4 w3 y.out.rdr (by have:=HP.out; omega) rfl (by decide) (by decide) (by decide)
  go_wp2_with fail
  refine ho.mono ?_;rintro e w4 ⟨s4,rfl,b2,a0,b3⟩;replace y:=η (y.out.call a0 b3);have q0:=y.out.cell0;have q1:=y.out.cell1;have g0:=y.out.wE 0;have g1:=y.out.wE 1;replace y:=η (y.out.name s4);have bq:=y.out.cell1;have br:=y.out.cell0;have f0:=y.out.wL 0;have f1:=y.out.wL 1;have z0:=y.out.Xn;obtain ⟨zx,zy,z0,z1⟩:=z0;have HD:=η (y.out.done (k:=4) (q:=20) (p0:=p) b2 (by have:=HX.out; omega) (by have:=HP.out; omega));clear ho a0 b3 b2;go_wp2;refine bodyPost_ret (v:=.agg #[.string s4,.slice Av a.args.length cv]) (by simp [results,Tryz.results139,go_sem,z0,z1]) rfl HD.out
 ·have bn:((j:Int) == 0)=false:=beq_eq_false_iff_ne.2 (by omega)
  by_cases bg:j=1
  ·subst bg
   have a1:=y;have bt:=a1.out.cell0;have bu:=a1.out.cell1;replace y:=η y.out.drew;have q0:=y.out.cell0;have q1:=y.out.cell1;have q2:=y.out.wE 1;have bv:a.args.length≤3:=HX.out;have af:Hid (a.args.length+1≤maxLen):=η (by unfold maxLen; omega);have ag:Hid ((a.args.length+1) * 24≤140737488355328):=η (by omega);have b4:Hid (g ≠ w3.heap.size):=η (by have:=a1.out.kept.size; omega);have bh:=η (ω w3 (.cells #[.string ⟨#[]⟩,.string ⟨#[120]⟩,.string ⟨#[88]⟩,.string ⟨#[88,121,49]⟩,.string ⟨#[88,89]⟩,.string ⟨#[65,98,99,100,101,102,103,104]⟩,.string ⟨#[65,98,99,100,101,102,103,104,105]⟩] 9));go_wp2
   go_region_law
    (first
     | (have bw:=HT; refine aV (by rfl) (.tmp 20) (.tmp 28) _ (by rfl) w.heap.size 91 i0 (.agg #[.bool false,.string ⟨#[]⟩]) 2 24 Tryz.underlying31 hi ar av aw rfl (Θ 1) bD (.slice Av a.args.length cv) a.args.length L a.args [] (by rfl) (HT.out _).1 rfl (some ⟨w5.heap.size,0,none⟩) 1 1 _ [⟨_,s5⟩] _ (by rfl) (HT.out _).2.1 rfl (HT.out _).2.2.1 (fun b hb=>by simp at hb) af.out ag.out w5 w.heap.size (HT.out _).2.2.2.1 ν (HT.out _).2.2.2.2.1 ?_; intro A3 c3 w6 a5 a6 am U; have J:=η (y.out.app a5 a6 U (HT.out false).2.2.2.2.2); replace q0:=J.out.1; replace q1:=J.out.2.1; replace q2:=J.out.2.2.1; clear a5 a6 am U)
     | (go_simp; go_at_call 47; refine Calls.mono (pick_any g (p'+1) 2 _ (by first | with_reducible exact y.out.rdr | exact (a1.out.alloc (.cells #[.string ⟨#[]⟩,.string ⟨#[120]⟩,.string ⟨#[88]⟩,.string ⟨#[88,121,49]⟩,.string ⟨#[88,89]⟩,.string ⟨#[65,98,99,100,101,102,103,104]⟩,.string ⟨#[65,98,99,100,101,102,103,104,105]⟩] 9)).drew.rdr) (by have:=HP.out; omega) (by omega) (by omega)) ?_; rintro e w4 ⟨j2,rfl,ab,a0,a4⟩; have HQ:=η (Yr a4 bh.out b4.out); have b5:=η (jY.call (p:=p'+1) (by first | with_reducible exact y.out | exact (a1.out.alloc (.cells #[.string ⟨#[]⟩,.string ⟨#[120]⟩,.string ⟨#[88]⟩,.string ⟨#[88,121,49]⟩,.string ⟨#[88,89]⟩,.string ⟨#[65,98,99,100,101,102,103,104]⟩,.string ⟨#[65,98,99,100,101,102,103,104,105]⟩] 9)).drew) a0 (aI.dB a4)); clear y; have y:=b5; clear b5; replace q0:=y.out.cell0; replace q1:=y.out.cell1; replace q2:=y.out.wE 1; have bi:w2.heap.size < w4.heap.size:=lt_of_cell q1; clear a0 a4)
     | (have ao:=HQ.out (by with_reducible rfl); go_simp; go_at_call 159; refine (U6 g _ [⟨#[]⟩,⟨#[120]⟩,⟨#[88]⟩,⟨#[88,121,49]⟩,⟨#[88,89]⟩,⟨#[65,98,99,100,101,102,103,104]⟩,⟨#[65,98,99,100,101,102,103,104,105]⟩] 7 _ w4 y.out.rdr ao b4.out (by have:=HP.out; omega) rfl (by decide) (by decide) (by decide)).mono ?_; rintro e w5 ⟨s5,rfl,a7,a8,a9⟩; (try clear ao); replace y:=η (y.out.call a8 a9); replace q0:=y.out.cell0; replace q1:=y.out.cell1; replace q2:=y.out.wE 1; have bj:w2.heap.size < w5.heap.size:=lt_of_cell q1; have HT:=η (fun b=>y.out.lit b s5 a7); clear a8 a9 a7)
     | (go_simp; go_at_call 159; refine (rY g _ [⟨#[]⟩,⟨#[120]⟩,⟨#[88]⟩,⟨#[88,121,49]⟩,⟨#[88,89]⟩,⟨#[65,98,99,100,101,102,103,104]⟩,⟨#[65,98,99,100,101,102,103,104,105]⟩] 7 w4 y.out.rdr (by have:=HP.out; omega) rfl (by decide) (by decide) (by decide)).mono ?_; rintro e w5 ⟨s5,rfl,a7,a8,a9⟩; (try clear ao); replace y:=η (y.out.call a8 a9); replace q0:=y.out.cell0; replace q1:=y.out.cell1; replace q2:=y.out.wE 1; have bj:w2.heap.size < w5.heap.size:=lt_of_cell q1; have HT:=η (fun b=>y.out.lit b s5 a7); clear a8 a9 a7))
   all_goals
    have I:=η J.out.2.2.2;clear y HT J q0 q1 q2;have q0:=I.out.cell0;have q1:=I.out.cell1;have f0:=I.out.wL 0;have f1:=I.out.wL 1;have z0:=I.out.Xn;obtain ⟨zx,zy,z0,z1⟩:=z0;have HD:=η (I.out.done (k:=4) (q:=20) (p0:=p) HN.out (by have:=HX.out; simp; omega) (by have:=HP.out; omega));go_wp2;refine bodyPost_ret (v:=.agg #[.string a.name,.slice A3 (a.args.length+1) c3]) (by simp [results,Tryz.results139,go_sem,z0,z1]) rfl HD.out
  ·have bo:((j:Int) == 1)=false:=beq_eq_false_iff_ne.2 (by omega)
   by_cases ab:j=2
   ·subst ab
    have b6:Hid (∃ (xs:List T) (a2:Option Addr) (a3:Nat) (L':List Value) (p2:Nat),xs.length≤4∧p2≤p+8+xs.length∧jY g p2 w w.heap.size w2.heap.size a.name (.slice a2 xs.length a3) L' xs w3):=η ⟨a.args,Av,cv,L,p'+1,by have:=HX.out; omega,by have:=HP.out; omega,y.out⟩;clear y bc;go_wp2
    go_loopw [] (fun wr=>∃ (xs:List T) (a2:Option Addr) (a3:Nat) (L':List Value) (p2:Nat),xs.length≤4∧p2≤p+8+xs.length∧jY g p2 w w.heap.size w2.heap.size a.name (.slice a2 xs.length a3) L' xs wr) (fun wr=>5 - LV wr w2.heap.size)
    case atStart=>exact b6.out
    case round=>
     obtain ⟨xs,a2,a3,L',p2,b7,ac,hI⟩:=hrel;have y:=η hI.drew;have a1:=η hI;have aa:Hid (xs.length≤4∧p2≤p+8+xs.length∧p≤800000):=η ⟨b7,ac,HP.out.2⟩;have af:Hid (xs.length+1≤maxLen):=η (by unfold maxLen; omega);have ag:Hid ((xs.length+1) * 24≤140737488355328):=η (by omega);clear hI b6 b7 ac;have q1:=y.out.cell1;go_wp2
     go_region_held3 (fun w'=>w'.cell? ⟨w2.heap.size,1,none⟩=some (.slice a2 xs.length a3)) (first | exact q1 | go_keep)
      (first
       | (go_at_call 47; refine (pick_any g _ 2 _ y.out.rdr (by have:=aa.out; omega) (by omega) (by omega)).mono ?_; rintro e w4 ⟨j2,rfl,ab,a0,a4⟩; have bx:IntKind.i64.wrap (3+(j2:Int))=3+(j2:Int):=(by simp only [IntKind.wrap,IntKind.bits,IntKind.signed]; simp; omega); replace y:=η (y.out.call a0 (aI.dB a4)); replace q1:=y.out.cell1; clear a0 a4))
     have q0:=y.out.cell0;have bi:w2.heap.size < w4.heap.size:=lt_of_cell q1;by_cases aq:xs.length < 3+j2
     ·have b8:(xs.length:Int) < 3+(j2:Int):=by omega
      have HT:=η (y.out.lit false ⟨#[97]⟩ (by decide));have bk:=η aq;have HJ:=η ab;have g1:=y.out.wE 1;clear aq
      go_wp2_with (at_builtin; refine bU rfl _ _ _ rfl w.heap.size 91 i0 (.agg #[.bool false,.string ⟨#[]⟩]) 2 24 Tryz.underlying31 hi ar av aw rfl (Θ 1) bD (.slice a2 xs.length a3) xs.length L' xs [] rfl HT.out.1 rfl (some ⟨w4.heap.size,0,none⟩) 1 1 _ [⟨false,⟨#[97]⟩⟩] _ rfl HT.out.2.1 rfl HT.out.2.2.1 (fun b hb=>by simp at hb) af.out ag.out w4 w.heap.size HT.out.2.2.2.1 ν HT.out.2.2.2.2.1 ?_; intro A3 c3 w6 a5 a6 am U; have J:=η (y.out.app a5 a6 U HT.out.2.2.2.2.2); replace q0:=J.out.1; replace q1:=J.out.2.1; have q2:=J.out.2.2.1; clear a5 a6 am U)
      have I:=η J.out.2.2.2;have HM:Hid (LV wr w2.heap.size=xs.length):=η (LW a1.out.cell1);have bl:Hid (LV (w6.setCell ⟨w2.heap.size,1,none⟩ (.slice A3 (xs.length+1) c3)) w2.heap.size=xs.length+1):=η (LW I.out.cell1);clear y HT J q0 q1 q2;go_roundw
      case rel=>exact ⟨xs ++ [⟨false,⟨#[97]⟩⟩],A3,c3,L' ++ [.bool false,.string ⟨#[97]⟩],p2+1,by have:=bk.out; have:=HJ.out; simp; omega,by have:=aa.out; simp; omega,by simpa using I.out⟩
      case measure=>have:=HM.out; have:=bl.out; have:=aa.out; omega
     ·have b8:¬ (xs.length:Int) < 3+(j2:Int):=by omega
      have f0:=y.out.wL 0;have f1:=y.out.wL 1;have z0:=y.out.Xn;obtain ⟨zx,zy,z0,z1⟩:=z0;have HD:=η (y.out.done (k:=4) (q:=20) (p0:=p) HN.out aa.out.1 (by have:=aa.out; omega));clear aq;go_wp2;refine bodyPost_ret (v:=.agg #[.string a.name,.slice a2 xs.length a3]) (by simp [results,Tryz.results139,go_sem,z0,z1]) rfl HD.out
   ·have bp:((j:Int) == 2)=false:=beq_eq_false_iff_ne.2 (by omega)
    have q0:=y.out.cell0;have q1:=y.out.cell1;have f0:=y.out.wL 0;have f1:=y.out.wL 1;have z0:=y.out.Xn;obtain ⟨zx,zy,z0,z1⟩:=z0;have HD:=η (y.out.done (k:=4) (q:=20) (p0:=p) HN.out (by have:=HX.out; simp; omega) (by have:=HP.out; omega));go_wp2;refine bodyPost_ret (v:=.agg #[.string a.name,.slice Av a.args.length cv]) (by simp [results,Tryz.results139,go_sem,z0,z1]) rfl HD.out
theorem uK (g p:Nat) (w:World) (h:kQ g p w) (y:p≤800000):
 Calls Tryz.prog 139 #[.pointer (some ⟨g,0,none⟩)] w (Lj 4 g p 20 w):=(yJ g p w h y).mono fun _ _ h=>h.weak
end
end Go.Proofs.YtkjinanbccloeaaGreatDoor
