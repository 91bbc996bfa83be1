/- Of the proof of FnExactProofOk: Atom, Copy, EqR, AtH, L3, AtomsS, Facts2, CmpD, ArgsP. -/
import Derived.Test.YtlmngncogomgeaaGreatDoorM07
import Derived.Test.YtlmngncogomgeaaGreatDoorM08
import Derived.Test.YtlmngncogomgeaaGreatDoorM11
import Derived.Test.YtlmngncogomgeaaGreatDoorM10
set_option linter.unusedVariables false
set_option maxHeartbeats 2000000
set_option maxRecDepth 100000
namespace Go.Proofs.YtlmngncogomgeaaGreatDoor
section
open Go.RowKit D
theorem qZ (a:A) (c0 c1:Value) (bs:List Nat) (w:World) (h:aP w [c0,c1] a bs):
  Calls Tryz.prog 125 #[.agg #[c0,c1]] w fun e w'=>e=.returned (.bool (aZ a))∧Below w.heap.size w w':=by
 obtain ⟨s,a1,U,ht⟩:=h;simp only [List.cons.injEq,and_true] at a1;obtain ⟨rfl,rfl⟩:=a1;obtain ⟨Ad,cap,rfl,hl,hm⟩:=ai ht;have a5:=ay (τ hl hm);clear hm;have hn:=fun w=>zk a.name w U
 unfold aZ;obtain ⟨nm,y⟩:=a;dsimp only at *;generalize iD nm=b at *
 go_enter Tryz.func125,Tryz.ntmps125
 go_wp2
 go_loopw [3] (fun i wr=>∃ k:Nat,k≤y.length∧i=.int .i64 k∧(y.take k).all iP=true∧Below w.heap.size w wr∧wr.cell? ⟨w.heap.size,0,none⟩=some (.string nm)∧wr.cell? ⟨w.heap.size,1,none⟩=some (.slice Ad y.length cap)∧w.heap.size < wr.heap.size) (fun i _=>y.length - (intOf i).toNat)
 case atStart=>exact ⟨0,ε,rfl,rfl,ζ,by simp,by simp,by simp⟩
 case round=>
  obtain ⟨k,hk,rfl,J,hb,a2,a3,a6⟩:=hrel;have HA:=η J;clear J;by_cases a0:k < y.length
  ·have hw:=aG.below ht hb
   obtain ⟨b0,o,rfl,_,d0,d1,U⟩:=dN hw a0;have HT:=η ht;clear ht hw
   go_wp2_with (go_at_call 177; refine (KX _ _ U).mono ?_; rintro e w' ⟨rfl,I⟩)
   ·have hx:(!iP y[k])=true:=by assumption
    go_ret;exact ⟨aA (by rw [rZ y k a0 (by simpa using hx)]; simp),hb.trans (I.mono (by omega))⟩
   ·have hx:(!iP y[k])=false:=by assumption
    go_roundw
    case rel=>exact ⟨k+1,by omega,by go_num,by rw [iQ y k a0,HA.out]; simpa using hx,hb.trans (I.mono (by omega)),ξ I a2,ξ I a3,by have:=I.size; omega⟩
    case measure=>simp [intOf]; omega
  ·have he:k=y.length:=by omega
   subst he;have ha:y.all iP=true:=by have:=HA.out; rwa [ϕ ν] at this
   have a4:=η ha;clear ha;cases b
   all_goals
    go_wp2_with (go_at_call 178; refine (hn _).mono ?_; rintro e w3 ⟨rfl,rfl⟩)
    go_ret;exact ⟨aA (by rw [a4.out]; first | (simp; done) | (rw [Bool.eq_iff_iff]; simp; omega)),hb⟩
theorem rq (a:A) (c0 c1:Value) (bs:List Nat) (w:World) (h:aP w [c0,c1] a bs):
  Calls Tryz.prog 59 #[.agg #[c0,c1]] w fun e w'=>e=.returned (.bool (aZ a))∧Below w.heap.size w w':=by
 obtain ⟨s,a1,U,ht⟩:=h;simp only [List.cons.injEq,and_true] at a1;obtain ⟨rfl,rfl⟩:=a1;obtain ⟨Ad,cap,rfl,hl,hm⟩:=ai ht;have a4:=ay (τ hl hm);clear hm;have hn:=fun w=>zl a.name w U
 unfold aZ;obtain ⟨nm,y⟩:=a;dsimp only at *;generalize iD nm=b at *;by_cases h3:y.length≤3
 all_goals cases b
 case pos.true=>
  go_enter Tryz.func59,Tryz.ntmps59
  go_wp2_with (go_at_call 99; refine (hn _).mono ?_; rintro e w3 ⟨rfl,rfl⟩)
  go_loopw [18] (fun i wr=>∃ k:Nat,k≤y.length∧i=.int .i64 k∧(y.take k).all iP=true∧Below w.heap.size w wr) (fun i _=>y.length - (intOf i).toNat)
  case atStart=>exact ⟨0,ε,rfl,rfl,ζ⟩
  case round=>
   obtain ⟨k,hk,rfl,I,J⟩:=hrel;have HA:=η I;clear I;by_cases a0:k < y.length
   ·have hw:=aG.below ht J
    obtain ⟨b0,o,rfl,_,d0,d1,U⟩:=dN hw a0;have HT:=η ht;clear ht hw
    go_wp2_with (go_at_call 100; refine (KW _ _ U).mono ?_; rintro e w' ⟨rfl,a2⟩)
    ·have hx:(!iP y[k])=true:=by assumption
     go_ret;exact ⟨aA (by rw [rZ y k a0 (by simpa using hx)]; simp),(J.alloc J.size _).trans (a2.mono (by have:=J.size; simp; omega))⟩
    ·have hx:(!iP y[k])=false:=by assumption
     go_roundw
     case rel=>exact ⟨k+1,by omega,by go_num,by rw [iQ y k a0,HA.out]; simpa using hx,(J.alloc J.size _).trans (a2.mono (by have:=J.size; simp; omega))⟩
     case measure=>simp [intOf]; omega
   ·have he:k=y.length:=by omega
    subst he;have ha:y.all iP=true:=by have:=HA.out; rwa [ϕ ν] at this
    have a3:=η ha;clear ha;go_wp2;go_ret;exact ⟨aA (by rw [a3.out]; simp; omega),J⟩
 all_goals
  go_enter Tryz.func59,Tryz.ntmps59
  go_wp2_with (go_at_call 99; refine (hn _).mono ?_; rintro e w3 ⟨rfl,rfl⟩)
  all_goals (go_ret; exact ⟨aA (by first | (simp; done) | (simp; omega)),ζ⟩)
end
section
open Go.RowKit D
attribute [local go_sem ↓] Go.wp_at_zero Go.wp_at_succ
theorem IA (r:Ru) (c0 c1 c2 d0 d1 d2:Value) (b1 b2:List Nat) (w:World) (h1:jk w [c0,c1,c2] r b1) (h2:jk w [d0,d1,d2] r b2):
  Calls Tryz.prog 44 #[.agg #[c0,c1,c2],.agg #[d0,d1,d2]] w (Yes w.heap.size w):=by
 obtain ⟨a2,a3,rfl,p1,q1⟩:=dX h1;obtain ⟨a4,a5,rfl,p2,q2⟩:=dX h2;obtain ⟨Ad,cap,Ae,J,rfl,rfl,rfl⟩:=iK h1;obtain ⟨a0,cap2,a1,I,rfl,rfl,rfl⟩:=iK h2;have e1:=fun w' (hb:Below w.heap.size w w')=>nI r.head _ _ _ _ a2 a4 w' (ak.below p1 hb) (ak.below p2 hb)
 have e2:=fun w' (hb:Below w.heap.size w w')=>FI r.body _ _ a3 a5 w' (aU.below q1 hb) (aU.below q2 hb)
 clear h1 h2 p1 p2 q1 q2;have hA:=((Below.refl w.heap.size w).alloc ν (.cells #[.string r.head.name,.slice Ad r.head.args.length cap,.slice Ae r.body.length J] 77)).alloc (by simp) (.cells #[.string r.head.name,.slice a0 r.head.args.length cap2,.slice a1 r.body.length I] 77)
 go_enter Tryz.func44,Tryz.ntmps44
 go_wp2_with fail
 refine (e1 _ hA).mono ?_;rintro e U ⟨rfl,y⟩;have B1:=hA.trans (y.mono hA.size);have x0:U.cell? ⟨w.heap.size,0,none⟩=some (.string r.head.name):=ξ y (by go_simp);have y0:U.cell? ⟨w.heap.size+1,0,none⟩=some (.string r.head.name):=ξ y (by go_simp);have x1:U.cell? ⟨w.heap.size,1,none⟩=some (.slice Ad r.head.args.length cap):=ξ y (by go_simp);have y1:U.cell? ⟨w.heap.size+1,1,none⟩=some (.slice a0 r.head.args.length cap2):=ξ y (by go_simp);have x2:U.cell? ⟨w.heap.size,2,none⟩=some (.slice Ae r.body.length J):=ξ y (by go_simp);have y2:U.cell? ⟨w.heap.size+1,2,none⟩=some (.slice a1 r.body.length I):=ξ y (by go_simp);clear e1 hA
 go_wp2_with fail
 refine (e2 _ B1).mono ?_;rintro e w2 ⟨rfl,a6⟩;go_wp2;go_ret;exact ⟨rfl,B1.trans (a6.mono B1.size)⟩
theorem yI (xs:List A) (a:A) (v U d1:Value) (bs b2:List Nat) (w:World) (h:aQ w [v] xs bs) (I:aP w [U,d1] a b2) (hs:iF xs=true):
  Calls Tryz.prog 71 #[v,.agg #[U,d1]] w fun e w'=>e=.returned (.bool (hasB xs a))∧Below w.heap.size w w':=by
 obtain ⟨Ad,cap,rfl,hl,hm⟩:=ai h;obtain ⟨Aa,ca,rfl,rfl⟩:=bK I;have y:Below w.heap.size w (w.alloc (.cells #[.string a.name,.slice Aa a.args.length ca] 40)):=ζ;have hk:=wP xs a _ _ _ bs b2 _ (au.below h y) (ak.below I y) hs;clear h I hm
 go_enter Tryz.func71,Tryz.ntmps71
 go_wp2_with fail
 refine hk.mono ?_;rintro e w1 ⟨rfl,J⟩;go_wp2;go_ret;exact ⟨rfl,y.trans (J.mono y.size)⟩
theorem LP (y:List A) (v:Value) (bs:List Nat) (w:World) (h:aQ w [v] y bs) (hn:y.length≤100000000000) (ha:∀ a ∈ y,a.args.length≤16777216):
  Calls Tryz.prog 121 #[v] w fun e w'=>Below w.heap.size w w'∧∃ v bs,e=.returned v∧aQ w' [v] y bs∧∀ c ∈ bs,w.heap.size≤c:=by
 obtain ⟨Ad,cap,rfl,hl,hm⟩:=ai h;obtain ⟨i0,hi,ag,am,ao⟩:=info_parts yA;clear hm;have hA:Below w.heap.size w (w.alloc (.cells #[] 40)):=ζ;have a6:=cu.empty (n:=2) (R:=aP) (e:=40) (ω w (.cells #[] 40)) (Nat.le_refl w.heap.size)
 go_enter Tryz.func121,Tryz.ntmps121
 go_wp2
 go_loopw [3,4] (fun v i wr=>∃ (k:Nat) (A:Option Addr) (cp:Nat) (L:List Value) (b2:List Nat),k≤y.length∧i=.int .i64 k∧v=.slice A k cp∧cu 2 aP w.heap.size 40 wr (.slice A k cp) L (y.take k) b2∧Hid (∀ c ∈ b2,w.heap.size≤c)∧Below w.heap.size w wr) (fun _ i _=>y.length - (intOf i).toNat)
 case atStart=>exact ⟨0,_,_,_,_,ε,rfl,rfl,a6,η (fun c hc=>by cases hc),hA⟩
 case round=>
  obtain ⟨k,A,cp,L,b2,hk,rfl,rfl,hC,a7,hb⟩:=hrel;clear a6 hA;by_cases a3:k < y.length
  ·have a8:=η a3
   obtain ⟨b,o,Ae,ce,bk,rfl,_,c0,c1,a9,_⟩:=dQ (au.below h hb) a3;have ap:y[k].args.length≤16777216:=ha _ (δ _);have aE:(0:Int)≤(k:Int):=by omega
   have aL:(k:Int) < (y.length:Int):=by omega
   have HT:Hid (y.take (k+1)=y.take k ++ [y[k]]):=η (ρ a3);have hc:=KZ y[k] _ _ bk _ a9 ap;have HC:=η hC;clear h ha hC
   go_wp2_with fail
   refine hc.mono ?_;rintro e w1 ⟨aa,aM,b3,rfl,hR,hN⟩;obtain ⟨J,U,rfl⟩:=mr hR;clear a9 hc;have hlen:(y.take k).length=k:=by rw [List.length_take]; omega
   have a4:Below wr.heap.size wr (w1.alloc (.cells #[.string y[k].name,.slice J y[k].args.length U] 40)):=aa.alloc aa.size _;have aq:Below w1.heap.size w1 (w1.alloc (.cells #[.string y[k].name,.slice J y[k].args.length U] 40)):=ζ;have a5:=HC.out.below ak a4;have ab:=ak.below hR aq;have hL:Lies (w1.alloc (.cells #[.string y[k].name,.slice J y[k].args.length U] 40)) (some ⟨w1.heap.size,0,none⟩) [.string y[k].name,.slice J y[k].args.length U]:=aS (ω w1 _);have ar:=η a5;have ac:Hid ((w1.alloc (.cells #[.string y[k].name,.slice J y[k].args.length U] 40)).ownsRow w.heap.size 40 2 (.slice A k cp) k L):=η (by have:=a5.own; rw [hlen] at this; exact this);have HL:=η hL;have av:=η ab;have ae:=a4.size;clear a5 hL ab hlen
   go_wp2_with (at_builtin; refine pO rfl _ _ _ rfl w.heap.size 40 i0 (.agg #[.string ⟨#[]⟩,.slice none 0 0]) 2 40 Tryz.underlying36 hi ag am ao rfl (by omega) (.slice A k cp) k L rfl ac.out (some ⟨w1.heap.size,0,none⟩) 1 1 [.string y[k].name,.slice J y[k].args.length U] rfl rfl HL.out (by simp [Value.oneCell']) (by unfold maxLen; omega) (by omega) (τ hb.size ae) ?_; intro A2 aw w2 a0 I a1)
   have hlen:(y.take k).length=k:=by rw [List.length_take]; omega
   have a2:∀ b ∈ b3,(Value.slice A k cp).ownBlock ≠ some b:=fun b az=>Fh HC.out.own (hN.own b az).1
   have C3:=ar.out.app ak (aV.dY fM av.out) a2 (by rw [hlen]; exact a0) I a1;have B3:=gX (hb.trans (a4.mono hb.size)) ac.out ν (τ hb.size ae) I;have aD:Hid (∀ c ∈ b2 ++ b3,w.heap.size≤c):=η fun c hc=>(μ.1 hc).elim (a7.out c) fun h=>τ hb.size (hN.own c h).1
   clear a0 I a1 a2 hlen hR hN;have H3:=η C3;clear C3;go_wp2;go_roundw
   case rel=>exact ⟨k+1,A2,aw,_,_,a8.out,by go_num,rfl,by rw [HT.out]; exact H3.out,aD,B3⟩
   case measure=>have:=a8.out; simp [intOf]; omega
  ·have he:k=y.length:=by omega
   subst he;rw [ϕ ν] at hC;obtain ⟨b3,hs,af⟩:=hC.slice;have HS:=η (ι hs fun c hc=>(af c hc).elim id (a7.out c));clear hC hs af;go_wp2;go_ret;exact ⟨hb,_,b3,rfl,HS.out⟩
theorem Oy:(Tryz.prog.info? 40).map (fun i=>(i.zero,i.size,i.bytes))=some (some (.agg #[.string ⟨#[]⟩,.slice none 0 0]),2,40):=by kernel_rfl
structure D.zG (w:World) (v:Value) (L:List Value) (xs:List A) (wr:World):Prop where
 coll:∃ bs,cu 2 aP w.heap.size 40 wr v L xs bs
 bel:Below w.heap.size w wr
theorem D.zG.below {w wr w':World} {v:Value} {L:List Value} {xs:List A} (h:zG w v L xs wr) (y:Below wr.heap.size wr w'):zG w v L xs w':=
 ⟨by obtain ⟨I,hc⟩:=h.coll; exact ⟨I,hc.below ak y⟩,h.bel.trans (y.mono h.bel.size)⟩
theorem zH (rs:List Ru) (v:Value) (bs:List Nat) (w:World) (h:dD w [v] rs bs) (hn:(aH rs).length≤1000000):
  Calls Tryz.prog 176 #[v] w fun e w'=>Below w.heap.size w w'∧∃ v' b2,e=.returned v'∧aQ w' [v'] (aH rs) b2:=by
 obtain ⟨Ad,cap,rfl,hl,hm⟩:=ai h;have b3:=ay (τ hl hm);obtain ⟨i0,hi,a9,aa,ab⟩:=info_parts Oy
 have HN:Hid (∀ k,(aH (rs.take k)).length≤1000000):=η fun k=>by
  have h1:aH rs=aH (rs.take k) ++ aH (rs.drop k):=by unfold aH; rw [← List.flatMap_append,List.take_append_drop]
  rw [h1,χ] at hn; omega
 have ac:Hid (zG w (.slice (some ⟨w.heap.size,0,none⟩) 0 0) [] [] (w.alloc (.cells #[] 40))):=η ⟨⟨[],cu.empty (ω _ _) ν⟩,ζ⟩;clear hl hm hn
 go_enter Tryz.func176,Tryz.ntmps176
 go_wp2;generalize w.alloc (.cells #[] 40)=w0 at *
 go_loopw [3,4] (fun v i wr=>∃ (k:Nat) (Av:Option Addr) (cp:Nat) (L:List Value) (xs:List A),k≤rs.length∧i=.int .i64 k∧v=.slice Av xs.length cp∧xs=aH (rs.take k)∧zG w (.slice Av xs.length cp) L xs wr) (fun _ i _=>rs.length - (intOf i).toNat)
 case atStart=>exact ⟨0,_,0,[],[],ε,rfl,rfl,rfl,ac.out⟩
 case round=>
  obtain ⟨k,Av,cp,L,xs,hk,rfl,rfl,a5,I⟩:=hrel;clear ac;have HX:=η a5;have a6:Hid (xs.length≤1000000):=η (by rw [a5]; exact HN.out k);clear a5;by_cases J:k < rs.length
  ·obtain ⟨b,o,Ae,ce,Af,cf,bk,rfl,_,d0,d1,d2,a1,_⟩:=eF h J
   have e2:=ξ I.bel d2;replace d0:=ξ I.bel d0;replace d1:=ξ I.bel d1;have D2:=η d2;have b5:(0:Int)≤(k:Int):=by omega
   have az:(k:Int) < (rs.length:Int):=by omega
   have ae:Hid ((aH (rs.take k) ++ [rs[k].head] ++ eu rs[k].body).length≤1000000):=η (by rw [← oC rs k J]; exact HN.out (k+1));obtain ⟨b1,b2,_,a0,af⟩:=dX a1;have aD:=η af;have b6:(rs[k].body.length:Int)≤1000000:=by have:=ae.out; rw [χ,kZ] at this; omega
   have hA:Below wr.heap.size wr (wr.alloc (.cells #[.string rs[k].head.name,.slice Ae rs[k].head.args.length ce] 40)):=ζ;obtain ⟨ag,U⟩:=(I.below hA).coll;have HC:=η U;have HB:=η (I.below hA).bel;have HR:Hid (aV 2 aP (wr.alloc (.cells #[.string rs[k].head.name,.slice Ae rs[k].head.args.length ce] 40)) [.string rs[k].head.name,.slice Ae rs[k].head.args.length ce] [rs[k].head] b1):=η (aV.dY fM (ak.below (ak.below a0 I.bel) hA));have HL:Hid (Lies (wr.alloc (.cells #[.string rs[k].head.name,.slice Ae rs[k].head.args.length ce] 40)) (some ⟨wr.heap.size,0,none⟩) [.string rs[k].head.name,.slice Ae rs[k].head.args.length ce]):=η (aS (ω wr (.cells #[.string rs[k].head.name,.slice Ae rs[k].head.args.length ce] 40)));have HF:Hid (∀ c ∈ b1,(Value.slice Av xs.length cp).ownBlock ≠ some c):=η fun c hc=>aO U.own (ak.lt a0 c hc)
   have am:=η J;have aE:=η (oC rs k J);clear h a1 a0 af I hA U d2;generalize rs[k]=r at *;clear J;obtain ⟨⟨nm,args⟩,body⟩:=r;dsimp only at *
   go_wp2_with (at_builtin; refine gU rfl _ _ _ rfl w.heap.size 40 i0 (.agg #[.string ⟨#[]⟩,.slice none 0 0]) 2 40 Tryz.underlying36 hi a9 aa ab rfl (by omega) ak (.slice Av xs.length cp) xs.length _ _ _ rfl HC.out rfl (some ⟨wr.heap.size,0,none⟩) 1 1 _ [⟨nm,args⟩] _ rfl HR.out rfl HL.out HF.out (by have:=a6.out; unfold maxLen; omega) (by have:=a6.out; omega) w w.heap.size HB.out ν HB.out.size ?_; intro A2 a4 w2 a2 a3 a7 _)
   have ao:Hid (zG w (.slice A2 (xs ++ [(⟨nm,args⟩:A)]).length a4) (L ++ [.string nm,.slice Ae args.length ce]) (xs ++ [(⟨nm,args⟩:A)]) w2):=η ⟨⟨_,by rw [χ]; exact a2⟩,a3⟩;have ap:Hid (xs ++ [(⟨nm,args⟩:A)]=aH (rs.take k) ++ [(⟨nm,args⟩:A)]):=η (by rw [HX.out]);have aq:xs.length+1=(xs ++ [(⟨nm,args⟩:A)]).length:=by simp
   rw [aq];clear a2 a3 a7 HC HB HR HL HF d0 d1 HX aq e2;generalize xs ++ [(⟨nm,args⟩:A)]=ys at *;generalize L ++ [.string nm,.slice Ae args.length ce]=M at *;clear a6;go_wp2
   go_loopw [3,5] (fun v i wr=>∃ (j:Nat) (Av:Option Addr) (cp:Nat) (M:List Value) (zs:List A),j≤body.length∧i=.int .i64 j∧v=.slice Av zs.length cp∧zs=ys ++ eu (body.take j)∧zG w (.slice Av zs.length cp) M zs wr) (fun _ i _=>body.length - (intOf i).toNat)
   case atStart=>exact ⟨0,_,_,_,ys,ε,rfl,rfl,by simp [eu],ao.out⟩
   case round=>
    obtain ⟨j,Aw,cq,M2,zs,hj,rfl,rfl,a8,I⟩:=hrel;clear ao;have HZ:=η a8
    have ar:Hid (zs.length+1≤1000001):=η (by
     have h1:=ae.out;rw [← ap.out,χ,kZ] at h1
     rw [a8,χ,kZ,List.length_take]; omega)
    clear a8;have e2:=ξ I.bel D2.out;by_cases J:j < body.length
    ·obtain ⟨b4,o4,Ag,cg,bg,rfl,_,f0,f1,f2,a1,_⟩:=eU aD.out J
     replace f0:=ξ I.bel f0;replace f1:=ξ I.bel f1;replace f2:=ξ I.bel f2;have b7:(0:Int)≤(j:Int):=by omega
     have aL:(j:Int) < (body.length:Int):=by omega
     have a0:=eX a1;have hA:Below wr.heap.size wr (wr.alloc (.cells #[.string body[j].atom.name,.slice Ag body[j].atom.args.length cg] 40)):=ζ;obtain ⟨ag,U⟩:=(I.below hA).coll;have HC:=η U;have HB:=η (I.below hA).bel;have HR:Hid (aV 2 aP (wr.alloc (.cells #[.string body[j].atom.name,.slice Ag body[j].atom.args.length cg] 40)) [.string body[j].atom.name,.slice Ag body[j].atom.args.length cg] [body[j].atom] bg):=η (aV.dY fM (ak.below (ak.below a0 I.bel) hA));have HL:Hid (Lies (wr.alloc (.cells #[.string body[j].atom.name,.slice Ag body[j].atom.args.length cg] 40)) (some ⟨wr.heap.size,0,none⟩) [.string body[j].atom.name,.slice Ag body[j].atom.args.length cg]):=η (aS (ω wr (.cells #[.string body[j].atom.name,.slice Ag body[j].atom.args.length cg] 40)));have HF:Hid (∀ c ∈ bg,(Value.slice Aw zs.length cq).ownBlock ≠ some c):=η fun c hc=>aO U.own (ak.lt a0 c hc)
     have av:=η J;have aM:=η (qX body j J);clear a1 a0 I hA U;generalize body[j]=p at *;clear J;obtain ⟨no,⟨pn,y⟩⟩:=p;dsimp only at *
     go_wp2_with (at_builtin; refine gU rfl _ _ _ rfl w.heap.size 40 i0 (.agg #[.string ⟨#[]⟩,.slice none 0 0]) 2 40 Tryz.underlying36 hi a9 aa ab rfl (by omega) ak (.slice Aw zs.length cq) zs.length _ _ _ rfl HC.out rfl (some ⟨wr.heap.size,0,none⟩) 1 1 _ [⟨pn,y⟩] _ rfl HR.out rfl HL.out HF.out (by have:=ar.out; unfold maxLen; omega) (by have:=ar.out; omega) w w.heap.size HB.out ν HB.out.size ?_; intro A2 a4 w2 a2 a3 a7 _)
     have aR:Hid (zG w (.slice A2 (zs ++ [(⟨pn,y⟩:A)]).length a4) (M2 ++ [.string pn,.slice Ag y.length cg]) (zs ++ [(⟨pn,y⟩:A)]) w2):=η ⟨⟨_,by rw [χ]; exact a2⟩,a3⟩;clear a2 a3 a7 HC HB HR HL HF f0 f1 f2 e2;go_wp2;go_roundw
     case rel=>exact ⟨j+1,A2,a4,_,zs ++ [(⟨pn,y⟩:A)],av.out,by go_num,by simp,by rw [aM.out,HZ.out,List.append_assoc],aR.out⟩
     case measure=>have:=av.out; simp [intOf]; omega
    ·have he:j=body.length:=by omega
     have aL:¬ (j:Int) < (body.length:Int):=by omega
     have HE:Hid (zs=aH (rs.take (k+1))):=η (by rw [aE.out,HZ.out,ap.out,he,ϕ ν]);have HV:=η I;clear I he;go_wp2;go_roundw
     case rel=>exact ⟨k+1,Aw,cq,M2,zs,am.out,by go_num,rfl,HE.out,HV.out⟩
     case measure=>have:=am.out; simp [intOf]; omega
  ·have he:k=rs.length:=by omega
   have az:¬ (k:Int) < (rs.length:Int):=by omega
   obtain ⟨ag,U⟩:=I.coll;obtain ⟨b2,aw,_⟩:=U.slice;have hx:xs=aH rs:=by rw [HX.out,he,ϕ ν]
   have HZ:Hid (Below w.heap.size w wr∧∃ b2,aQ wr [.slice Av xs.length cp] (aH rs) b2):=η ⟨I.bel,b2,by rw [← hx]; exact aw⟩;clear h I he hx aw U HX;go_wp2;go_ret;obtain ⟨q1,q2,q3⟩:=HZ.out;exact ⟨q1,_,rfl,q2,q3⟩
theorem qG (y:Option Addr) (n cap:Nat) (w:World):
  Calls Tryz.prog 143 #[.slice y n cap] w fun e w'=>e=.returned (.agg #[.slice y n cap,.func (.func 82) #[] #[]])∧Below w.heap.size w w':=by
 go_enter Tryz.func143,Tryz.ntmps143
 go_wp2;exact bodyPost_ret (v:=.agg #[.slice y n cap,.func (.func 82) #[] #[]]) (by simp [results,Tryz.results143,go_sem]) rfl ⟨rfl,by repeat (first | exact ϑ | (refine Below.setCell ?_ (by first | (simp; done) | (simp; omega)) _) | (refine Below.alloc ?_ (by first | (simp; done) | (simp; omega)) _))⟩
theorem IB (xs:List A) (v:Value) (bs:List Nat) (w:World) (h:aQ w [v] xs bs):
  Calls Tryz.prog 235 #[.agg #[v,.func (.func 82) #[] #[]]] w fun e w'=>e=.returned (.bool (iF xs))∧Below w.heap.size w w':=by
 obtain ⟨Ad,cap,rfl,hl,hm⟩:=ai h;have a7:=ay (τ hl hm);clear hm;have a0:Below w.heap.size w (w.alloc (.cells #[.slice Ad xs.length cap,.func (.func 82) #[] #[]] 219)):=ζ
 go_enter Tryz.func235,Tryz.ntmps235
 go_wp2
 go_loopw [3] (fun i wr=>∃ k:Nat,0 < k∧(k≤xs.length∨k=1)∧i=.int .i64 k∧AU xs k∧Below w.heap.size w wr∧wr.cell? ⟨w.heap.size,0,none⟩=some (.slice Ad xs.length cap)∧wr.cell? ⟨w.heap.size,1,none⟩=some (.func (.func 82) #[] #[])∧w.heap.size < wr.heap.size) (fun i _=>xs.length+1 - (intOf i).toNat)
 case atStart=>exact ⟨1,Nat.one_pos,.inr rfl,rfl,NY _,a0,by go_simp,by go_simp,by simp⟩
 case round=>
  obtain ⟨k,a8,hk,rfl,J,hb,s0,s1,a4⟩:=hrel;have HA:=η J;have HK:=η hk;clear J a0 hk;by_cases U:k < xs.length
  ·have a9:(0:Int)≤(k:Int):=by omega
   have aa:(k:Int) < (xs.length:Int):=by omega
   obtain ⟨j,I⟩:∃ j,k=j+1:=⟨k - 1,by omega⟩;have a5:j < xs.length:=by omega
   have HS:Hid (dJ xs[j] xs[k] < 0→AU xs (k+1)):=by subst I; exact η (fun hc=>Ky (xs:=xs) (k:=j) HA.out U hc)
   have HB:Hid (¬ dJ xs[j] xs[k] < 0→iF xs=false):=by subst I; exact η (fun hc=>TU xs j U hc)
   have ab:IntKind.i64.wrap ((k:Int) - 1)=(j:Int):=(IntWalk.i64_in _ ⟨by omega,by omega⟩).trans (by omega);have hK:=η I;have ac:(0:Int)≤(j:Int):=by omega
   have ae:(j:Int) < (xs.length:Int):=by omega
   clear HA I;obtain ⟨b,o,Ae,ce,bk,Af,cf,bm,rfl,c0,c1,a1,d0,d1,a2⟩:=DY (au.below h hb) a5 U;have hD:Below wr.heap.size wr wr.drew:=Below.drew ϑ;have a3:=oh xs[j] xs[k] _ _ _ _ bk bm wr.drew (ak.below a1 hD) (ak.below a2 hD);clear h a1 a2;by_cases hc:dJ xs[j] xs[k] < 0
   ·have a6:¬ 0≤dJ xs[j] xs[k]:=by omega
    have HC:=η (HS.out hc);clear hc;go_wp2
    go_region_held3 (fun w'=>w'.cell? ⟨b,o+j * 2,none⟩=some (.string xs[j].name)∧w'.cell? ⟨b,o+j * 2+1,none⟩=some (.slice Ae xs[j].args.length ce)∧w'.cell? ⟨b,o+k * 2,none⟩=some (.string xs[k].name)∧w'.cell? ⟨b,o+k * 2+1,none⟩=some (.slice Af xs[k].args.length cf)∧w'.cell? ⟨w.heap.size,0,none⟩=some (.slice (some ⟨b,o,none⟩) xs.length cap)∧w'.cell? ⟨w.heap.size,1,none⟩=some (.func (.func 82) #[] #[]))
     (first | go_keep | exact ⟨y0,y1,y2,y3,y4,y5⟩)
     (first
      | (go_at_call 82; refine a3.mono ?_; rintro e w2 ⟨rfl,y⟩; have y0:=ξ y c0; have y1:=ξ y c1; have y2:=ξ y d0; have y3:=ξ y d1; have y4:=ξ y s0; have y5:=ξ y s1; have B2:=hD.trans y))
    go_wp2;go_roundw
    case rel=>exact ⟨k+1,Nat.succ_pos _,.inl (by omega),by go_num,HC.out,hb.trans (B2.mono hb.size),y4,y5,κ a4 B2.size⟩
    case measure=>simp [intOf]; omega
   ·have a6:0≤dJ xs[j] xs[k]:=by omega
    have HC:=η (HB.out hc);clear hc;go_wp2
    go_region_held3 (fun w'=>w'.cell? ⟨b,o+j * 2,none⟩=some (.string xs[j].name)∧w'.cell? ⟨b,o+j * 2+1,none⟩=some (.slice Ae xs[j].args.length ce)∧w'.cell? ⟨b,o+k * 2,none⟩=some (.string xs[k].name)∧w'.cell? ⟨b,o+k * 2+1,none⟩=some (.slice Af xs[k].args.length cf)∧w'.cell? ⟨w.heap.size,0,none⟩=some (.slice (some ⟨b,o,none⟩) xs.length cap)∧w'.cell? ⟨w.heap.size,1,none⟩=some (.func (.func 82) #[] #[]))
     (first | go_keep | exact ⟨y0,y1,y2,y3,y4,y5⟩)
     (first
      | (go_at_call 82; refine a3.mono ?_; rintro e w2 ⟨rfl,y⟩; have y0:=ξ y c0; have y1:=ξ y c1; have y2:=ξ y d0; have y3:=ξ y d1; have y4:=ξ y s0; have y5:=ξ y s1; have B2:=hD.trans y))
    go_wp2;go_ret;exact ⟨aA HC.out.symm,hb.trans (B2.mono hb.size)⟩
  ·have HE:Hid (iF xs=true):=η (TW fun j hj af=>HA.out j hj (by have:=HK.out; omega))
   go_wp2;go_ret;exact ⟨aA HE.out.symm,hb⟩
structure D.Grew (w w':World):Prop where
 bel:Below w.heap.size w w'
 dr:w.drawn≤w'.drawn
theorem D.Grew.refl (w:World):Grew w w:=⟨ϑ,ν⟩
theorem D.Grew.trans {a b c:World} (h:Grew a b) (k:Grew b c):Grew a c:=⟨h.bel.trans (k.bel.mono h.bel.size),τ h.dr k.dr⟩
theorem D.Grew.alloc {w w':World} (h:Grew w w') (o:Obj):Grew w (w'.alloc o):=⟨h.bel.alloc h.bel.size _,h.dr⟩
theorem D.Grew.is {w w':World} (h:Grew w w'):∃ q y,w'=Go.Sort.grow (w.drewN q) y:=by
 refine ⟨w'.drawn - w.drawn,w'.heap.extract w.heap.size w'.heap.size,?_⟩;have J:=h.bel.os;have U:=h.bel.tape;have e3:=h.bel.output;have e4:w'.drawn=w.drawn+(w'.drawn - w.drawn):=by have:=h.dr; omega
 have e5:w'.heap=w.heap ++ w'.heap.extract w.heap.size w'.heap.size:=by
  have hs:=h.bel.size;apply Array.ext
  ·simp; omega
  ·intro i h1 h2
   by_cases hi:i < w.heap.size
   ·rw [Array.getElem_append_left hi]
    have:=h.bel.block i hi;rw [Array.getElem?_eq_getElem h1,Array.getElem?_eq_getElem hi] at this;exact Option.some.inj this
   ·rw [Array.getElem_append_right (by omega)]
    simp
    congr 1
    omega
 obtain ⟨hp,tp,dn,os,out⟩:=w;obtain ⟨a0,a1,a2,y,I⟩:=w';simp only [Go.Sort.grow,World.drewN] at *;subst J U e3;rw [← e4,← e5]
theorem IC (t u:T) (w:World):
  Calls Tryz.prog 142 #[.agg #[.bool t.var,.string t.name],.agg #[.bool u.var,.string u.name]] w fun e w'=>e=.returned (.int .i64 (fA t.name u.name))∧Grew w w':=by
 go_enter Tryz.func142,Tryz.ntmps142
 go_wp2_with (go_at_call 140; refine (jW _ _ _).mono ?_; rintro e w' ⟨rfl,rfl⟩)
 go_ret;exact ⟨rfl,((Grew.refl _).alloc _).alloc _⟩
theorem yJ (I us:List T) (v1 v2:Value) (b1 b2:List Nat) (w:World) (h1:fD w [v1] I b1) (h2:fD w [v2] us b2):
  Calls Tryz.prog 141 #[v1,v2,.func (.func 142) #[] #[]] w
   fun e w'=>e=.returned (.int .i64 (kF I us))∧Grew w w':=by
 obtain ⟨Ad,cap,rfl,hl,hm⟩:=ai h1;obtain ⟨a5,cap2,rfl,a1,a0⟩:=ai h2;have a6:=ay (τ hl hm);have a4:=ay (τ a1 a0);clear hm a0
 go_enter Tryz.func141,Tryz.ntmps141
 go_wp2
 go_loopw [13] (fun i wr=>∃ k:Nat,k≤I.length∧k≤us.length∧i=.int .i64 k∧kF I us=kF (I.drop k) (us.drop k)∧Grew w wr) (fun i _=>I.length - (intOf i).toNat)
 case atStart=>exact ⟨0,ε,ε,rfl,rfl,Grew.refl _⟩
 case round=>
  obtain ⟨k,hk,a7,rfl,hc,hb⟩:=hrel;have HC:=η hc;clear hc;by_cases U:k < I.length
  ·obtain ⟨b,o,rfl,_,c0,c1,_⟩:=dN (aG.below h1 hb.bel) U
   have hA:Grew wr (wr.alloc (.cells #[.bool I[k].var,.string I[k].name] 154)):=(Grew.refl _).alloc _;by_cases y:k < us.length
   ·obtain ⟨b',o',rfl,_,d0,d1,_⟩:=dN (aG.below h2 (hb.trans hA).bel) y
    have J:=η (uP U y);clear h1 h2
    go_wp2_with fail
    refine (IC I[k] us[k] _).mono ?_;rintro e w' ⟨rfl,a2⟩;have B':Grew w w':=((hb.alloc _).alloc _).trans a2;by_cases hz:fA I[k].name us[k].name=0
    ·have a3:(fA I[k].name us[k].name == 0)=true:=by simp [hz]
     have HZ:=η hz;clear hz hA;go_wp2;go_roundw
     case rel=>exact ⟨k+1,by omega,by omega,by go_num,by rw [HC.out,J.out,if_pos HZ.out],B'⟩
     case measure=>simp [intOf]; omega
    ·have a3:(fA I[k].name us[k].name == 0)=false:=by simp [hz]
     have HZ:=η hz;clear hz hA;go_wp2;go_ret;exact ⟨dO (by rw [HC.out,J.out,if_neg HZ.out]),B'⟩
   ·clear h1 h2
    have J:=η (uQ U (Nat.le_of_not_lt y));go_wp2;go_ret;exact ⟨dO (by rw [HC.out,J.out]),hb.trans hA⟩
  ·have he:I.length≤k:=by omega
   by_cases y:k < us.length
   ·have J:=η (uS he y)
    have hx:I.length < us.length:=by omega
    go_wp2;go_ret;exact ⟨dO (by rw [HC.out,J.out]),hb⟩
   ·have J:=η (uT he (Nat.le_of_not_lt y))
    have hx:¬ I.length < us.length:=by omega
    go_wp2;go_ret;exact ⟨dO (by rw [HC.out,J.out]),hb⟩
theorem BR (a b:A) (c0 c1 d0 d1:Value) (b1 b2:List Nat) (w:World) (h1:aP w [c0,c1] a b1) (J:aP w [d0,d1] b b2):
  Calls Tryz.prog 82 #[.agg #[c0,c1],.agg #[d0,d1]] w fun e w'=>e=.returned (.int .i64 (dJ a b))∧Grew w w':=by
 obtain ⟨Ad,cap,rfl,rfl⟩:=bK h1;obtain ⟨Ae,y,rfl,rfl⟩:=bK J;have hq:=fun w' (hb:Grew w w')=>yJ a.args b.args (.slice Ad a.args.length cap) (.slice Ae b.args.length y) b1 b2 w' (dK (ak.below h1 hb.bel)) (dK (ak.below J hb.bel))
 have hc:dJ a b=if fA a.name b.name=0 then kF a.args b.args else fA a.name b.name:=rfl
 have HC:=η hc;clear h1 J hc;have U:=((Grew.refl w).alloc (.cells #[.string a.name,.slice Ad a.args.length cap] 40)).alloc (.cells #[.string b.name,.slice Ae b.args.length y] 40);by_cases I:fA a.name b.name=0
 ·have a0:(fA a.name b.name != 0)=false:=by simp [I]
  have HZ:=η I;clear I
  go_enter Tryz.func82,Tryz.ntmps82
  go_wp2_with (go_at_call 140; refine (jW _ _ _).mono ?_; rintro e w' ⟨rfl,rfl⟩)
  refine (hq _ U).mono ?_;rintro e w' ⟨rfl,a1⟩;go_wp2;go_ret;exact ⟨dO (by rw [HC.out,if_pos HZ.out]),U.trans a1⟩
 ·have a0:(fA a.name b.name != 0)=true:=by simp [I]
  have HZ:=η I;clear I
  go_enter Tryz.func82,Tryz.ntmps82
  go_wp2_with (go_at_call 140; refine (jW _ _ _).mono ?_; rintro e w' ⟨rfl,rfl⟩)
  go_ret;exact ⟨dO (by rw [HC.out,if_neg HZ.out]),U⟩
end
section
open Go.RowKit D Go.ChangeShapes Go.WideShapes
theorem Ul:Opens Tryz.prog 29 (fun w cs p I=>∃ n,dP n w cs p I):=fun H enc w spare held fuel cs y h=>by
 have h1:=FW Tryz.underlying29 (by kernel_rfl) FM Tryz.underlying3 Tryz.underlying27 (by kernel_rfl) (by kernel_rfl) (by kernel_rfl) rfl rfl rfl fuel;obtain ⟨x,I,J⟩:=h1 H enc w spare held fuel cs y ν h;exact ⟨x,I,fuel,J⟩
end
end Go.Proofs.YtlmngncogomgeaaGreatDoor
