/- Of the proof of FnExactProofOk: HRuleS, OnceS, MatI. -/
import Derived.Test.YtlmngncogomgeaaGreatDoorM25
import Derived.Test.YtlmngncogomgeaaGreatDoorM26
import Derived.Deep.RegionHeldLaw
set_option linter.unusedVariables false
set_option maxHeartbeats 8000000
set_option maxRecDepth 100000
namespace Go.Proofs.YtlmngncogomgeaaGreatDoor
open Go.RowKit D
attribute [local go_sem ↓] Go.wp_at_zero Go.wp_at_succ
theorem RN:(Tryz.prog.info? 77).map (fun i=>(i.zero,i.size,i.bytes))=some (some (.agg #[.string ⟨#[]⟩,.slice none 0 0,.slice none 0 0]),3,64):=by kernel_rfl
theorem Ju (y:List Ru) (v:Value) (bs:List Nat) (left:Int) (w:World) (h:dD w [v] y bs) (h0:0≤left) (h1:left≤1048576):
  Calls Tryz.prog 7 #[v,.int .i64 left] w (Left left (EY y) w.heap.size w):=by
 obtain ⟨Ad,cap,rfl,hl,hm⟩:=ai h;have a6:=ay (τ hl hm);have U:EY y=y.length+dh tC y:=rfl;have HB:=η U;clear hm U
 go_enter Tryz.func7,Tryz.ntmps7
 go_wp2
 ·go_ret
  exact ⟨ϑ,_,rfl,.inl rfl⟩
 ·go_loopw [1,5] (fun l i wr=>∃ (k:Nat) (m:Int),k≤y.length∧i=.int .i64 k∧l=.int .i64 m∧0≤m∧m≤1048576∧m+y.length+dh tC (y.take k)=left∧Below w.heap.size w wr) (fun _ i _=>y.length - (intOf i).toNat)
  case atStart=>exact ⟨0,_,ε,rfl,rfl,by assumption,by omega,by simp [dh],ϑ⟩
  case round=>
   obtain ⟨k,m,hk,rfl,rfl,a0,a4,I,J⟩:=hrel;have HS:=η I;clear I;by_cases a1:k < y.length
   ·have hw:=aI.below h J
    obtain ⟨b,o,Ae,ce,Af,cf,bk,rfl,_,c0,c1,c2,a2,_⟩:=eF hw a1;have HT:=η (kR tC y k a1);clear h hw;generalize y[k]=t at *
    go_wp2_with fail
    refine (MG t _ _ _ bk m _ a2 a0 a4).mono ?_;rintro e w' ⟨a3,r,rfl,hr⟩;clear a2;go_wp2
    ·rcases hr with rfl | ⟨_,_⟩
     ·go_ret
      exact ⟨J.trans (a3.mono J.size),_,rfl,.inl rfl⟩
     ·exfalso; omega
    ·rcases hr with rfl | ⟨a5,a7⟩
     ·exfalso; omega
     ·have:=HS.out
      have:=HT.out;go_roundw
      case rel=>exact ⟨k+1,r,by omega,by go_num,rfl,a5,by omega,by omega,J.trans (a3.mono J.size)⟩
      case measure=>simp [intOf]; omega
   ·have he:k=y.length:=by omega
    go_wp2;go_ret;refine ⟨J,_,rfl,.inr ⟨a0,?_⟩⟩;have:=HS.out;rw [he,ϕ ν] at this;rw [HB.out];omega
theorem Jv (y:List Ru) (v:Value) (bs:List Nat) (w:World) (h:dD w [v] y bs) (hn:EY y≤1048576):
  Calls Tryz.prog 11 #[v] w (Makes dD y w.heap.size w):=by
 obtain ⟨Ad,cap,rfl,hl,hm⟩:=ai h;obtain ⟨i0,hi,a5,a6,a7⟩:=info_parts RN;have ab:y.length+dh tC y≤1048576:=hn;clear hm
 go_enter Tryz.func11,Tryz.ntmps11
 go_wp2_with (refine wpList_make_full _ rfl _ _ _ rfl w.heap.size 77 i0 _ 3 Tryz.underlying34 hi a5 a6 _ _ _ _ y.length rfl rfl rfl rfl (by rw [a7]; omega) (by unfold maxLen; omega) ν ?_; intro w1 J U)
 have a3:Below w.heap.size w w1:=ϑ.grown U ν (fun _ e=>by cases e);have a8:w.heap.size < w1.heap.size:=(J.lt _ rfl).2;clear U
 go_loopw [4] (fun i wr=>∃ (k:Nat) (L:List Value) (bs':List Nat),k≤y.length∧i=.int .i64 k∧wr.ownsRow w.heap.size 77 3 (.slice (some ⟨w.heap.size,0,none⟩) y.length y.length) y.length L∧
   fE 3 jk w1.heap.size wr L y k bs'∧Below w.heap.size w wr∧w1.heap.size≤wr.heap.size) (fun i _=>y.length - (intOf i).toNat)
 case atStart=>exact ⟨0,_,_,ε,rfl,J,fE.start,a3,ν⟩
 case round=>
  obtain ⟨k,L,bs',hk,rfl,a1,hF,hb,a9⟩:=hrel;clear J a3;by_cases a2:k < y.length
  ·have hw:=aI.below h hb
   obtain ⟨b,o,Ae,ce,Af,cf,bk,rfl,_,c0,c1,c2,a4,_⟩:=eF hw a2;have aa:tC y[k]≤1048576:=by have:=rX tC y k a2; omega
   have HK:=η hF;clear h hw hF;have hL:=η a1.1
   go_wp2_with fail
   refine (Ry y[k] _ _ _ bk _ a4 aa).mono ?_;rintro e w' ⟨a0,ac,b2,rfl,hR,hN⟩;obtain ⟨ae,af,ag,am,rfl⟩:=Ku hR;have I:=own_below a1 a0;obtain ⟨⟨u0,ao⟩,ap⟩:=iJ I (j:=k * 3) (by omega);obtain ⟨⟨u1,aq⟩,ar⟩:=iJ I (j:=k * 3+1) (by omega);obtain ⟨⟨u2,av⟩,aw⟩:=iJ I (j:=k * 3+2) (by omega);obtain ⟨R1,R2,R3,R4⟩:=U3 dL a1 HK.out a2 hb a0 a8 ν a9 hR hN;clear I a4 hR hN;go_wp2;go_roundw
   case rel=>exact ⟨k+1,_,_,by omega,by go_num,R1,R2,R3,R4⟩
   case measure=>simp [intOf]; omega
  ·have he:k=y.length:=by omega
   subst he;have HF:=η hF;clear hF;go_wp2;go_ret;obtain ⟨b2,r1,r2,r3,r4⟩:=HF.out.slice a1 (fun hm=>by have:=(HF.out.new.own _ hm).1; omega);refine ⟨hb,_,b2,rfl,r1,r2,fun b a0=>⟨?_,r4 b a0⟩⟩
   rcases r3 b a0 with ⟨rfl,h⟩ | h
   ·exact h
   ·have:=(HF.out.new.own b h).1; omega
theorem Gp (I:List Ru) (v1 v2:Value) (b1 b2:List Nat) (w:World) (h1:dD w [v1] I b1) (h2:dD w [v2] I b2):
  Calls Tryz.prog 15 #[v1,v2] w (Yes w.heap.size w):=by
 obtain ⟨Ad,cap,rfl,hl,hm⟩:=ai h1;obtain ⟨a9,cap2,rfl,aa,a2⟩:=ai h2;have ab:=ay (τ hl hm);clear hm a2
 go_enter Tryz.func15,Tryz.ntmps15
 go_wp2
 go_loopw [5] (fun i wr=>∃ k:Nat,k≤I.length∧i=.int .i64 k∧Below w.heap.size w wr) (fun i _=>I.length - (intOf i).toNat)
 case atStart=>exact ⟨0,ε,rfl,ϑ⟩
 case round=>
  obtain ⟨k,hk,rfl,U⟩:=hrel;by_cases a0:k < I.length
  ·obtain ⟨b,o,Ae,ce,Af,cf,bk,rfl,_,c0,c1,c2,a1,_⟩:=eF (aI.below h1 U) a0
   obtain ⟨b',o',a3,a4,a5,a6,a7,rfl,_,d0,d1,d2,J,_⟩:=eF (aI.below h2 U) a0;clear h1 h2;have H1:=η (dL.below a1 (Below.drew ϑ));have H2:=η (dL.below J (Below.drew ϑ));have a8:(k:Int) < (I.length:Int):=by omega
   have ac:(0:Int)≤(k:Int):=by omega
   clear a1 J;go_wp2
   go_region_held3 (fun w'=>w'.cell? ⟨b,o+k * 3,none⟩=some (.string I[k].head.name)∧w'.cell? ⟨b,o+k * 3+1,none⟩=some (.slice Ae I[k].head.args.length ce)∧w'.cell? ⟨b,o+k * 3+2,none⟩=some (.slice Af I[k].body.length cf)∧w'.cell? ⟨b',o'+k * 3,none⟩=some (.string I[k].head.name)∧w'.cell? ⟨b',o'+k * 3+1,none⟩=some (.slice a3 I[k].head.args.length a4)∧w'.cell? ⟨b',o'+k * 3+2,none⟩=some (.slice a5 I[k].body.length a6)) (first | go_keep | exact ⟨ξ y c0,ξ y c1,ξ y c2,ξ y d0,ξ y d1,ξ y d2⟩)
    (first | (go_at_call 44; refine (IA I[k] _ _ _ _ _ _ bk a7 _ H1.out H2.out).mono ?_; rintro e w' ⟨rfl,y⟩))
   go_wp2;go_roundw
   case rel=>exact ⟨k+1,by omega,by go_num,U.trans ((Below.drew ϑ).trans (y.mono U.size))⟩
   case measure=>simp [intOf]; omega
  ·have he:k=I.length:=by omega
   subst he;go_wp2;go_ret;exact ⟨rfl,U⟩
def D.DN (list:List A) (r:Ru) (out:List A):List A:=(allB list r.body).foldl (fun o b=>fC o (aY r.head b)) out
def D.iL (list:List A) (level:Nat) (rl:List (Ru × Nat)):List A:=rl.foldl (fun out p=>if p.2=level then DN list p.1 out else out) []
theorem D.RP {list:List A} (y:list.length≤300) (body:List Pt):(wQ list body).length≤300 ^ body.length:=by
 have h:∀ k,k≤body.length→(wQ list (body.take k)).length≤300 ^ k:=by
  intro k
  induction k with
  | zero=>intro _; simp [wQ]
  | succ k ih=>
   intro hk;rw [sG list body k (by omega)];exact Ov y (ih (by omega))
 have:=h body.length ν
 rwa [ϕ ν] at this
theorem D.Jw {list:List A} (y:list.length≤300) {body:List Pt} (I:body.length≤4):(allB list body).length≤8100000000:=
 τ (List.length_filter_le _ _) (τ (RP y body) (τ (Nat.pow_le_pow_right (by omega) I) (by decide)))
theorem D.Gq (xs:List A) (a:A):(fC xs a).length≤xs.length+1:=by
 unfold fC
 split <;> simp <;> omega
theorem D.Di (list:List A) (level:Nat) (rl:List (Ru × Nat)) (k:Nat) (h:k < rl.length):iL list level (rl.take (k+1))=(if rl[k].2=level then DN list rl[k].1 (iL list level (rl.take k)) else iL list level (rl.take k)):=by
 unfold iL;rw [ρ h,List.foldl_append];rfl
theorem D.Uz (list:List A) (r:Ru) (out:List A) (k:Nat) (h:k < (allB list r.body).length):((allB list r.body).take (k+1)).foldl (fun o b=>fC o (aY r.head b)) out=fC (((allB list r.body).take k).foldl (fun o b=>fC o (aY r.head b)) out) (aY r.head (allB list r.body)[k]):=by
 rw [ρ h,List.foldl_append];rfl
theorem D.EH {bb I:List Nat} {xs X:List A} {v:Value} {y w':World} {e:Ending} (h:LZ bb xs X v y.heap.size y e w') (ha:aQ y [v] xs I) (hs:∀ c ∈ I,c ∈ bb):
  Below y.heap.size y w'∧∃ A cap J,e=.returned (.slice A X.length cap)∧aQ w' [.slice A X.length cap] X J∧∀ c ∈ J,c ∈ bb∨y.heap.size≤c:=by
 obtain ⟨U,v',bs',rfl,h3,h4⟩:=h;refine ⟨U,?_⟩
 rcases h4 with ⟨rfl,rfl⟩ | ⟨L,b9,hC,h9⟩
 ·obtain ⟨A,cap,rfl,_⟩:=ai ha
  exact ⟨A,cap,I,rfl,au.below ha U,fun c hc=>.inl (hs c hc)⟩
 ·obtain ⟨b2,h5,h6⟩:=hC.slice
  obtain ⟨A,cap,rfl,_⟩:=ai h5;exact ⟨A,cap,b2,rfl,h5,fun c hc=>(h6 c hc).elim .inr fun h=>.inl (h9 c h)⟩
theorem RQ (rs:List Ru) (lv:List Nat) (level:Nat) (list:List A) (v0 v1 v3:Value) (b0 b1 b3:List Nat) (w:World) (hr:dD w [v0] rs b0) (hv:jf w [v1] lv b1) (hl:aQ w [v3] list b3)
  (hlen:lv.length=rs.length) (aa:iF list=true) (hn:list.length≤300) (hm:rs.length≤8) (hb:∀ r ∈ rs,r.body.length≤4∧r.head.args.length≤1000∧∀ p ∈ r.body,p.atom.args.length≤1000):
  Calls Tryz.prog 123 #[v0,v1,.int .i64 level,v3] w fun e w'=>Below w.heap.size w w'∧∃ v bs,e=.returned v∧aQ w' [v] (iL list level (rs.zip lv)) bs∧∀ c ∈ bs,w.heap.size≤c:=by
 obtain ⟨Ar,pr,rfl,b9,bc⟩:=ai hr;obtain ⟨Av,pv,rfl,bf,bg⟩:=ai hv;obtain ⟨Al,pl,rfl,bh,bi⟩:=ai hl;have HR:=η hr;have HV:=η hv;have HL:=η hl;have HB:=η hb;have ac:=η hlen;have hE:aQ (w.alloc (.cells #[] 40)) [.slice (some ⟨w.heap.size,0,none⟩) 0 0] [] []:=qO;have hA:Below w.heap.size w (w.alloc (.cells #[] 40)):=ζ;clear hr hv hl b9 bc bf bg bh bi hb hlen
 go_enter Tryz.func123,Tryz.ntmps123
 go_wp2_with fail
 generalize w.alloc (.cells #[] 40)=w0 at *
 go_loopw [9,10,11,12] (fun o i _ _ wr=>∃ (k:Nat) (out:List A) (bo:List Nat),k≤rs.length∧i=.int .i64 k∧Hid (out=iL list level ((rs.zip lv).take k))∧out.length≤k * 8100000000∧iF out=true∧Hid (aQ wr [o] out bo)∧Hid (∀ c ∈ bo,w.heap.size≤c)∧Hid (Below w.heap.size w wr)) (fun _ i _ _ _=>rs.length - (intOf i).toNat)
 case atStart=>exact ⟨0,[],[],ε,rfl,η rfl,ε,rfl,η hE,η (fun c hc=>by cases hc),η hA⟩
 case round=>
  obtain ⟨k,out,bo,hk,rfl,ho,bj,ae,hO,a5,I⟩:=hrel;clear hE hA;by_cases a0:k < rs.length
  ·have c6:(0:Int)≤(k:Int):=by omega
   have bl:(k:Int) < (rs.length:Int):=by omega
   have bn:k < lv.length:=by have:=ac.out; omega
   have af:k < (rs.zip lv).length:=by rw [List.length_zip]; omega
   have c7:(k:Int) < (lv.length:Int):=by omega
   obtain ⟨vb,vo,rfl,_,ev⟩:=oQ (dG.below HV.out I.out) bn;obtain ⟨rb,ro,Ah,ch,Ab,cb,br,rfl,_,e0,e1,e2,ag,_⟩:=eF (aI.below HR.out I.out) a0;have J:=η (Di list level (rs.zip lv) k af);rw [List.getElem_zip] at J;dsimp only at J;have a1:=η (HB.out _ (δ a0));have am:=η ag;generalize wr=wo at *;generalize rs[k]=r at *;generalize lv[k]=l at *;clear ag af;by_cases a2:l=level
   ·have bp:(l:Int)=(level:Int):=by omega
    have HE:Hid (DN list r out=iL list level ((rs.zip lv).take (k+1))):=η (by rw [J.out,← ho.out,if_pos a2])
    obtain ⟨bt,bq,bu⟩:Hid (∃ b1,aP wo [.string r.head.name,.slice Ah r.head.args.length ch] r.head b1)∧∃ bq,Hid (gJ wo [.slice Ab r.body.length cb] r.body bq):=by
     obtain ⟨s,t,b1,b2,ap,bv,_,ht,hp⟩:=am.out;simp only [List.cons.injEq,true_and,and_true] at ap;obtain ⟨rfl,rfl⟩:=ap;exact ⟨η ⟨b1,_,rfl,bv,ht⟩,b2,η hp⟩
    have q5:=Uw list r.body _ _ b3 bq wo (au.below HL.out I.out) bu.out aa hn a1.out.1 a1.out.2.2;have a6:=η (Jw hn a1.out.1);clear J ho am a2
    go_wp2_with fail
    refine q5.mono ?_;rintro e w5 ⟨a3,v5,b5,rfl,h5⟩;obtain ⟨A5,p5,rfl,bw,bx⟩:=ai h5;have H5:=η h5;have B5:=η (I.out.trans (a3.mono I.out.size));have C5:=η a3;have aq:=η (au.below hO.out a3);clear q5 h5 a3 bw bx hO
    go_wp2_with fail
    go_loopw [9,12] (fun o i wr=>∃ (q:Nat) (ys:List A) (ar:List Nat),q≤(allB list r.body).length∧i=.int .i64 q∧Hid (ys=((allB list r.body).take q).foldl (fun o b=>fC o (aY r.head b)) out)∧Hid (ys.length≤out.length+q)∧iF ys=true∧Hid (aQ wr [o] ys ar)∧Hid (∀ c ∈ ar,w.heap.size≤c)∧Hid (Below w5.heap.size w5 wr)) (fun _ i _=>(allB list r.body).length - (intOf i).toNat)
    case atStart=>exact ⟨0,out,bo,ε,rfl,η rfl,η ν,ae,aq,a5,η ϑ⟩
    case round=>
     obtain ⟨q,ys,av,hq,rfl,a4,U,a7,hY,aw,y⟩:=hrel;clear aq;by_cases a8:q < (allB list r.body).length
     ·have c8:(0:Int)≤(q:Int):=by omega
      have bz:(q:Int) < ((allB list r.body).length:Int):=by omega
      have c9:q≤8100000000:=by have:=a6.out; omega
      obtain ⟨ab,ao,A1,p1,A2,p2,bk,rfl,_,d0,d1,az,_⟩:=xC (lm.below H5.out y.out) a8;have g0:=ξ y.out (ξ C5.out e0);have g1:=ξ y.out (ξ C5.out e1);have aD:=η (Uz list r out q a8)
      have aE:ys.length≤100000000000:=by
       have h1:=U.out;have h2:=a6.out;have h3:k * 8100000000≤8 * 8100000000:=Nat.mul_le_mul_right _ (by omega);omega
      generalize (allB list r.body)[q]=b0 at *;have hD:Below wr.heap.size wr wr.drew:=Below.drew ϑ;have Q1:=η fun w' (hb:Below wr.heap.size wr w')=>bt.out.elim fun b1 h1=>CO r.head b0 _ _ _ _ b1 bk w' (ak.below h1 (C5.out.trans ((y.out.mono C5.out.size).trans (hb.mono (τ C5.out.size y.out.size))))) (bJ.below az hb) (τ a1.out.2.1 (by omega))
      have Q2:=η fun w' (hb:Below wr.heap.size wr w') c0 c1 b6 (h6:aP w' [c0,c1] (aY r.head b0) b6)=>EC ys (aY r.head b0) _ c0 c1 av b6 w' (au.below hY.out hb) h6 a7 aE
      have a9:=η hD;clear az hD
      go_wp2_with fail
      go_region_held3 (fun w'=>w'.cell? ⟨rb,ro+k * 3,none⟩=some (.string r.head.name)∧w'.cell? ⟨rb,ro+k * 3+1,none⟩=some (.slice Ah r.head.args.length ch)∧w'.cell? ⟨ab,ao+q * 2,none⟩=some (.slice A1 b0.length p1)∧w'.cell? ⟨ab,ao+q * 2+1,none⟩=some (.slice A2 b0.length p2))
       (first | go_keep | exact aL | exact aM)
       (first
        | (go_at_call 131; refine (Q1.out _ a9.out).mono ?_; rintro e w6 ⟨aR,x0,x1,b6,rfl,h6,bA⟩; have B6:=a9.out.trans (aR.mono a9.out.size); have aL:=ι (ξ B6 g0) (ι (ξ B6 g1) (ι (ξ B6 d0) (ξ B6 d1))))
        | (go_at_call 161; refine (Q2.out _ B6 _ _ _ h6).mono ?_; rintro e w7 bB; obtain ⟨b4,A7,p7,b7,rfl,h7,bE⟩:=EH bB (au.below hY.out B6) (fun c hc=>Ξ _ hc); have B7:=B6.trans (b4.mono B6.size); have aM:=ι (ξ B7 g0) (ι (ξ B7 g1) (ι (ξ B7 d0) (ξ B7 d1)))))
      have bL:=η (y.out.trans (B7.mono y.out.size));have bO:Hid (fC ys (aY r.head b0)=((allB list r.body).take (q+1)).foldl (fun o b=>fC o (aY r.head b)) out):=η (by rw [aD.out,a4.out]);have bR:=η (τ (Gq ys (aY r.head b0)) (Nat.succ_le_succ U.out));have b8:=Fg a7 (aY r.head b0);have H7:=η h7
      have bX:Hid (∀ c ∈ b7,w.heap.size≤c):=η fun c hc=>by
       have s1:=I.out.size;have s2:=C5.out.size;have s3:=y.out.size;have s4:=B6.size
       rcases bE c hc with h | h
       ·rcases μ.1 h with h | h
        ·exact aw.out c h
        ·have:=bA c h
         have e9:wr.drew.heap.size=wr.heap.size:=rfl;omega
       ·omega
      clear Q1 Q2 aL aM h6 aR b4 h7 B6 B7 g0 g1 d0 d1 aD a4 U aE;go_wp2;go_roundw
      case rel=>exact ⟨q+1,_,_,a8,by go_num,bO,bR,b8,H7,bX,bL⟩
      case measure=>simp [intOf]; omega
     ·have he:q=(allB list r.body).length:=by omega
      have bz:¬ (q:Int) < ((allB list r.body).length:Int):=by omega
      have c3:Hid (ys=iL list level ((rs.zip lv).take (k+1))):=η (by
       rw [← HE.out,a4.out,he,ϕ ν]
       rfl)
      have c4:Hid (ys.length≤(k+1) * 8100000000):=η (by
       have h1:=U.out;have h2:=a6.out;rw [Nat.add_mul]
       omega)
      have c5:=η (B5.out.trans (y.out.mono B5.out.size));clear he a4 U;go_wp2;go_roundw
      case rel=>exact ⟨k+1,ys,av,a0,by go_num,c3,c4.out,a7,hY,aw,c5⟩
      case measure=>simp [intOf]; omega
   ·have bp:¬ (l:Int)=(level:Int):=by omega
    have HE:Hid (out=iL list level ((rs.zip lv).take (k+1))):=η (by rw [J.out,← ho.out,if_neg a2]);clear J a2;go_wp2;go_roundw
    case rel=>exact ⟨k+1,out,bo,a0,by go_num,HE,τ bj (Nat.mul_le_mul_right _ (Nat.le_succ k)),ae,hO,a5,I⟩
    case measure=>simp [intOf]; omega
  ·have he:k=rs.length:=by omega
   have bl:¬ (k:Int) < (rs.length:Int):=by omega
   have HE:Hid (out=iL list level (rs.zip lv)):=η (by rw [ho.out,he,ϕ (by rw [List.length_zip]; omega)]);clear he ho;go_wp2;go_ret;exact ⟨I.out,_,rfl,bo,by rw [← HE.out]; exact hO.out,a5.out⟩
theorem D.RS {a b:ByteArray} (h:¬ a=b):¬ a.toList=b.toList:=by
 rw [ByteArray.toList_eq,ByteArray.toList_eq];exact fun e=>h (ByteArray.ext (Array.toList_inj.mp e))
theorem D.xJ {a:ByteArray} (h:a ≠ ⟨#[]⟩):a.toList.isEmpty=false:=by
 rw [ByteArray.toList_eq,List.isEmpty_eq_false_iff];intro e;apply h;apply ByteArray.ext;exact Array.toList_inj.mp e
theorem D.xK:(⟨#[]⟩:ByteArray).toList.isEmpty=true:=by rw [ByteArray.toList_eq]; rfl
structure D.jm (vars:List ByteArray) (blk o:Nat) (w:World) (b:Bd) (w':World):Prop where
 at_:fQ vars b blk o w'
 ok:iW vars b
 kept:cO blk o w w'
def D.mY (y:List T):Prop:=∀ t ∈ y,t.var=false∧t.name ≠ ⟨#[]⟩
def D.Jy (vars:List ByteArray) (blk o:Nat) (w:World) (y:List T) (m:Bd × Bool) (e:Ending) (w':World):Prop:=
 ∃ (I:Bd) (r:Bool),e=.returned (.bool r)∧jm vars blk o w I w'∧(mY y→m=(I,r))∧(¬ mY y→r=false)
theorem D.Jy.no {vars:List ByteArray} {blk o:Nat} {w w':World} {I:List T} {m:Bd × Bool} {y:Bd} (h:jm vars blk o w y w') (hm:mY I→m=(y,false)):Jy vars blk o w I m (.returned (.bool false)) w':=⟨y,false,rfl,h,hm,fun _=>rfl⟩
theorem vN (vars:List ByteArray) (hv:ji vars) (b:Bd) (am:iW vars b) (a f:A) (Ae Af:Option Addr) (ce cf:Nat) (b1 b2:List Nat) (blk o:Nat) (w:World) (hb:fQ vars b blk o w) (h:jG vars w [.slice Ae a.args.length ce] a.args b1)
  (hf:fD w [.slice Af f.args.length cf] f.args b2) (hin:∀ t ∈ a.args,t.var=true→t.name ∈ vars) (hc:∀ t ∈ a.args,t.var=false→t.name ≠ ⟨#[]⟩) (h1:blk ∉ b1) (h2:blk ∉ b2) (bo:a.args.length≤1000000):
  Calls Tryz.prog 85 #[.pointer (some ⟨blk,o,none⟩),.agg #[.string a.name,.slice Ae a.args.length ce],.agg #[.string f.name,.slice Af f.args.length cf]] w (Jy vars blk o w f.args (aC a f b)):=by
 obtain ⟨an,args⟩:=a;obtain ⟨fn,y⟩:=f;dsimp only at *;have hA:Below w.heap.size w ((w.alloc (.cells #[.string an,.slice Ae args.length ce] 143)).alloc (.cells #[.string fn,.slice Af y.length cf] 40)):=(ζ).alloc (by simp) _;have HA:=η hA;have a0:=hb.lt;by_cases ao:an=fn∧args.length=y.length
 rotate_left
 ·have e0:aC ⟨an,args⟩ ⟨fn,y⟩ b=(b,false):=by unfold aC; rw [if_neg ao]
  rw [e0];have HP:Hid (jm vars blk o w b ((w.alloc (.cells #[.string an,.slice Ae args.length ce] 143)).alloc (.cells #[.string fn,.slice Af y.length cf] 40))):=η ⟨hb.keep (hA.block _ a0),am,cO.of_below hA a0⟩;clear hA hb hf h e0;by_cases hn:an=fn
  ·have hl:¬ ((args.length:Nat):Int)=((y.length:Nat):Int):=fun e=>ao ⟨hn,by omega⟩
   subst hn
   go_enter Tryz.func85,Tryz.ntmps85
   go_wp2;go_ret;exact Jy.no HP.out fun _=>rfl
  ·have bX:=RS hn
   go_enter Tryz.func85,Tryz.ntmps85
   go_wp2;go_ret;exact Jy.no HP.out fun _=>rfl
 ·obtain ⟨rfl,hl⟩:=ao
  have e0:aC ⟨an,args⟩ ⟨an,y⟩ b=bZ args y b:=by unfold aC; rw [if_pos ⟨rfl,hl⟩]
  rw [e0,hl];rw [hl] at h hA HA bo;have bp:(w.alloc (.cells #[.string an,.slice Ae y.length ce] 143)).heap.size=w.heap.size+1:=by simp
  have aE:((w.alloc (.cells #[.string an,.slice Ae y.length ce] 143)).alloc (.cells #[.string an,.slice Af y.length cf] 40)).heap[w.heap.size+1]? = some (.cells #[.string an,.slice Af y.length cf] 40 (0,0)):=by
   have:=ω (w.alloc (.cells #[.string an,.slice Ae y.length ce] 143)) (.cells #[.string an,.slice Af y.length cf] 40);simpa using this
  have HX:=η (ι h (ι hf (ι hin hc)))
  have aL:Hid ((mY y→bZ args y b=bZ (args.drop 0) (y.drop 0) b)∧(∀ j (h:j < y.length),j < 0→y[j].var=false∧y[j].name ≠ ⟨#[]⟩)∧jm vars blk o w b ((w.alloc (.cells #[.string an,.slice Ae y.length ce] 143)).alloc (.cells #[.string an,.slice Af y.length cf] 40))∧((w.alloc (.cells #[.string an,.slice Ae y.length ce] 143)).alloc (.cells #[.string an,.slice Af y.length cf] 40)).heap[w.heap.size+1]? = some (.cells #[.string an,.slice Af y.length cf] 40 (0,0))):=
   η ⟨fun _=>rfl,fun j _ hj=>absurd hj (by omega),⟨hb.keep (hA.block _ a0),am,cO.of_below hA a0⟩,aE⟩
  clear hA hb hf h e0 hin hc am HA aE bp
  go_enter Tryz.func85,Tryz.ntmps85
  go_wp2;generalize (w.alloc (.cells #[.string an,.slice Ae y.length ce] 143)).alloc (.cells #[.string an,.slice Af y.length cf] 40)=W at *
  go_loopw [28] (fun i wr=>∃ (k:Nat) (I:Bd),k≤y.length∧i=.int .i64 k∧(mY y→bZ args y b=bZ (args.drop k) (y.drop k) I)∧(∀ j (h:j < y.length),j < k→y[j].var=false∧y[j].name ≠ ⟨#[]⟩)∧jm vars blk o w I wr∧wr.heap[w.heap.size+1]? = some (.cells #[.string an,.slice Af y.length cf] 40 (0,0))) (fun i _=>y.length - (intOf i).toNat)
  case atStart=>exact ⟨0,b,ε,rfl,aL.out⟩
  case round=>
   obtain ⟨k,I,hk,rfl,a6,ab,hI,hq⟩:=hrel;clear aL;by_cases a2:k < y.length
   ·have a9:k < args.length:=by omega
    have c0:=hI.kept.grow.size;obtain ⟨bq,oq,rfl,bO,f0,f1,br⟩:=xq (hI.kept.keep (bU vars) HX.out.1 h1) a9;obtain ⟨aM,aR,rfl,bR,g0,g1,b3⟩:=dN (hI.kept.keep aG HX.out.2.1 h2) a2;have ap:=η (HX.out.2.2.1 _ (δ a9));have HC:=η (HX.out.2.2.2 _ (δ a9));have b4:args.drop k=args[k] :: args.drop (k+1):=List.drop_eq_getElem_cons a9;have b5:y.drop k=y[k] :: y.drop (k+1):=List.drop_eq_getElem_cons a2;rw [b4,b5,Jg hI.ok _ _ _ _ HC.out] at a6;have aq:Hid (¬ (y[k].var=false∧y[k].name ≠ ⟨#[]⟩)→¬ mY y):=η fun h1 h2=>h1 (h2 _ (δ a2))
    have b6:Hid (y[k].var=false→y[k].name ≠ ⟨#[]⟩→∀ j (h:j < y.length),j < k+1→y[j].var=false∧y[j].name ≠ ⟨#[]⟩):=η fun h1 h2 j h hj=>by
     by_cases e:j=k
     ·subst e; exact ⟨h1,h2⟩
     ·exact ab j h (by omega)
    have a7:Below wr.heap.size wr (wr.alloc (.cells #[.int .i64 (jE vars args[k]),.string (jF args[k])] 225)):=ζ;have b7:=hI.at_.keep (a7.block _ hI.at_.lt);have a1:=vM vars hv I args[k] ap.out blk o _ b7;have c3:=ξ a7 g0;have c4:=ξ a7 g1;have b8:wr.cell? ⟨w.heap.size+1,1,none⟩=some (.slice (some ⟨aM,aR,none⟩) y.length cf):=aj hq;replace b8:=ξ a7 b8;have b9:=ψ hq;have c5:(0:Int)≤(k:Int):=by omega
    have bs:(k:Int) < (y.length:Int):=by omega
    have J:=η a6;have HI:=η hI;have aa:=η a7;have HQ:=η hq;have ac:=η a2;have bt:=η b3;clear g0 g1;clear hI a7 b7 a6 b4 b5 hq br b3 hk ab;generalize hsn:jE vars args[k]=sn at *;generalize hss:jF args[k]=ss at *;generalize args[k]=t at *;generalize y[k]=f at *;obtain ⟨fv,fw⟩:=f;dsimp only at *;have bc:=η hsn;clear a9 a2 hsn hss;have ar:=η (jm.mk (HI.out.at_.keep (aa.out.block _ HI.out.at_.lt)) HI.out.ok (HI.out.kept.trans (cO.of_below aa.out HI.out.at_.lt)));cases fv
    rotate_left
    ·clear a1 J
     go_wp2;go_ret;exact Jy.no ar.out fun h=>absurd h (aq.out (by simp))
    by_cases ae:fw=⟨#[]⟩
    ·have bf:=xK
     subst ae;clear a1 J;go_wp2;go_ret;exact Jy.no ar.out fun h=>absurd h (aq.out (by simp))
    have bf:=xJ ae;have bg:=η (b6.out rfl ae);clear aq b6 ar
    go_wp2_with fail
    refine a1.mono ?_;rintro e w2 ⟨rfl,av⟩;have a4:=aa.out.trans (av.mono aa.out.size);have z0:w2.cell? ⟨wr.heap.size,0,none⟩=some (.int .i64 sn):=ξ av (by go_simp);have c6:wr.heap.size < w2.heap.size:=lt_of_cell z0;have U:=η (HI.out.at_.keep (a4.block _ HI.out.at_.lt));have af:=η (HI.out.kept.trans (cO.of_below a4 HI.out.at_.lt));have aw:=η ((a4.block _ b9).trans HQ.out);have a8:=η HI.out.ok;have bu:Hid (blk ≠ wr.heap.size):=η (by omega);clear a1 av a4 HI HQ aa;by_cases hw:(dw I t).name=⟨#[]⟩
    ·obtain ⟨az,ag⟩:=Md a8.out HC.out hw
     have hw':=xK;replace J:=η (fun h=>(J.out h).trans (if_pos hw));rw [hw];have hn:=ap.out az;have hi:=List.idxOf_lt_length_of_mem hn;have bh:=hv.few;have hlen:=a8.out.lt hn ag;have bv:sn=((vars.idxOf t.name:Nat):Int):=by rw [← bc.out]; unfold jE; simp [az]
     have bw:=η (a8.out.snoc hn ag ae bt.out);have a3:=U.out.bind hv a8.out hn ag (v:=fw);subst bv;clear az ag bc hw HC ap hn;generalize t.name=nm at *;generalize vars.idxOf nm=j at *;have bx:=U.out.bd I.length (by omega);obtain ⟨zb,aD,_⟩:=bx;have x0:=U.out.wd j (by omega);have x1:=U.out.fz j (by omega);have x2:=U.out.ct;have x3:=U.out.fz 24 (by omega);have x4:=U.out.fz (12+I.length) (by omega);rw [← Nat.add_assoc] at x4;have c7:(0:Int)≤(j:Int):=by omega
     have c8:(j:Int) < 12:=by omega
     have c9:(0:Int)≤(I.length:Int):=by omega
     have ca:(I.length:Int) < 12:=by omega
     have p1:=D.jH w2 blk (o+j) (.string fw) x0;have p2:=D.jH (w2.setCell ⟨blk,o+j,none⟩ (.string fw)) blk (o+12+I.length) (.int .i64 (j:Nat)) (u:=.int .i64 zb) (by rw [p1,if_neg (by omega)]; exact aD);have bi:blk ≠ wr.heap.size:=bu.out;have bz:blk ≠ w.heap.size+1:=by omega
     have z1:(w2.setCell ⟨blk,o+j,none⟩ (.string fw)).drew.cell? ⟨wr.heap.size,0,none⟩=some (.int .i64 (j:Nat)):=(World.cell?_setCell_far _ _ _ _ bi).trans z0;have c1:(w2.setCell ⟨blk,o+j,none⟩ (.string fw)).drew.cell? ⟨blk,o+24,none⟩=some (.int .i64 I.length):=((p1 _).trans (if_neg (by omega))).trans x2;have d1:(w2.setCell ⟨blk,o+j,none⟩ (.string fw)).drew.cell? ⟨blk,o+12+I.length,none⟩=some (.int .i64 zb):=((p1 _).trans (if_neg (by omega))).trans aD;have c2:((w2.setCell ⟨blk,o+j,none⟩ (.string fw)).drew.setCell ⟨blk,o+12+I.length,none⟩ (.int .i64 (j:Nat))).drew.cell? ⟨blk,o+24,none⟩=some (.int .i64 I.length):=((p2 _).trans (if_neg (by omega))).trans c1;have g1:(w2.setCell ⟨blk,o+j,none⟩ (.string fw)).drew.frozen? ⟨blk,o+12+I.length,none⟩=false:=(World.frozen?_setCell _ _ _ _).trans x4
     have g2:((w2.setCell ⟨blk,o+j,none⟩ (.string fw)).drew.setCell ⟨blk,o+12+I.length,none⟩ (.int .i64 (j:Nat))).drew.frozen? ⟨blk,o+24,none⟩=false:=(World.frozen?_setCell _ _ _ _).trans ((World.frozen?_setCell _ _ _ _).trans x3)
     have a5:fQ vars (I ++ [(nm,fw)]) blk o (((w2.setCell ⟨blk,o+j,none⟩ (.string fw)).drew.setCell ⟨blk,o+12+I.length,none⟩ (.int .i64 (j:Nat))).drew.setCell ⟨blk,o+24,none⟩ (.int .i64 ((I.length:Int)+1))):=by
      have e:(((I ++ [(nm,fw)]).length:Nat):Int)=(I.length:Int)+1:=by simp
      rw [e] at a3;exact a3.keep rfl
     have bj:cO blk o w (((w2.setCell ⟨blk,o+j,none⟩ (.string fw)).drew.setCell ⟨blk,o+12+I.length,none⟩ (.int .i64 (j:Nat))).drew.setCell ⟨blk,o+24,none⟩ (.int .i64 ((I.length:Int)+1))):=by
      have k1:=af.out.trans (cO.put w2 j (by omega) (.string fw));have k2:=k1.trans (cO.of_below (ϑ.drew) (κ a0 k1.grow.size));have k3:=k2.trans (by have:=cO.put (blk:=blk) (o:=o) (w2.setCell ⟨blk,o+j,none⟩ (.string fw)).drew (12+I.length) (by omega) (.int .i64 (j:Nat)); rw [← Nat.add_assoc] at this; exact this);have k4:=k3.trans (cO.of_below (ϑ.drew) (κ a0 k3.grow.size));exact k4.trans (cO.put _ 24 (by omega) _)
     have bl:(((w2.setCell ⟨blk,o+j,none⟩ (.string fw)).drew.setCell ⟨blk,o+12+I.length,none⟩ (.int .i64 (j:Nat))).drew.setCell ⟨blk,o+24,none⟩ (.int .i64 ((I.length:Int)+1))).heap[w.heap.size+1]? = some (.cells #[.string an,.slice (some ⟨aM,aR,none⟩) y.length cf] 40 (0,0)):=by
      rw [π _ _ _ _ (by show w.heap.size+1 ≠ blk; omega)];show (World.setCell _ _ _).heap[_]? = _;rw [π _ _ _ _ (by show w.heap.size+1 ≠ blk; omega)];show (World.setCell _ _ _).heap[_]? = _;rw [π _ _ _ _ (by show w.heap.size+1 ≠ blk; omega)];exact aw.out
     have bA:=η a5;have bB:=η bj;have bE:=η bl;clear a3 a5 p1 p2 hi hlen bh bi bz bj bl af aw U;go_wp2;go_region;generalize (w2.setCell ⟨blk,o+j,none⟩ (.string fw)).drew=S1 at *;clear x0 x1 x2 x3 x4 aD z0;go_wp2;go_region;generalize (S1.setCell ⟨blk,o+12+I.length,none⟩ (.int .i64 (j:Nat))).drew=S2 at *;clear c1 d1 z1 g1;go_wp2;go_roundw
     case rel=>exact ⟨k+1,_,ac.out,by go_num,J.out,bg.out,⟨bA.out,bw.out,bB.out⟩,bE.out⟩
     case measure=>have:=ac.out; simp [intOf]; omega
    ·have hw':=xJ hw
     by_cases he:(dw I t).name=fw
     ·replace J:=η (fun h=>(J.out h).trans ((if_neg hw).trans (if_pos he)))
      rw [he] at *;go_wp2;go_roundw
      case rel=>exact ⟨k+1,I,ac.out,by go_num,J.out,bg.out,⟨U.out,a8.out,af.out⟩,aw.out⟩
      case measure=>have:=ac.out; simp [intOf]; omega
     ·have bL:=RS he
      have cb:((dw I t).name.toList == fw.toList)=false:=by simpa using bL
      replace J:=η (fun h=>(J.out h).trans ((if_neg hw).trans (if_neg he)));have HP:=η (jm.mk U.out a8.out af.out);go_wp2;go_ret;exact Jy.no HP.out J.out
   ·have he:k=y.length:=by omega
    have bs:¬ (k:Int) < (y.length:Int):=by omega
    rw [List.drop_of_length_le (by omega),List.drop_of_length_le (by omega)] at a6
    have bn:mY y:=fun t ht=>by
     obtain ⟨j,hj,rfl⟩:=List.getElem_of_mem ht;exact ab j hj (by omega)
    have e9:bZ args y b=(I,true):=by rw [a6 bn]; rfl
    have HP:=η hI;rw [e9];clear hI hq a6 ab;go_wp2;go_ret;exact ⟨I,true,rfl,HP.out,fun _=>rfl,fun h=>absurd bn h⟩
theorem Dj (vars:List ByteArray) (hv:ji vars) (b:Bd) (y:iW vars b) (a f:A) (I J:Option Addr) (U cf:Nat) (b1 b2:List Nat) (blk o:Nat) (w:World) (hb:fQ vars b blk o w) (h:jG vars w [.slice I a.args.length U] a.args b1)
  (hf:fD w [.slice J f.args.length cf] f.args b2) (hin:∀ t ∈ a.args,t.var=true→t.name ∈ vars) (hc:∀ t ∈ a.args,t.var=false→t.name ≠ ⟨#[]⟩) (hg:∀ t ∈ f.args,t.var=false∧t.name ≠ ⟨#[]⟩) (h1:blk ∉ b1) (h2:blk ∉ b2) (a0:a.args.length≤1000000):
  Calls Tryz.prog 85 #[.pointer (some ⟨blk,o,none⟩),.agg #[.string a.name,.slice I a.args.length U],.agg #[.string f.name,.slice J f.args.length cf]] w fun e w'=>e=.returned (.bool (aC a f b).2)∧jm vars blk o w (aC a f b).1 w':=
 (vN vars hv b y a f I J U cf b1 b2 blk o w hb h hf hin hc h1 h2 a0).mono fun e w' ⟨bo,r,h3,h4,h5,_⟩=>by
  rw [h5 hg];exact ⟨h3,h4⟩
end Go.Proofs.YtlmngncogomgeaaGreatDoor
