/- Of the proof of FnDelta: OnceS, ProgC, ChI, FrmI, ChS, OfS. -/
import Derived.Test.YtkjinanbccloeaaGreatDoorA25
import Derived.Test.YtkjinanbccloeaaGreatDoorA21
import Derived.Test.YtkjinanbccloeaaGreatDoorA26
set_option linter.unusedVariables false
set_option maxHeartbeats 8000000
set_option maxRecDepth 100000
namespace Go.Proofs.YtkjinanbccloeaaGreatDoor
open Go.RowKit D
attribute [local go_sem ↓] Go.wp_at_zero Go.wp_at_succ
def D.ES (list:List A) (r:Ru) (out:List A):List A:=(allB list r.body).foldl (fun o b=>eF o (cu r.head b)) out
def D.jh (list:List A) (level:Nat) (rl:List (Ru × Nat)):List A:=rl.foldl (fun out p=>if p.2=level then ES list p.1 out else out) []
theorem D.UM {list:List A} (y:list.length≤300) (body:List Pt):(xU list body).length≤300 ^ body.length:=by
 have h:∀ k,k≤body.length→(xU list (body.take k)).length≤300 ^ k:=by
  intro k
  induction k with
  | zero=>intro _; simp [xU]
  | succ k ih=>
   intro I;rw [uV list body k (by omega)];exact QD y (ih (by omega))
 have:=h body.length ν
 rwa [ϕ ν] at this
theorem D.LZ {list:List A} (y:list.length≤300) {body:List Pt} (hb:body.length≤4):(allB list body).length≤8100000000:=
 τ (List.length_filter_le _ _) (τ (UM y body) (τ (Nat.pow_le_pow_right (by omega) hb) (by decide)))
theorem D.IA (xs:List A) (a:A):(eF xs a).length≤xs.length+1:=by
 unfold eF
 split <;> simp <;> omega
theorem D.En (list:List A) (level:Nat) (rl:List (Ru × Nat)) (k:Nat) (h:k < rl.length):jh list level (rl.take (k+1))=(if rl[k].2=level then ES list rl[k].1 (jh list level (rl.take k)) else jh list level (rl.take k)):=by
 unfold jh;rw [ρ h,List.foldl_append];rfl
theorem D.WM (list:List A) (r:Ru) (out:List A) (k:Nat) (h:k < (allB list r.body).length):((allB list r.body).take (k+1)).foldl (fun o b=>eF o (cu r.head b)) out=eF (((allB list r.body).take k).foldl (fun o b=>eF o (cu r.head b)) out) (cu r.head (allB list r.body)[k]):=by
 rw [ρ h,List.foldl_append];rfl
theorem D.Gz {bb bs:List Nat} {xs X:List A} {v:Value} {y w':World} {e:Ending} (h:Il bb xs X v y.heap.size y e w') (ha:aB y [v] xs bs) (U:∀ c ∈ bs,c ∈ bb):
  Below y.heap.size y w'∧∃ A cap I,e=.returned (.slice A X.length cap)∧aB w' [.slice A X.length cap] X I∧∀ c ∈ I,c ∈ bb∨y.heap.size≤c:=by
 obtain ⟨hb,v',bs',rfl,h3,h4⟩:=h;refine ⟨hb,?_⟩
 rcases h4 with ⟨rfl,rfl⟩ | ⟨L,b9,hC,h9⟩
 ·obtain ⟨A,cap,rfl,_⟩:=aj ha
  exact ⟨A,cap,bs,rfl,ak.below ha hb,fun c hc=>.inl (U c hc)⟩
 ·obtain ⟨b2,J,h6⟩:=hC.slice
  obtain ⟨A,cap,rfl,_⟩:=aj J;exact ⟨A,cap,b2,rfl,J,fun c hc=>(h6 c hc).elim .inr fun h=>.inl (h9 c h)⟩
theorem UN (rs:List Ru) (lv:List Nat) (level:Nat) (list:List A) (v0 v1 v3:Value) (b0 b1 b3:List Nat) (w:World) (hr:eu w [v0] rs b0) (hv:jM w [v1] lv b1) (hl:aB w [v3] list b3)
  (hlen:lv.length=rs.length) (aa:fU list=true) (hn:list.length≤300) (hm:rs.length≤8) (hb:∀ r ∈ rs,r.body.length≤4∧r.head.args.length≤1000∧∀ p ∈ r.body,p.atom.args.length≤1000):
  Calls Tryz.prog 110 #[v0,v1,.int .i64 level,v3] w fun e w'=>Below w.heap.size w w'∧∃ v bs,e=.returned v∧aB w' [v] (jh list level (rs.zip lv)) bs∧∀ c ∈ bs,w.heap.size≤c:=by
 obtain ⟨Ar,pr,rfl,bc,bf⟩:=aj hr;obtain ⟨Av,pv,rfl,bg,bh⟩:=aj hv;obtain ⟨Al,pl,rfl,bi,bj⟩:=aj hl;have HR:=η hr;have HV:=η hv;have HL:=η hl;have HB:=η hb;have ac:=η hlen;have hE:aB (w.alloc (.cells #[] 33)) [.slice (some ⟨w.heap.size,0,none⟩) 0 0] [] []:=sV;have hA:Below w.heap.size w (w.alloc (.cells #[] 33)):=ζ;clear hr hv hl bc bf bg bh bi bj hb hlen
 go_enter Tryz.func110,Tryz.ntmps110
 go_wp2_with fail
 generalize w.alloc (.cells #[] 33)=w0 at *
 go_loopw [9,10,11,12] (fun o i _ _ wr=>∃ (k:Nat) (out:List A) (bo:List Nat),k≤rs.length∧i=.int .i64 k∧Hid (out=jh list level ((rs.zip lv).take k))∧out.length≤k * 8100000000∧fU out=true∧Hid (aB wr [o] out bo)∧Hid (∀ c ∈ bo,w.heap.size≤c)∧Hid (Below w.heap.size w wr)) (fun _ i _ _ _=>rs.length - (intOf i).toNat)
 case atStart=>exact ⟨0,[],[],ε,rfl,η rfl,ε,rfl,η hE,η (fun c hc=>by cases hc),η hA⟩
 case round=>
  obtain ⟨k,out,bo,hk,rfl,ho,bl,ae,hO,a5,I⟩:=hrel;clear hE hA;by_cases a0:k < rs.length
  ·have c7:(0:Int)≤(k:Int):=by omega
   have bn:(k:Int) < (rs.length:Int):=by omega
   have bp:k < lv.length:=by have:=ac.out; omega
   have af:k < (rs.zip lv).length:=by rw [List.length_zip]; omega
   have c8:(k:Int) < (lv.length:Int):=by omega
   obtain ⟨vb,vo,rfl,_,ev⟩:=qC (dM.below HV.out I.out) bp;obtain ⟨rb,ro,Ah,ch,Ab,cb,br,rfl,_,e0,e1,e2,ag,_⟩:=iP (aQ.below HR.out I.out) a0;have J:=η (En list level (rs.zip lv) k af);rw [List.getElem_zip] at J;dsimp only at J;have a1:=η (HB.out _ (δ a0));have am:=η ag;generalize wr=wo at *;generalize rs[k]=r at *;generalize lv[k]=l at *;clear ag af;by_cases a2:l=level
   ·have bt:(l:Int)=(level:Int):=by omega
    have HE:Hid (ES list r out=jh list level ((rs.zip lv).take (k+1))):=η (by rw [J.out,← ho.out,if_pos a2])
    obtain ⟨bu,bq,bv⟩:Hid (∃ b1,aJ wo [.string r.head.name,.slice Ah r.head.args.length ch] r.head b1)∧∃ bq,Hid (iY wo [.slice Ab r.body.length cb] r.body bq):=by
     obtain ⟨s,t,b1,b2,aq,bw,_,ht,hp⟩:=am.out;simp only [List.cons.injEq,true_and,and_true] at aq;obtain ⟨rfl,rfl⟩:=aq;exact ⟨η ⟨b1,_,rfl,bw,ht⟩,b2,η hp⟩
    have q5:=WC list r.body _ _ b3 bq wo (ak.below HL.out I.out) bv.out aa hn a1.out.1 a1.out.2.2;have a6:=η (LZ hn a1.out.1);clear J ho am a2
    go_wp2_with fail
    refine q5.mono ?_;rintro e w5 ⟨a3,v5,b5,rfl,h5⟩;obtain ⟨A5,p5,rfl,bx,bz⟩:=aj h5;have H5:=η h5;have B5:=η (I.out.trans (a3.mono I.out.size));have C5:=η a3;have ar:=η (ak.below hO.out a3);clear q5 h5 a3 bx bz hO
    go_wp2_with fail
    go_loopw [9,12] (fun o i wr=>∃ (q:Nat) (ys:List A) (av:List Nat),q≤(allB list r.body).length∧i=.int .i64 q∧Hid (ys=((allB list r.body).take q).foldl (fun o b=>eF o (cu r.head b)) out)∧Hid (ys.length≤out.length+q)∧fU ys=true∧Hid (aB wr [o] ys av)∧Hid (∀ c ∈ av,w.heap.size≤c)∧Hid (Below w5.heap.size w5 wr)) (fun _ i _=>(allB list r.body).length - (intOf i).toNat)
    case atStart=>exact ⟨0,out,bo,ε,rfl,η rfl,η ν,ae,ar,a5,η ϑ⟩
    case round=>
     obtain ⟨q,ys,aw,hq,rfl,a4,U,a7,hY,az,y⟩:=hrel;clear ar;by_cases a8:q < (allB list r.body).length
     ·have c9:(0:Int)≤(q:Int):=by omega
      have bA:(q:Int) < ((allB list r.body).length:Int):=by omega
      have ca:q≤8100000000:=by have:=a6.out; omega
      obtain ⟨ab,ao,A1,p1,A2,p2,bk,rfl,_,d0,d1,aD,_⟩:=yG (ni.below H5.out y.out) a8;have g0:=ξ y.out (ξ C5.out e0);have g1:=ξ y.out (ξ C5.out e1);have aE:=η (WM list r out q a8)
      have aL:ys.length≤100000000000:=by
       have h1:=U.out;have h2:=a6.out;have h3:k * 8100000000≤8 * 8100000000:=Nat.mul_le_mul_right _ (by omega);omega
      generalize (allB list r.body)[q]=b0 at *;have hD:Below wr.heap.size wr wr.drew:=Below.drew ϑ;have Q1:=η fun w' (hb:Below wr.heap.size wr w')=>bu.out.elim fun b1 h1=>KU r.head b0 _ _ _ _ b1 bk w' (au.below h1 (C5.out.trans ((y.out.mono C5.out.size).trans (hb.mono (τ C5.out.size y.out.size))))) (dh.below aD hb) (τ a1.out.2.1 (by omega))
      have Q2:=η fun w' (hb:Below wr.heap.size wr w') c0 c1 b6 (h6:aJ w' [c0,c1] (cu r.head b0) b6)=>zI ys (cu r.head b0) _ c0 c1 aw b6 w' (ak.below hY.out hb) h6 a7 aL
      have a9:=η hD;clear aD hD
      go_wp2_with fail
      go_region_held3 (fun w'=>w'.cell? ⟨rb,ro+k * 3,none⟩=some (.string r.head.name)∧w'.cell? ⟨rb,ro+k * 3+1,none⟩=some (.slice Ah r.head.args.length ch)∧w'.cell? ⟨ab,ao+q * 2,none⟩=some (.slice A1 b0.length p1)∧w'.cell? ⟨ab,ao+q * 2+1,none⟩=some (.slice A2 b0.length p2))
       (first | go_keep | exact aM | exact aR)
       (first
        | (go_at_call 172; refine (Q1.out _ a9.out).mono ?_; rintro e w6 ⟨b4,x0,x1,b6,rfl,h6,bB⟩; have B6:=a9.out.trans (b4.mono a9.out.size); have aM:=ι (ξ B6 g0) (ι (ξ B6 g1) (ι (ξ B6 d0) (ξ B6 d1))))
        | (go_at_call 49; refine (Q2.out _ B6 _ _ _ h6).mono ?_; rintro e w7 bE; obtain ⟨b8,A7,p7,b7,rfl,h7,bL⟩:=Gz bE (ak.below hY.out B6) (fun c hc=>Ξ _ hc); have B7:=B6.trans (b8.mono B6.size); have aR:=ι (ξ B7 g0) (ι (ξ B7 g1) (ι (ξ B7 d0) (ξ B7 d1)))))
      have bO:=η (y.out.trans (B7.mono y.out.size));have bR:Hid (eF ys (cu r.head b0)=((allB list r.body).take (q+1)).foldl (fun o b=>eF o (cu r.head b)) out):=η (by rw [aE.out,a4.out]);have bX:=η (τ (IA ys (cu r.head b0)) (Nat.succ_le_succ U.out));have b9:=xG a7 (cu r.head b0);have H7:=η h7
      have c3:Hid (∀ c ∈ b7,w.heap.size≤c):=η fun c hc=>by
       have s1:=I.out.size;have s2:=C5.out.size;have s3:=y.out.size;have s4:=B6.size
       rcases bL c hc with h | h
       ·rcases μ.1 h with h | h
        ·exact az.out c h
        ·have:=bB c h
         have e9:wr.drew.heap.size=wr.heap.size:=rfl;omega
       ·omega
      clear Q1 Q2 aM aR h6 b4 b8 h7 B6 B7 g0 g1 d0 d1 aE a4 U aL;go_wp2;go_roundw
      case rel=>exact ⟨q+1,_,_,a8,by go_num,bR,bX,b9,H7,c3,bO⟩
      case measure=>simp [intOf]; omega
     ·have he:q=(allB list r.body).length:=by omega
      have bA:¬ (q:Int) < ((allB list r.body).length:Int):=by omega
      have c4:Hid (ys=jh list level ((rs.zip lv).take (k+1))):=η (by
       rw [← HE.out,a4.out,he,ϕ ν]
       rfl)
      have c5:Hid (ys.length≤(k+1) * 8100000000):=η (by
       have h1:=U.out;have h2:=a6.out;rw [Nat.add_mul]
       omega)
      have c6:=η (B5.out.trans (y.out.mono B5.out.size));clear he a4 U;go_wp2;go_roundw
      case rel=>exact ⟨k+1,ys,aw,a0,by go_num,c4,c5.out,a7,hY,az,c6⟩
      case measure=>simp [intOf]; omega
   ·have bt:¬ (l:Int)=(level:Int):=by omega
    have HE:Hid (out=jh list level ((rs.zip lv).take (k+1))):=η (by rw [J.out,← ho.out,if_neg a2]);clear J a2;go_wp2;go_roundw
    case rel=>exact ⟨k+1,out,bo,a0,by go_num,HE,τ bl (Nat.mul_le_mul_right _ (Nat.le_succ k)),ae,hO,a5,I⟩
    case measure=>simp [intOf]; omega
  ·have he:k=rs.length:=by omega
   have bn:¬ (k:Int) < (rs.length:Int):=by omega
   have HE:Hid (out=jh list level (rs.zip lv)):=η (by rw [ho.out,he,ϕ (by rw [List.length_zip]; omega)]);clear he ho;go_wp2;go_ret;exact ⟨I.out,_,rfl,bo,by rw [← HE.out]; exact hO.out,a5.out⟩
def D.pO (w:World):Prop:=w.cell? ⟨1,0,none⟩=some (.iface 350 (.agg #[.pointer (some ⟨2,186,none⟩)]))
theorem D.pO.below {w w':World} (h:pO w) (hb:Below w.heap.size w w'):pO w':=ξ hb h
theorem D.WN (rs:List Ru) (k:Nat) (h:k < rs.length) (h0:(rs.take k).all fC=true):(rs.take (k+1)).all fC=fC rs[k]:=by
 rw [ρ h,List.all_append,h0]; simp
theorem D.XR (rs:List Ru) (k:Nat) (h:k < rs.length) (h0:fC rs[k]=false):fH rs=1:=by
 unfold fH;rw [if_pos (List.all_eq_false.2 ⟨_,δ h,by simp [h0]⟩)]
theorem Eo (rs:List Ru) (v:Value) (bs:List Nat) (w:World) (h:eu w [v] rs bs) (hg:pO w):
  Calls Tryz.prog 130 #[v] w fun e w'=>e=.returned (.int .i64 (fH rs))∧Below w.heap.size w w':=by
 obtain ⟨Ad,cap,rfl,hl,hm⟩:=aj h;have am:=aA (τ hl hm);have c1:=fun w' (hb:Below w.heap.size w w') (hok:rs.all fC=true) (hf:rs.length≤8)=>DX rs _ bs w' (aQ.below h hb) hok hf
 have c2:=fun w' (hb:Below w.heap.size w w')=>yJ rs _ bs w' (aQ.below h hb)
 have c3:=fun w' (hb:Below w.heap.size w w') (hok:rs.all fC=true) (hf:rs.length≤8)=>yH rs _ bs w' (aQ.below h hb) hf hok
 have C1:=η c1;have C2:=η c2;have C3:=η c3;have HG:=η hg;clear hl hm c1 c2 c3 hg
 go_enter Tryz.func130,Tryz.ntmps130
 go_wp2
 go_loopw [12] (fun i wr=>∃ k:Nat,k≤rs.length∧i=.int .i64 k∧(rs.take k).all fC=true∧Below w.heap.size w wr) (fun i _=>rs.length - (intOf i).toNat)
 case atStart=>exact ⟨0,ε,rfl,rfl,ϑ⟩
 case round=>
  obtain ⟨k,hk,rfl,a1,hb⟩:=hrel;have HA:=η a1;clear a1;by_cases a0:k < rs.length
  ·clear C1 C2 C3 HG
   obtain ⟨b,o,Ae,ce,Af,cf,bk,rfl,_,d0,d1,d2,a3,_⟩:=iP (aQ.below h hb) a0;have HS:=η (WN rs k a0 HA.out);have y:=η (XR rs k a0);have ao:(0:Int)≤(k:Int):=by omega
   have a8:(k:Int) < (rs.length:Int):=by omega
   have a4:=η a0;obtain ⟨b1,b2,_,a5,a6⟩:=jm a3;have hA:Below wr.heap.size wr (wr.alloc (.cells #[.string rs[k].head.name,.slice Ae rs[k].head.args.length ce,.slice Af rs[k].body.length cf] 40)):=ζ;have c1:=fun w' (hw:Below wr.heap.size wr w')=>OA rs[k].body _ b2 w' (dJ.below a6 hw)
   have c2:=fun w' (hw:Below wr.heap.size wr w')=>tX rs[k].head _ _ b1 w' (au.below a5 hw)
   have x0:(wr.alloc (.cells #[.string rs[k].head.name,.slice Ae rs[k].head.args.length ce,.slice Af rs[k].body.length cf] 40)).cell? ⟨wr.heap.size,0,none⟩=some (.string rs[k].head.name):=by go_simp
   have x1:(wr.alloc (.cells #[.string rs[k].head.name,.slice Ae rs[k].head.args.length ce,.slice Af rs[k].body.length cf] 40)).cell? ⟨wr.heap.size,1,none⟩=some (.slice Ae rs[k].head.args.length ce):=by go_simp
   have X0:=η x0;have X1:=η x1;have C1:=η c1;have C2:=η c2;have HH:=η hA;have U:Hid (fC rs[k]=(pG rs[k].body && aZ rs[k].head)):=η rfl;clear h a3 a5 a6 c1 c2 hA x0 x1;generalize rs[k]=r at *;clear a0;obtain ⟨⟨nm,args⟩,body⟩:=r;dsimp only at *;cases h1:pG body
   ·rw [h1] at C1
    have I:=η (y.out (by rw [U.out,h1]; rfl));clear h1 U y HS
    go_wp2_with fail
    refine (C1.out _ HH.out).mono ?_;rintro e w2 ⟨rfl,J⟩;have B2:=hb.trans ((HH.out.trans (J.mono HH.out.size)).mono hb.size);go_wp2;go_ret;exact ⟨eU (by simp [I.out]),B2⟩
   ·rw [h1] at C1
    go_wp2_with fail
    refine (C1.out _ HH.out).mono ?_;rintro e w2 ⟨rfl,J⟩;have B1:=HH.out.trans (J.mono HH.out.size);have x0:=ξ J X0.out;have x1:=ξ J X1.out;clear X0 X1 C1
    go_wp2_with fail
    refine (C2.out _ B1).mono ?_;rintro e w3 ⟨rfl,a2⟩;have B3:=hb.trans ((B1.trans (a2.mono B1.size)).mono hb.size);cases h2:aZ ⟨nm,args⟩
    ·have I:=η (y.out (by rw [U.out,h1,h2]; rfl))
     clear h1 U y HS;go_wp2;go_ret;exact ⟨eU (by simp [I.out]),B3⟩
    ·have I:=η (HS.out.trans (by rw [U.out,h1,h2,Bool.and_true]))
     clear h1 U y HS;go_wp2;go_roundw
     case rel=>exact ⟨k+1,a4.out,by go_num,I.out,B3⟩
     case measure=>have:=a4.out; simp [intOf]; omega
  ·have he:k=rs.length:=by omega
   have a8:¬ (k:Int) < (rs.length:Int):=by omega
   have hok:rs.all fC=true:=by have:=HA.out; rw [he,ϕ ν] at this; exact this
   clear HA he h;by_cases hf:rs.length≤8
   ·have a9:¬ (8:Int) < (rs.length:Int):=by omega
    have hP:fH rs=if kC (aI rs)=false then 3 else if (rs.all fun r=>fJ r.head r.body)=false then 4 else if mP rs=true then 5 else 0:=by
     unfold fH; rw [if_neg (by simp [hok]),if_neg (by omega)]
    have C4:=η fun w' hb=>C1.out w' hb hok hf
    have C5:=η fun w' hb=>C3.out w' hb hok hf
    have HP:=η hP;clear hok hf hP C1 C3
    go_wp2_with fail
    refine (C4.out _ hb).mono ?_;rintro e w2 ⟨rfl,n,hM,J⟩;have B2:=hb.trans (J.mono hb.size);clear C4 hM;cases ha:kC (aI rs)
    ·have I:Hid (fH rs=3):=η (by rw [HP.out,if_pos ha])
     clear HP ha;go_wp2;go_ret;exact ⟨eU (by simp [I.out]),B2⟩
    ·replace HP:Hid (fH rs=if (rs.all fun r=>fJ r.head r.body)=false then 4 else if mP rs=true then 5 else 0):=η (by rw [HP.out,if_neg (by simp [ha])])
     clear ha
     go_wp2_with fail
     refine (C2.out _ B2).mono ?_;rintro e w3 ⟨rfl,a2⟩;have B3:=B2.trans (a2.mono B2.size);clear C2;cases ht:(rs.all fun r=>fJ r.head r.body)
     ·have I:Hid (fH rs=4):=η (by rw [HP.out,if_pos ht])
      clear HP ht;go_wp2;go_ret;exact ⟨eU (by simp [I.out]),B3⟩
     ·replace HP:Hid (fH rs=if mP rs=true then 5 else 0):=η (by rw [HP.out,if_neg (by simp [ht])])
      clear ht
      go_wp2_with fail
      refine (C5.out _ B3).mono ?_;rintro e w4 ⟨aa,hr⟩;have B4:=B3.trans (aa.mono B3.size);clear C5
      rcases hr with ⟨hc,a,rfl⟩ | ⟨hc,v',bs',rfl,_,_⟩
      ·have I:Hid (fH rs=5):=η (by rw [HP.out,if_pos hc])
       clear HP hc;have hA:Below w4.heap.size w4 (w4.alloc (.cells #[.pointer none] 255)):=ζ;have ab:=η ((HG.out.below (B4)).below hA);have ac:Hid ((w4.alloc (.cells #[.pointer none] 255)).cell? ⟨w4.heap.size,0,none⟩=some (.pointer none)):=η (by go_simp);have ae:Hid ((w4.alloc (.cells #[.pointer none] 255)).frozen? ⟨w4.heap.size,0,none⟩=false):=η (by go_simp);have B5:=B4.trans (hA.mono B4.size);have af:Hid (w.heap.size≤w4.heap.size):=η B4.size;clear hA
       go_wp2_with fail
       refine (G8 _ _ _ _ ab.out ac.out ae.out).mono ?_;rintro e w5 ⟨rfl,a7⟩;have S0:=af.out;have B6:=((((B5.alloc (by simp; omega) (.cells #[.pointer (some ⟨w4.heap.size,0,none⟩)] 257)).alloc (by simp; omega) (.cells #[.pointer (some ⟨2,257,none⟩),.pointer (some ⟨w4.heap.size+1,0,none⟩),.int .u64 150] 313)).alloc (by simp; omega) (.cells #[.pointer (some ⟨2,257,none⟩),.pointer (some ⟨w4.heap.size+1,0,none⟩),.int .u64 150] 313)).alloc (by simp; omega) (.cells #[.pointer (some a)] 255)).setCell (p:=⟨w4.heap.size,0,none⟩) S0 (.pointer (some a));have ag:Hid (Below w.heap.size w w5):=η (by rw [a7]; simpa using B6);clear B6 B5 B4 S0 a7;go_wp2;go_ret;exact ⟨eU (by simp [I.out]),ag.out⟩
      ·have I:Hid (fH rs=0):=η (by rw [HP.out,if_neg (by simp [hc])])
       clear HP hc
       go_wp2_with fail
       refine (G5 _ _).mono ?_;rintro e w5 ⟨rfl,rfl⟩;go_wp2;go_ret;exact ⟨eU (by simp [I.out]),B4.alloc B4.size _⟩
   ·have a9:(8:Int) < (rs.length:Int):=by omega
    have I:Hid (fH rs=2):=η (by unfold fH; rw [if_neg (by simp [hok]),if_pos (by omega)]);clear hok hf C1 C2 C3;go_wp2;go_ret;exact ⟨eU (by simp [I.out]),hb⟩
theorem qg (c:Ch) (c0 c1:Value) (bs:List Nat) (w:World) (h:fQ w [c0,c1] c bs):
  Calls Tryz.prog 33 #[.agg #[c0,c1]] w fun e w'=>e=.returned (.bool (dX c))∧Below w.heap.size w w':=by
 obtain ⟨Ad,cap,Ae,I,rfl,rfl⟩:=gy h;obtain ⟨b1,b2,rfl,ht,hp⟩:=iG h;have k1:=fun w' (hb:Below w.heap.size w w')=>nX c.comes _ b1 w' (ak.below ht hb)
 have k2:=fun w' (hb:Below w.heap.size w w')=>nX c.goes _ b2 w' (ak.below hp hb)
 have k3:=fun w' (hb:Below w.heap.size w w')=>OM c.comes c.goes _ _ b1 b2 w' (ak.below ht hb) (ak.below hp hb)
 have HE:Hid (dX c=(aU c.comes && aU c.goes && !meets c.comes c.goes)):=η rfl;have HM:=fun (hx:aU c.comes=true) (hy:aU c.goes=true)=>Jh _ c.comes c.goes ν (dQ hx) (dQ hy)
 generalize aU c.comes=x at *;generalize aU c.goes=y at *;generalize (bP c.comes c.goes).any (fun p=>p.2 == 2)=z at *;generalize meets c.comes c.goes=m at *;clear h ht hp;have hA:=(Below.refl w.heap.size w).alloc ν (.cells #[.slice Ad c.comes.length cap,.slice Ae c.goes.length I] 54)
 go_enter Tryz.func33,Tryz.ntmps33
 go_wp2_with fail
 refine (k1 _ hA).mono ?_;rintro e w1 ⟨rfl,J⟩;have B1:=hA.trans (J.mono hA.size);have x0:w1.cell? ⟨w.heap.size,0,none⟩=some (.slice Ad c.comes.length cap):=ξ J (by go_simp);have x1:w1.cell? ⟨w.heap.size,1,none⟩=some (.slice Ae c.goes.length I):=ξ J (by go_simp);clear k1 hA;cases x
 ·clear HM
  go_wp2;go_ret;exact ⟨aG (by rw [HE.out]; rfl),B1⟩
 ·go_wp2_with fail
  refine (k2 _ B1).mono ?_;rintro e w2 ⟨rfl,U⟩;have B2:=B1.trans (U.mono B1.size);have y0:=ξ U x0;have y1:=ξ U x1;clear k2 x0 x1;cases y
  ·clear HM
   go_wp2;go_ret;exact ⟨aG (by rw [HE.out]; rfl),B2⟩
  ·obtain rfl:z=m:=HM (by simp) (by simp)
   clear HM
   go_wp2_with fail
   refine (k3 _ B2).mono ?_;rintro e w3 ⟨rfl,a0⟩;go_wp2;go_ret;exact ⟨aG (by rw [HE.out]; simp),B2.trans (a0.mono B2.size)⟩
theorem Ep (xs ys:List A) (v1 v2:Value) (J U:List Nat) (w:World) (h:aB w [v1] xs J) (h2:aB w [v2] ys U) (a3:xs.length≤1000000) (a4:ys.length≤1000000):
  Calls Tryz.prog 78 #[v1,v2] w (Tz fQ ⟨fZ ys xs,fZ xs ys⟩ w.heap.size w):=by
 obtain ⟨Ad,cap,rfl,hl,hm⟩:=aj h;obtain ⟨Ae,a8,rfl,a6,a7⟩:=aj h2;have y:Below w.heap.size w (w.alloc (.cells #[.slice none 0 0,.slice none 0 0] 54)):=ζ;have I:=η (PG w (.cells #[.slice none 0 0,.slice none 0 0] 54));have k3:=uw ys xs _ _ U J _ (ak.below h2 y) (ak.below h y) a4 a3;have k4:=fun w' (hb:Below w.heap.size w w')=>uw xs ys _ _ J U w' (ak.below h hb) (ak.below h2 hb) a3 a4
 clear h h2 hl hm a6 a7
 go_enter Tryz.func78,Tryz.ntmps78
 go_wp2_with fail
 refine k3.mono ?_;rintro e w3 ⟨a5,v3,b3,rfl,a0⟩;obtain ⟨A3,p3,rfl,_,_⟩:=aj a0;have B3:=y.trans (a5.mono y.size);replace I:=η (eX a5 I.out)
 go_wp2_with fail
 refine (k4 _ B3).mono ?_;rintro e w4 ⟨a1,v4,b4,rfl,a2⟩;obtain ⟨A4,p4,rfl,_,_⟩:=aj a2;have B4:=B3.trans (a1.mono B3.size);replace I:=η (eX a1 I.out);have z0:w4.cell? ⟨w.heap.size,0,none⟩=some (.slice none 0 0):=dB I.out;have z1:w4.cell? ⟨w.heap.size,1,none⟩=some (.slice none 0 0):=dB I.out;have f0:w4.frozen? ⟨w.heap.size,0,none⟩=false:=bJ I.out;have f1:w4.frozen? ⟨w.heap.size,1,none⟩=false:=bJ I.out;have HF:=η (fK (c:=⟨fZ ys xs,fZ xs ys⟩) I.out (ak.below a0 a1) a2);clear a0 a2 k3 k4;go_wp2;refine bodyPost_ret (v:=.agg #[.slice A3 (fZ ys xs).length p3,.slice A4 (fZ xs ys).length p4]) (by simp [results,Tryz.results78,go_sem,z0,z1]) rfl ⟨(B4.setCell ν _).setCell ν _,_,_,rfl,HF.out⟩
theorem EU (c:Ch) (c0 c1:Value) (bs:List Nat) (w:World) (h:fQ w [c0,c1] c bs):
  Calls Tryz.prog 79 #[.agg #[c0,c1]] w fun e w'=>e=.returned (.bool (dX c))∧Below w.heap.size w w':=by
 obtain ⟨Ad,cap,Ae,I,rfl,rfl⟩:=gy h;obtain ⟨b1,b2,rfl,ht,hp⟩:=iG h;obtain ⟨_,_,a6,hl,hm⟩:=aj ht;have a8:=aA (τ hl hm);have k1:=fun w' (hb:Below w.heap.size w w')=>nV c.comes _ b1 w' (ak.below ht hb)
 have k2:=fun w' (hb:Below w.heap.size w w')=>nV c.goes _ b2 w' (ak.below hp hb)
 have HE:Hid (dX c=(aU c.comes && aU c.goes && !meets c.comes c.goes)):=η rfl;have U:=fun (hf:aU c.goes=true)=>dQ hf
 generalize aU c.comes=x at *;generalize aU c.goes=y at *;clear h a6 hl hm;have hA:=(Below.refl w.heap.size w).alloc ν (.cells #[.slice Ad c.comes.length cap,.slice Ae c.goes.length I] 54)
 go_enter Tryz.func79,Tryz.ntmps79
 go_wp2_with fail
 refine (k1 _ hA).mono ?_;rintro e w1 ⟨rfl,a0⟩;have B1:=hA.trans (a0.mono hA.size);have x0:w1.cell? ⟨w.heap.size,0,none⟩=some (.slice Ad c.comes.length cap):=ξ a0 (by go_simp);have x1:w1.cell? ⟨w.heap.size,1,none⟩=some (.slice Ae c.goes.length I):=ξ a0 (by go_simp);clear k1 hA;cases x
 ·clear U
  go_wp2;go_ret;exact ⟨aG (by rw [HE.out]; rfl),B1⟩
 ·go_wp2_with fail
  refine (k2 _ B1).mono ?_;rintro e w2 ⟨rfl,a1⟩;have B2:=B1.trans (a1.mono B1.size);have y0:=ξ a1 x0;have y1:=ξ a1 x1;clear k2 x0 x1;cases y
  ·clear U
   go_wp2;go_ret;exact ⟨aG (by rw [HE.out]; rfl),B2⟩
  ·have hs:=U rfl
   have HS:=η hs;clear U;go_wp2
   go_loopw [3] (fun i wr=>∃ k:Nat,k≤c.comes.length∧i=.int .i64 k∧meets (c.comes.take k) c.goes=false∧Below w.heap.size w wr∧wr.cell? ⟨w.heap.size,0,none⟩=some (.slice Ad c.comes.length cap)∧wr.cell? ⟨w.heap.size,1,none⟩=some (.slice Ae c.goes.length I)∧w.heap.size < wr.heap.size) (fun i _=>c.comes.length - (intOf i).toNat)
   case atStart=>exact ⟨0,ε,rfl,rfl,B2,y0,y1,lt_of_cell y0⟩
   case round=>
    obtain ⟨k,hk,rfl,a2,hb,s0,s1,a7⟩:=hrel;have HA:=η a2;clear a2 y0 y1 B2 a1 B1 a0;by_cases a3:k < c.comes.length
    ·have a9:(0:Int)≤(k:Int):=by omega
     have aa:(k:Int) < (c.comes.length:Int):=by omega
     obtain ⟨b,o,Af,ce,bk,rfl,_,c0,c1,a4,_⟩:=dU (ak.below ht hb) a3;have hD:Below wr.heap.size wr wr.drew:=Below.drew ϑ;have a5:=zA c.goes c.comes[k] _ _ _ b2 bk wr.drew (ak.below hp (hb.trans (hD.mono hb.size))) (au.below a4 hD) HS.out;have HM:=η (Ny (ys:=c.goes) a3);have HB:=η (fun hf=>Qj (ys:=c.goes) a3 hf);generalize hasB c.goes c.comes[k]=z at *;clear ht hp a4 hs;cases z
     all_goals
      go_wp2
      go_region_held3 (fun w'=>w'.cell? ⟨w.heap.size,0,none⟩=some (.slice (some ⟨b,o,none⟩) c.comes.length cap)∧w'.cell? ⟨w.heap.size,1,none⟩=some (.slice Ae c.goes.length I)∧w'.cell? ⟨b,o+k * 2,none⟩=some (.string c.comes[k].name)∧w'.cell? ⟨b,o+k * 2+1,none⟩=some (.slice Af c.comes[k].args.length ce))
       (first | go_keep | exact ⟨z0,z1,z2,z3⟩)
       (first | (go_at_call 141; refine a5.mono ?_; rintro e w3 ⟨rfl,J⟩; have z0:=ξ J s0; have z1:=ξ J s1; have z2:=ξ J c0; have z3:=ξ J c1))
      have B3:=hb.trans ((hD.trans J).mono hb.size);clear a5;go_wp2
     ·go_roundw
      case rel=>exact ⟨k+1,by omega,by go_num,by rw [HM.out,HA.out]; rfl,B3,z0,z1,κ a7 (hD.trans J).size⟩
      case measure=>simp [intOf]; omega
     ·go_ret
      exact ⟨aG (by rw [HE.out,HB.out (by simp)]; rfl),B3⟩
    ·have he:=η (show k=c.comes.length by omega)
     clear ht hp hs;go_wp2;go_ret;exact ⟨aG (by have:=HA.out; rw [he.out,ϕ ν] at this; rw [HE.out,this]; rfl),hb⟩
theorem EW (xs ys:List A) (v1 v2:Value) (U a0:List Nat) (w:World) (h:aB w [v1] xs U) (h2:aB w [v2] ys a0):
  Calls Tryz.prog 81 #[v1,v2] w (Tz fQ (qE xs ys) w.heap.size w):=by
 obtain ⟨Ad,cap,rfl,hl,hm⟩:=aj h;obtain ⟨Ae,af,rfl,ac,ae⟩:=aj h2;have a1:Below w.heap.size w (w.alloc (.cells #[.slice none 0 0,.slice none 0 0] 54)):=ζ;have I:=η (PG w (.cells #[.slice none 0 0,.slice none 0 0] 54));have k1:=nV xs _ U _ (ak.below h a1);have k2:=fun w' (hb:Below w.heap.size w w')=>nV ys _ a0 w' (ak.below h2 hb)
 have k3:=fun (hf:aU xs=true) (hg:aU ys=true) w' (hb:Below w.heap.size w w')=>wW ys xs _ _ a0 U w' (ak.below h2 hb) (ak.below h hb) (dQ hf) (τ (jQ hg).1 (by omega)) (jQ hg).2
 have k4:=fun (hf:aU xs=true) (hg:aU ys=true) w' (hb:Below w.heap.size w w')=>wW xs ys _ _ U a0 w' (ak.below h hb) (ak.below h2 hb) (dQ hg) (τ (jQ hf).1 (by omega)) (jQ hf).2
 have HG:Hid (qE xs ys=if (aU xs && aU ys)=true then ⟨bZ ys xs,bZ xs ys⟩ else ⟨[],[]⟩):=η rfl;generalize qE xs ys=G at *;generalize aU xs=x at *;generalize aU ys=y at *;clear h h2 hl hm ac ae
 go_enter Tryz.func81,Tryz.ntmps81
 go_wp2_with fail
 refine k1.mono ?_;rintro e w1 ⟨rfl,a7⟩;have B1:=a1.trans (a7.mono a1.size);replace I:=η (eX a7 I.out);clear k1 a1;cases x
 ·clear k2 k3 k4
  have J:Hid (G=⟨[],[]⟩):=η (by rw [HG.out]; rfl);have z0:w1.cell? ⟨w.heap.size,0,none⟩=some (.slice none 0 0):=dB I.out;have z1:w1.cell? ⟨w.heap.size,1,none⟩=some (.slice none 0 0):=dB I.out;have f0:w1.frozen? ⟨w.heap.size,0,none⟩=false:=bJ I.out;have f1:w1.frozen? ⟨w.heap.size,1,none⟩=false:=bJ I.out;have HF:=η (fK (c:=⟨[],[]⟩) I.out (bQ _) (bQ _));go_wp2;refine bodyPost_ret (v:=.agg #[.slice none 0 0,.slice none 0 0]) (by simp [results,Tryz.results81,go_sem,z0,z1]) rfl ⟨(B1.setCell ν _).setCell ν _,_,_,rfl,by rw [J.out]; exact HF.out⟩
 ·have a2:=k3 rfl
  have a3:=k4 rfl;clear k3 k4
  go_wp2_with fail
  refine (k2 _ B1).mono ?_;rintro e w2 ⟨rfl,a8⟩;have B2:=B1.trans (a8.mono B1.size);replace I:=η (eX a8 I.out);clear k2;cases y
  ·clear a2 a3
   have J:Hid (G=⟨[],[]⟩):=η (by rw [HG.out]; rfl);have z0:w2.cell? ⟨w.heap.size,0,none⟩=some (.slice none 0 0):=dB I.out;have z1:w2.cell? ⟨w.heap.size,1,none⟩=some (.slice none 0 0):=dB I.out;have f0:w2.frozen? ⟨w.heap.size,0,none⟩=false:=bJ I.out;have f1:w2.frozen? ⟨w.heap.size,1,none⟩=false:=bJ I.out;have HF:=η (fK (c:=⟨[],[]⟩) I.out (bQ _) (bQ _));go_wp2;refine bodyPost_ret (v:=.agg #[.slice none 0 0,.slice none 0 0]) (by simp [results,Tryz.results81,go_sem,z0,z1]) rfl ⟨(B2.setCell ν _).setCell ν _,_,_,rfl,by rw [J.out]; exact HF.out⟩
  ·have a9:=a2 rfl
   have aa:=a3 rfl;have J:Hid (G=⟨bZ ys xs,bZ xs ys⟩):=η (by rw [HG.out]; rfl);clear a2 a3 HG
   go_wp2_with fail
   refine (a9 _ B2).mono ?_;rintro e w3 ⟨ab,v3,b3,rfl,a4⟩;obtain ⟨A3,p3,rfl,_,_⟩:=aj a4;have B3:=B2.trans (ab.mono B2.size);replace I:=η (eX ab I.out)
   go_wp2_with fail
   refine (aa _ B3).mono ?_;rintro e w4 ⟨a5,v4,b4,rfl,a6⟩;obtain ⟨A4,p4,rfl,_,_⟩:=aj a6;have B4:=B3.trans (a5.mono B3.size);replace I:=η (eX a5 I.out);have z0:w4.cell? ⟨w.heap.size,0,none⟩=some (.slice none 0 0):=dB I.out;have z1:w4.cell? ⟨w.heap.size,1,none⟩=some (.slice none 0 0):=dB I.out;have f0:w4.frozen? ⟨w.heap.size,0,none⟩=false:=bJ I.out;have f1:w4.frozen? ⟨w.heap.size,1,none⟩=false:=bJ I.out;have HF:=η (fK (c:=⟨bZ ys xs,bZ xs ys⟩) I.out (ak.below a4 a5) a6);clear a4 a6 a9 aa;go_wp2;refine bodyPost_ret (v:=.agg #[.slice A3 (bZ ys xs).length p3,.slice A4 (bZ xs ys).length p4]) (by simp [results,Tryz.results81,go_sem,z0,z1]) rfl ⟨(B4.setCell ν _).setCell ν _,_,_,rfl,by rw [J.out]; exact HF.out⟩
end Go.Proofs.YtkjinanbccloeaaGreatDoor
