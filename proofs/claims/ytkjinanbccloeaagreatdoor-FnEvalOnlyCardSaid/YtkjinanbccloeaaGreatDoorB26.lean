/- Of the proof of FnEvalOnly: OnceS, ProgC. -/
import Derived.Test.YtkjinanbccloeaaGreatDoorB23
import Derived.Test.YtkjinanbccloeaaGreatDoorB19
import Derived.Test.YtkjinanbccloeaaGreatDoorB15
import Derived.Test.YtkjinanbccloeaaGreatDoorB20
set_option linter.unusedVariables false
set_option maxHeartbeats 8000000
set_option maxRecDepth 100000
namespace Go.Proofs.YtkjinanbccloeaaGreatDoor
open Go.RowKit D
attribute [local go_sem ↓] Go.wp_at_zero Go.wp_at_succ
def D.DF (list:List A) (r:Ru) (out:List A):List A:=(allB list r.body).foldl (fun o b=>dP o (bQ r.head b)) out
def D.fZ (list:List A) (level:Nat) (rl:List (Ru × Nat)):List A:=rl.foldl (fun out p=>if p.2=level then DF list p.1 out else out) []
theorem D.TK {list:List A} (y:list.length≤300) (body:List Pt):(vW list body).length≤300 ^ body.length:=by
 have h:∀ k,k≤body.length→(vW list (body.take k)).length≤300 ^ k:=by
  intro k
  induction k with
  | zero=>intro _; simp [vW]
  | succ k ih=>
   intro I;rw [sH list body k (by omega)];exact Px y (ih (by omega))
 have:=h body.length ν
 rwa [ϕ ν] at this
theorem D.DI {list:List A} (y:list.length≤300) {body:List Pt} (I:body.length≤4):(allB list body).length≤8100000000:=
 τ (List.length_filter_le _ _) (τ (TK y body) (τ (Nat.pow_le_pow_right (by omega) I) (by decide)))
theorem D.zX (xs:List A) (a:A):(dP xs a).length≤xs.length+1:=by
 unfold dP
 split <;> simp <;> omega
theorem D.uU (list:List A) (level:Nat) (rl:List (Ru × Nat)) (k:Nat) (h:k < rl.length):fZ list level (rl.take (k+1))=(if rl[k].2=level then DF list rl[k].1 (fZ list level (rl.take k)) else fZ list level (rl.take k)):=by
 unfold fZ;rw [ρ h,List.foldl_append];rfl
theorem D.VJ (list:List A) (r:Ru) (out:List A) (k:Nat) (h:k < (allB list r.body).length):((allB list r.body).take (k+1)).foldl (fun o b=>dP o (bQ r.head b)) out=dP (((allB list r.body).take k).foldl (fun o b=>dP o (bQ r.head b)) out) (bQ r.head (allB list r.body)[k]):=by
 rw [ρ h,List.foldl_append];rfl
theorem D.F5 {bb bs:List Nat} {xs X:List A} {v:Value} {y w':World} {e:Ending} (h:Ho bb xs X v y.heap.size y e w') (ha:aU y [v] xs bs) (hs:∀ c ∈ bs,c ∈ bb):
  Below y.heap.size y w'∧∃ A cap I,e=.returned (.slice A X.length cap)∧aU w' [.slice A X.length cap] X I∧∀ c ∈ I,c ∈ bb∨y.heap.size≤c:=by
 obtain ⟨J,v',bs',rfl,h3,h4⟩:=h;refine ⟨J,?_⟩
 rcases h4 with ⟨rfl,rfl⟩ | ⟨L,b9,hC,h9⟩
 ·obtain ⟨A,cap,rfl,_⟩:=ak ha
  exact ⟨A,cap,bs,rfl,au.below ha J,fun c hc=>.inl (hs c hc)⟩
 ·obtain ⟨b2,U,h6⟩:=hC.slice
  obtain ⟨A,cap,rfl,_⟩:=ak U;exact ⟨A,cap,b2,rfl,U,fun c hc=>(h6 c hc).elim .inr fun h=>.inl (h9 c h)⟩
theorem TM (rs:List Ru) (lv:List Nat) (level:Nat) (list:List A) (v0 v1 v3:Value) (b0 b1 b3:List Nat) (w:World) (hr:dS w [v0] rs b0) (hv:gU w [v1] lv b1) (hl:aU w [v3] list b3)
  (hlen:lv.length=rs.length) (aa:fK list=true) (hn:list.length≤300) (hm:rs.length≤8) (hb:∀ r ∈ rs,r.body.length≤4∧r.head.args.length≤1000∧∀ p ∈ r.body,p.atom.args.length≤1000):
  Calls Tryz.prog 110 #[v0,v1,.int .i64 level,v3] w fun e w'=>Below w.heap.size w w'∧∃ v bs,e=.returned v∧aU w' [v] (fZ list level (rs.zip lv)) bs∧∀ c ∈ bs,w.heap.size≤c:=by
 obtain ⟨Ar,pr,rfl,b9,bc⟩:=ak hr;obtain ⟨Av,pv,rfl,bf,bg⟩:=ak hv;obtain ⟨Al,pl,rfl,bh,bi⟩:=ak hl;have HR:=η hr;have HV:=η hv;have HL:=η hl;have HB:=η hb;have ac:=η hlen;have hE:aU (w.alloc (.cells #[] 33)) [.slice (some ⟨w.heap.size,0,none⟩) 0 0] [] []:=qJ;have hA:Below w.heap.size w (w.alloc (.cells #[] 33)):=ζ;clear hr hv hl b9 bc bf bg bh bi hb hlen
 go_enter Tryz.func110,Tryz.ntmps110
 go_wp2_with fail
 generalize w.alloc (.cells #[] 33)=w0 at *
 go_loopw [9,10,11,12] (fun o i _ _ wr=>∃ (k:Nat) (out:List A) (bo:List Nat),k≤rs.length∧i=.int .i64 k∧Hid (out=fZ list level ((rs.zip lv).take k))∧out.length≤k * 8100000000∧fK out=true∧Hid (aU wr [o] out bo)∧Hid (∀ c ∈ bo,w.heap.size≤c)∧Hid (Below w.heap.size w wr)) (fun _ i _ _ _=>rs.length - (intOf i).toNat)
 case atStart=>exact ⟨0,[],[],ε,rfl,η rfl,ε,rfl,η hE,η (fun c hc=>by cases hc),η hA⟩
 case round=>
  obtain ⟨k,out,bo,hk,rfl,ho,bj,ae,hO,a5,I⟩:=hrel;clear hE hA;by_cases a0:k < rs.length
  ·have c6:(0:Int)≤(k:Int):=by omega
   have bl:(k:Int) < (rs.length:Int):=by omega
   have bn:k < lv.length:=by have:=ac.out; omega
   have af:k < (rs.zip lv).length:=by rw [List.length_zip]; omega
   have c7:(k:Int) < (lv.length:Int):=by omega
   obtain ⟨vb,vo,rfl,_,ev⟩:=nK (aW.below HV.out I.out) bn;obtain ⟨rb,ro,Ah,ch,Ab,cb,br,rfl,_,e0,e1,e2,ag,_⟩:=gy (bJ.below HR.out I.out) a0;have J:=η (uU list level (rs.zip lv) k af);rw [List.getElem_zip] at J;dsimp only at J;have a1:=η (HB.out _ (δ a0));have am:=η ag;generalize wr=wo at *;generalize rs[k]=r at *;generalize lv[k]=l at *;clear ag af;by_cases a2:l=level
   ·have bp:(l:Int)=(level:Int):=by omega
    have HE:Hid (DF list r out=fZ list level ((rs.zip lv).take (k+1))):=η (by rw [J.out,← ho.out,if_pos a2])
    obtain ⟨bt,bq,bu⟩:Hid (∃ b1,aG wo [.string r.head.name,.slice Ah r.head.args.length ch] r.head b1)∧∃ bq,Hid (gW wo [.slice Ab r.body.length cb] r.body bq):=by
     obtain ⟨s,t,b1,b2,ap,bv,_,ht,hp⟩:=am.out;simp only [List.cons.injEq,true_and,and_true] at ap;obtain ⟨rfl,rfl⟩:=ap;exact ⟨η ⟨b1,_,rfl,bv,ht⟩,b2,η hp⟩
    have q5:=VD list r.body _ _ b3 bq wo (au.below HL.out I.out) bu.out aa hn a1.out.1 a1.out.2.2;have a6:=η (DI hn a1.out.1);clear J ho am a2
    go_wp2_with fail
    refine q5.mono ?_;rintro e w5 ⟨a3,v5,b5,rfl,h5⟩;obtain ⟨A5,p5,rfl,bw,bx⟩:=ak h5;have H5:=η h5;have B5:=η (I.out.trans (a3.mono I.out.size));have C5:=η a3;have aq:=η (au.below hO.out a3);clear q5 h5 a3 bw bx hO
    go_wp2_with fail
    go_loopw [9,12] (fun o i wr=>∃ (q:Nat) (ys:List A) (ar:List Nat),q≤(allB list r.body).length∧i=.int .i64 q∧Hid (ys=((allB list r.body).take q).foldl (fun o b=>dP o (bQ r.head b)) out)∧Hid (ys.length≤out.length+q)∧fK ys=true∧Hid (aU wr [o] ys ar)∧Hid (∀ c ∈ ar,w.heap.size≤c)∧Hid (Below w5.heap.size w5 wr)) (fun _ i _=>(allB list r.body).length - (intOf i).toNat)
    case atStart=>exact ⟨0,out,bo,ε,rfl,η rfl,η ν,ae,aq,a5,η ϑ⟩
    case round=>
     obtain ⟨q,ys,av,hq,rfl,a4,U,a7,hY,aw,y⟩:=hrel;clear aq;by_cases a8:q < (allB list r.body).length
     ·have c8:(0:Int)≤(q:Int):=by omega
      have bz:(q:Int) < ((allB list r.body).length:Int):=by omega
      have c9:q≤8100000000:=by have:=a6.out; omega
      obtain ⟨ab,ao,A1,p1,A2,p2,bk,rfl,_,d0,d1,az,_⟩:=wR (lK.below H5.out y.out) a8;have g0:=ξ y.out (ξ C5.out e0);have g1:=ξ y.out (ξ C5.out e1);have aD:=η (VJ list r out q a8)
      have aE:ys.length≤100000000000:=by
       have h1:=U.out;have h2:=a6.out;have h3:k * 8100000000≤8 * 8100000000:=Nat.mul_le_mul_right _ (by omega);omega
      generalize (allB list r.body)[q]=b0 at *;have hD:Below wr.heap.size wr wr.drew:=Below.drew ϑ;have Q1:=η fun w' (hb:Below wr.heap.size wr w')=>bt.out.elim fun b1 h1=>JO r.head b0 _ _ _ _ b1 bk w' (aj.below h1 (C5.out.trans ((y.out.mono C5.out.size).trans (hb.mono (τ C5.out.size y.out.size))))) (bZ.below az hb) (τ a1.out.2.1 (by omega))
      have Q2:=η fun w' (hb:Below wr.heap.size wr w') c0 c1 b6 (h6:aG w' [c0,c1] (bQ r.head b0) b6)=>yt ys (bQ r.head b0) _ c0 c1 av b6 w' (au.below hY.out hb) h6 a7 aE
      have a9:=η hD;clear az hD
      go_wp2_with fail
      go_region_held3 (fun w'=>w'.cell? ⟨rb,ro+k * 3,none⟩=some (.string r.head.name)∧w'.cell? ⟨rb,ro+k * 3+1,none⟩=some (.slice Ah r.head.args.length ch)∧w'.cell? ⟨ab,ao+q * 2,none⟩=some (.slice A1 b0.length p1)∧w'.cell? ⟨ab,ao+q * 2+1,none⟩=some (.slice A2 b0.length p2))
       (first | go_keep | exact aL | exact aM)
       (first
        | (go_at_call 172; refine (Q1.out _ a9.out).mono ?_; rintro e w6 ⟨aR,x0,x1,b6,rfl,h6,bA⟩; have B6:=a9.out.trans (aR.mono a9.out.size); have aL:=ι (ξ B6 g0) (ι (ξ B6 g1) (ι (ξ B6 d0) (ξ B6 d1))))
        | (go_at_call 49; refine (Q2.out _ B6 _ _ _ h6).mono ?_; rintro e w7 bB; obtain ⟨b4,A7,p7,b7,rfl,h7,bE⟩:=F5 bB (au.below hY.out B6) (fun c hc=>Ξ _ hc); have B7:=B6.trans (b4.mono B6.size); have aM:=ι (ξ B7 g0) (ι (ξ B7 g1) (ι (ξ B7 d0) (ξ B7 d1)))))
      have bL:=η (y.out.trans (B7.mono y.out.size));have bO:Hid (dP ys (bQ r.head b0)=((allB list r.body).take (q+1)).foldl (fun o b=>dP o (bQ r.head b)) out):=η (by rw [aD.out,a4.out]);have bR:=η (τ (zX ys (bQ r.head b0)) (Nat.succ_le_succ U.out));have b8:=vM a7 (bQ r.head b0);have H7:=η h7
      have bX:Hid (∀ c ∈ b7,w.heap.size≤c):=η fun c hc=>by
       have s1:=I.out.size;have s2:=C5.out.size;have s3:=y.out.size;have s4:=B6.size
       rcases bE c hc with h | h
       ·rcases μ.1 h with h | h
        ·exact aw.out c h
        ·have:=bA c h
         have e9:wr.drew.heap.size=wr.heap.size:=rfl;omega
       ·omega
      clear Q1 Q2 aL aM h6 aR b4 h7 B6 B7 g0 g1 d0 d1 aD a4 U aE;go_wp2;go_roundw
      case rel=>exact ⟨q+1,_,_,a8,by go_num,bO,bR,b8,H7,bX,bL⟩
      case measure=>simp [intOf]; omega
     ·have he:q=(allB list r.body).length:=by omega
      have bz:¬ (q:Int) < ((allB list r.body).length:Int):=by omega
      have c3:Hid (ys=fZ list level ((rs.zip lv).take (k+1))):=η (by
       rw [← HE.out,a4.out,he,ϕ ν]
       rfl)
      have c4:Hid (ys.length≤(k+1) * 8100000000):=η (by
       have h1:=U.out;have h2:=a6.out;rw [Nat.add_mul]
       omega)
      have c5:=η (B5.out.trans (y.out.mono B5.out.size));clear he a4 U;go_wp2;go_roundw
      case rel=>exact ⟨k+1,ys,av,a0,by go_num,c3,c4.out,a7,hY,aw,c5⟩
      case measure=>simp [intOf]; omega
   ·have bp:¬ (l:Int)=(level:Int):=by omega
    have HE:Hid (out=fZ list level ((rs.zip lv).take (k+1))):=η (by rw [J.out,← ho.out,if_neg a2]);clear J a2;go_wp2;go_roundw
    case rel=>exact ⟨k+1,out,bo,a0,by go_num,HE,τ bj (Nat.mul_le_mul_right _ (Nat.le_succ k)),ae,hO,a5,I⟩
    case measure=>simp [intOf]; omega
  ·have he:k=rs.length:=by omega
   have bl:¬ (k:Int) < (rs.length:Int):=by omega
   have HE:Hid (out=fZ list level (rs.zip lv)):=η (by rw [ho.out,he,ϕ (by rw [List.length_zip]; omega)]);clear he ho;go_wp2;go_ret;exact ⟨I.out,_,rfl,bo,by rw [← HE.out]; exact hO.out,a5.out⟩
def D.oV (w:World):Prop:=w.cell? ⟨1,0,none⟩=some (.iface 350 (.agg #[.pointer (some ⟨2,186,none⟩)]))
theorem D.oV.below {w w':World} (h:oV w) (y:Below w.heap.size w w'):oV w':=ξ y h
theorem D.VK (rs:List Ru) (k:Nat) (h:k < rs.length) (h0:(rs.take k).all dN=true):(rs.take (k+1)).all dN=dN rs[k]:=by
 rw [ρ h,List.all_append,h0]; simp
theorem D.WY (rs:List Ru) (k:Nat) (h:k < rs.length) (h0:dN rs[k]=false):dV rs=1:=by
 unfold dV;rw [if_pos (List.all_eq_false.2 ⟨_,δ h,by simp [h0]⟩)]
theorem DJ (rs:List Ru) (v:Value) (bs:List Nat) (w:World) (h:dS w [v] rs bs) (hg:oV w):
  Calls Tryz.prog 130 #[v] w fun e w'=>e=.returned (.int .i64 (dV rs))∧Below w.heap.size w w':=by
 obtain ⟨Ad,cap,rfl,hl,hm⟩:=ak h;have ao:=aA (τ hl hm);have c1:=fun w' (y:Below w.heap.size w w') (hok:rs.all dN=true) (hf:rs.length≤8)=>Dj rs _ bs w' (bJ.below h y) hok hf
 have c2:=fun w' (y:Below w.heap.size w w')=>wV rs _ bs w' (bJ.below h y)
 have c3:=fun w' (y:Below w.heap.size w w') (hok:rs.all dN=true) (hf:rs.length≤8)=>wS rs _ bs w' (bJ.below h y) hf hok
 have C1:=η c1;have C2:=η c2;have C3:=η c3;have HG:=η hg;clear hl hm c1 c2 c3 hg
 go_enter Tryz.func130,Tryz.ntmps130
 go_wp2
 go_loopw [12] (fun i wr=>∃ k:Nat,k≤rs.length∧i=.int .i64 k∧(rs.take k).all dN=true∧Below w.heap.size w wr) (fun i _=>rs.length - (intOf i).toNat)
 case atStart=>exact ⟨0,ε,rfl,rfl,ϑ⟩
 case round=>
  obtain ⟨k,hk,rfl,a2,y⟩:=hrel;have HA:=η a2;clear a2;by_cases a1:k < rs.length
  ·clear C1 C2 C3 HG
   obtain ⟨b,o,Ae,ce,Af,cf,bk,rfl,_,d0,d1,d2,a4,_⟩:=gy (bJ.below h y) a1;have HS:=η (VK rs k a1 HA.out);have I:=η (WY rs k a1);have ap:(0:Int)≤(k:Int):=by omega
   have a9:(k:Int) < (rs.length:Int):=by omega
   have a5:=η a1;obtain ⟨b1,b2,_,a6,a7⟩:=iO a4;have hA:Below wr.heap.size wr (wr.alloc (.cells #[.string rs[k].head.name,.slice Ae rs[k].head.args.length ce,.slice Af rs[k].body.length cf] 40)):=ζ;have c1:=fun w' (hw:Below wr.heap.size wr w')=>Nr rs[k].body _ b2 w' (dw.below a7 hw)
   have c2:=fun w' (hw:Below wr.heap.size wr w')=>qX rs[k].head _ _ b1 w' (aj.below a6 hw)
   have x0:(wr.alloc (.cells #[.string rs[k].head.name,.slice Ae rs[k].head.args.length ce,.slice Af rs[k].body.length cf] 40)).cell? ⟨wr.heap.size,0,none⟩=some (.string rs[k].head.name):=by go_simp
   have x1:(wr.alloc (.cells #[.string rs[k].head.name,.slice Ae rs[k].head.args.length ce,.slice Af rs[k].body.length cf] 40)).cell? ⟨wr.heap.size,1,none⟩=some (.slice Ae rs[k].head.args.length ce):=by go_simp
   have X0:=η x0;have X1:=η x1;have C1:=η c1;have C2:=η c2;have HH:=η hA;have a0:Hid (dN rs[k]=(mD rs[k].body && aX rs[k].head)):=η rfl;clear h a4 a6 a7 c1 c2 hA x0 x1;generalize rs[k]=r at *;clear a1;obtain ⟨⟨nm,args⟩,body⟩:=r;dsimp only at *;cases h1:mD body
   ·rw [h1] at C1
    have J:=η (I.out (by rw [a0.out,h1]; rfl));clear h1 a0 I HS
    go_wp2_with fail
    refine (C1.out _ HH.out).mono ?_;rintro e w2 ⟨rfl,U⟩;have B2:=y.trans ((HH.out.trans (U.mono HH.out.size)).mono y.size);go_wp2;go_ret;exact ⟨dO (by simp [J.out]),B2⟩
   ·rw [h1] at C1
    go_wp2_with fail
    refine (C1.out _ HH.out).mono ?_;rintro e w2 ⟨rfl,U⟩;have B1:=HH.out.trans (U.mono HH.out.size);have x0:=ξ U X0.out;have x1:=ξ U X1.out;clear X0 X1 C1
    go_wp2_with fail
    refine (C2.out _ B1).mono ?_;rintro e w3 ⟨rfl,a3⟩;have B3:=y.trans ((B1.trans (a3.mono B1.size)).mono y.size);cases h2:aX ⟨nm,args⟩
    ·have J:=η (I.out (by rw [a0.out,h1,h2]; rfl))
     clear h1 a0 I HS;go_wp2;go_ret;exact ⟨dO (by simp [J.out]),B3⟩
    ·have J:=η (HS.out.trans (by rw [a0.out,h1,h2,Bool.and_true]))
     clear h1 a0 I HS;go_wp2;go_roundw
     case rel=>exact ⟨k+1,a5.out,by go_num,J.out,B3⟩
     case measure=>have:=a5.out; simp [intOf]; omega
  ·have he:k=rs.length:=by omega
   have a9:¬ (k:Int) < (rs.length:Int):=by omega
   have hok:rs.all dN=true:=by have:=HA.out; rw [he,ϕ ν] at this; exact this
   clear HA he h;by_cases hf:rs.length≤8
   ·have aa:¬ (8:Int) < (rs.length:Int):=by omega
    have hP:dV rs=if jH (aF rs)=false then 3 else if (rs.all fun r=>dZ r.head r.body)=false then 4 else if lg rs=true then 5 else 0:=by
     unfold dV; rw [if_neg (by simp [hok]),if_neg (by omega)]
    have C4:=η fun w' y=>C1.out w' y hok hf
    have C5:=η fun w' y=>C3.out w' y hok hf
    have HP:=η hP;clear hok hf hP C1 C3
    go_wp2_with fail
    refine (C4.out _ y).mono ?_;rintro e w2 ⟨rfl,n,hM,U⟩;have B2:=y.trans (U.mono y.size);clear C4 hM;cases ha:jH (aF rs)
    ·have J:Hid (dV rs=3):=η (by rw [HP.out,if_pos ha])
     clear HP ha;go_wp2;go_ret;exact ⟨dO (by simp [J.out]),B2⟩
    ·replace HP:Hid (dV rs=if (rs.all fun r=>dZ r.head r.body)=false then 4 else if lg rs=true then 5 else 0):=η (by rw [HP.out,if_neg (by simp [ha])])
     clear ha
     go_wp2_with fail
     refine (C2.out _ B2).mono ?_;rintro e w3 ⟨rfl,a3⟩;have B3:=B2.trans (a3.mono B2.size);clear C2;cases ht:(rs.all fun r=>dZ r.head r.body)
     ·have J:Hid (dV rs=4):=η (by rw [HP.out,if_pos ht])
      clear HP ht;go_wp2;go_ret;exact ⟨dO (by simp [J.out]),B3⟩
     ·replace HP:Hid (dV rs=if lg rs=true then 5 else 0):=η (by rw [HP.out,if_neg (by simp [ht])])
      clear ht
      go_wp2_with fail
      refine (C5.out _ B3).mono ?_;rintro e w4 ⟨ab,hr⟩;have B4:=B3.trans (ab.mono B3.size);clear C5
      rcases hr with ⟨hc,a,rfl⟩ | ⟨hc,v',bs',rfl,_,_⟩
      ·have J:Hid (dV rs=5):=η (by rw [HP.out,if_pos hc])
       clear HP hc;have hA:Below w4.heap.size w4 (w4.alloc (.cells #[.pointer none] 255)):=ζ;have ac:=η ((HG.out.below (B4)).below hA);have ae:Hid ((w4.alloc (.cells #[.pointer none] 255)).cell? ⟨w4.heap.size,0,none⟩=some (.pointer none)):=η (by go_simp);have af:Hid ((w4.alloc (.cells #[.pointer none] 255)).frozen? ⟨w4.heap.size,0,none⟩=false):=η (by go_simp);have B5:=B4.trans (hA.mono B4.size);have ag:Hid (w.heap.size≤w4.heap.size):=η B4.size;clear hA
       go_wp2_with fail
       refine (Gv _ _ _ _ ac.out ae.out af.out).mono ?_;rintro e w5 ⟨rfl,a8⟩;have S0:=ag.out;have B6:=((((B5.alloc (by simp; omega) (.cells #[.pointer (some ⟨w4.heap.size,0,none⟩)] 257)).alloc (by simp; omega) (.cells #[.pointer (some ⟨2,257,none⟩),.pointer (some ⟨w4.heap.size+1,0,none⟩),.int .u64 150] 313)).alloc (by simp; omega) (.cells #[.pointer (some ⟨2,257,none⟩),.pointer (some ⟨w4.heap.size+1,0,none⟩),.int .u64 150] 313)).alloc (by simp; omega) (.cells #[.pointer (some a)] 255)).setCell (p:=⟨w4.heap.size,0,none⟩) S0 (.pointer (some a));have am:Hid (Below w.heap.size w w5):=η (by rw [a8]; simpa using B6);clear B6 B5 B4 S0 a8;go_wp2;go_ret;exact ⟨dO (by simp [J.out]),am.out⟩
      ·have J:Hid (dV rs=0):=η (by rw [HP.out,if_neg (by simp [hc])])
       clear HP hc
       go_wp2_with fail
       refine (Gs _ _).mono ?_;rintro e w5 ⟨rfl,rfl⟩;go_wp2;go_ret;exact ⟨dO (by simp [J.out]),B4.alloc B4.size _⟩
   ·have aa:(8:Int) < (rs.length:Int):=by omega
    have J:Hid (dV rs=2):=η (by unfold dV; rw [if_neg (by simp [hok]),if_pos (by omega)]);clear hok hf C1 C2 C3;go_wp2;go_ret;exact ⟨dO (by simp [J.out]),y⟩
end Go.Proofs.YtkjinanbccloeaaGreatDoor
