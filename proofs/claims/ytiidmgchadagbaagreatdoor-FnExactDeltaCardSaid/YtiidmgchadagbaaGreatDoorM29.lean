/- Of the proof of FnExactDelta: OnceS, ProgC, ChS, OfS, ChI, FrmI. -/
import Derived.Test.YtiidmgchadagbaaGreatDoorM26
import Derived.Test.YtiidmgchadagbaaGreatDoorM22
import Derived.Test.YtiidmgchadagbaaGreatDoorM27
set_option linter.unusedVariables false
set_option maxHeartbeats 8000000
set_option maxRecDepth 100000
namespace Go.Proofs.YtiidmgchadagbaaGreatDoor
open Go.RowKit D
attribute [local go_sem ↓] Go.wp_at_zero Go.wp_at_succ
def D.Ec (list:List A) (r:Ru) (out:List A):List A:=(allB list r.body).foldl (fun o b=>fA o (bY r.head b)) out
def D.ja (list:List A) (level:Nat) (rl:List (Ru × Nat)):List A:=rl.foldl (fun out p=>if p.2=level then Ec list p.1 out else out) []
theorem D.Tz {list:List A} (hl:list.length≤300) (body:List Pt):(xB list body).length≤300 ^ body.length:=by
 have h:∀ k,k≤body.length→(xB list (body.take k)).length≤300 ^ k:=by
  intro k
  induction k with
  | zero=>intro _; simp [xB]
  | succ k ih=>
   intro hk;rw [uK list body k (by omega)];exact Px hl (ih (by omega))
 have:=h body.length (Nat.le_refl _)
 rwa [List.take_of_length_le (Nat.le_refl _)] at this
theorem D.J7 {list:List A} (hl:list.length≤300) {body:List Pt} (hb:body.length≤4):(allB list body).length≤8100000000:=
 Nat.le_trans (List.length_filter_le _ _) (Nat.le_trans (Tz hl body) (Nat.le_trans (Nat.pow_le_pow_right (by omega) hb) (by decide)))
theorem D.G9 (xs:List A) (a:A):(fA xs a).length≤xs.length+1:=by
 unfold fA
 split <;> simp <;> omega
theorem D.Dx (list:List A) (level:Nat) (rl:List (Ru × Nat)) (k:Nat) (h:k < rl.length):ja list level (rl.take (k+1))=(if rl[k].2=level then Ec list rl[k].1 (ja list level (rl.take k)) else ja list level (rl.take k)):=by
 unfold ja;rw [List.take_succ_eq_append_getElem h,List.foldl_append];rfl
theorem D.Vk (list:List A) (r:Ru) (out:List A) (k:Nat) (h:k < (allB list r.body).length):((allB list r.body).take (k+1)).foldl (fun o b=>fA o (bY r.head b)) out=fA (((allB list r.body).take k).foldl (fun o b=>fA o (bY r.head b)) out) (bY r.head (allB list r.body)[k]):=by
 rw [List.take_succ_eq_append_getElem h,List.foldl_append];rfl
theorem D.Fz {bb bs:List Nat} {xs X:List A} {v:Value} {wi w':World} {e:Ending} (h:GU bb xs X v wi.heap.size wi e w') (ha:aI wi [v] xs bs) (hs:∀ c ∈ bs,c ∈ bb):
  Below wi.heap.size wi w'∧∃ A cap bl,e=.returned (.slice A X.length cap)∧aI w' [.slice A X.length cap] X bl∧∀ c ∈ bl,c ∈ bb∨wi.heap.size≤c:=by
 obtain ⟨hb,v',bs',rfl,h3,h4⟩:=h;refine ⟨hb,?_⟩
 rcases h4 with ⟨rfl,rfl⟩ | ⟨L,b9,hC,h9⟩
 ·obtain ⟨A,cap,rfl,_⟩:=af ha
  exact ⟨A,cap,bs,rfl,ai.below ha hb,fun c hc=>.inl (hs c hc)⟩
 ·obtain ⟨b2,h5,h6⟩:=hC.slice
  obtain ⟨A,cap,rfl,_⟩:=af h5;exact ⟨A,cap,b2,rfl,h5,fun c hc=>(h6 c hc).elim .inr fun h=>.inl (h9 c h)⟩
theorem TA (rs:List Ru) (lv:List Nat) (level:Nat) (list:List A) (v0 v1 v3:Value) (b0 b1 b3:List Nat) (w:World) (hr:dO w [v0] rs b0) (hv:jD w [v1] lv b1) (hl:aI w [v3] list b3)
  (hlen:lv.length=rs.length) (hasc:ig list=true) (hn:list.length≤300) (hm:rs.length≤8) (hb:∀ r ∈ rs,r.body.length≤4∧r.head.args.length≤1000∧∀ p ∈ r.body,p.atom.args.length≤1000):
  Calls Tryz.prog 60 #[v0,v1,.int .i64 level,v3] w fun e w'=>Below w.heap.size w w'∧∃ v bs,e=.returned v∧aI w' [v] (ja list level (rs.zip lv)) bs∧∀ c ∈ bs,w.heap.size≤c:=by
 obtain ⟨Ar,pr,rfl,hr1,hr2⟩:=af hr;obtain ⟨Av,pv,rfl,hv1,hv2⟩:=af hv;obtain ⟨Al,pl,rfl,hl1,hl2⟩:=af hl;have HR:=η hr;have HV:=η hv;have HL:=η hl;have HB:=η hb;have HLEN:=η hlen;have hE:aI (w.alloc (.cells #[] 68)) [.slice (some ⟨w.heap.size,0,none⟩) 0 0] [] []:=sG;have hA:Below w.heap.size w (w.alloc (.cells #[] 68)):=(Below.refl _ _).alloc (Nat.le_refl _) _;clear hr hv hl hr1 hr2 hv1 hv2 hl1 hl2 hb hlen
 go_enter Tryz.func60,Tryz.ntmps60
 go_wp2_with fail
 generalize w.alloc (.cells #[] 68)=w0 at *
 go_loopw [9,10,11,12] (fun o i _ _ wr=>∃ (k:Nat) (out:List A) (bo:List Nat),k≤rs.length∧i=.int .i64 k∧Hid (out=ja list level ((rs.zip lv).take k))∧out.length≤k * 8100000000∧ig out=true∧Hid (aI wr [o] out bo)∧Hid (∀ c ∈ bo,w.heap.size≤c)∧Hid (Below w.heap.size w wr)) (fun _ i _ _ _=>rs.length - (intOf i).toNat)
 case atStart=>exact ⟨0,[],[],Nat.zero_le _,rfl,η rfl,Nat.zero_le _,rfl,η hE,η (fun c hc=>by cases hc),η hA⟩
 case round=>
  obtain ⟨k,out,bo,hk,rfl,ho,hol,hoa,hO,hFO,hBw⟩:=hrel;clear hE hA;by_cases hlt:k < rs.length
  ·have hk0:(0:Int)≤(k:Int):=by omega
   have hk1:(k:Int) < (rs.length:Int):=by omega
   have hkv:k < lv.length:=by have:=HLEN.out; omega
   have hkz:k < (rs.zip lv).length:=by rw [List.length_zip]; omega
   have hk2:(k:Int) < (lv.length:Int):=by omega
   obtain ⟨vb,vo,rfl,_,ev⟩:=qm (dL.below HV.out hBw.out) hkv;obtain ⟨rb,ro,Ah,ch,Ab,cb,br,rfl,_,e0,e1,e2,hel,_⟩:=gq (aC.below HR.out hBw.out) hlt;have HSN:=η (Dx list level (rs.zip lv) k hkz);rw [List.getElem_zip] at HSN;dsimp only at HSN;have HRB:=η (HB.out _ (List.getElem_mem hlt));have HEL:=η hel;generalize wr=wo at *;generalize rs[k]=r at *;generalize lv[k]=l at *;clear hel hkz;by_cases hll:l=level
   ·have hli:(l:Int)=(level:Int):=by omega
    have HE:Hid (Ec list r out=ja list level ((rs.zip lv).take (k+1))):=η (by rw [HSN.out,← ho.out,if_pos hll])
    obtain ⟨HAT,bq,HBD⟩:Hid (∃ b1,aU wo [.string r.head.name,.slice Ah r.head.args.length ch] r.head b1)∧∃ bq,Hid (gm wo [.slice Ab r.body.length cb] r.body bq):=by
     obtain ⟨s,t,b1,b2,hcs,hnm,_,ht,hp⟩:=HEL.out;simp only [List.cons.injEq,true_and,and_true] at hcs;obtain ⟨rfl,rfl⟩:=hcs;exact ⟨η ⟨b1,_,rfl,hnm,ht⟩,b2,η hp⟩
    have q5:=Vd list r.body _ _ b3 bq wo (ai.below HL.out hBw.out) HBD.out hasc hn HRB.out.1 HRB.out.2.2;have HQL:=η (J7 hn HRB.out.1);clear HSN ho HEL hll
    go_wp2_with fail
    refine q5.mono ?_;rintro e w5 ⟨hb5,v5,b5,rfl,h5⟩;obtain ⟨A5,p5,rfl,hp5,hm5⟩:=af h5;have H5:=η h5;have B5:=η (hBw.out.trans (hb5.mono hBw.out.size));have C5:=η hb5;have HO5:=η (ai.below hO.out hb5);clear q5 h5 hb5 hp5 hm5 hO
    go_wp2_with fail
    go_loopw [9,12] (fun o i wr=>∃ (q:Nat) (ys:List A) (by_:List Nat),q≤(allB list r.body).length∧i=.int .i64 q∧Hid (ys=((allB list r.body).take q).foldl (fun o b=>fA o (bY r.head b)) out)∧Hid (ys.length≤out.length+q)∧ig ys=true∧Hid (aI wr [o] ys by_)∧Hid (∀ c ∈ by_,w.heap.size≤c)∧Hid (Below w5.heap.size w5 wr)) (fun _ i _=>(allB list r.body).length - (intOf i).toNat)
    case atStart=>exact ⟨0,out,bo,Nat.zero_le _,rfl,η rfl,η (Nat.le_refl _),hoa,HO5,hFO,η (Below.refl _ _)⟩
    case round=>
     obtain ⟨q,ys,byy,hq,rfl,hys,hyl,hya,hY,hFY,hB1⟩:=hrel;clear HO5;by_cases hqt:q < (allB list r.body).length
     ·have hq0:(0:Int)≤(q:Int):=by omega
      have hq1:(q:Int) < ((allB list r.body).length:Int):=by omega
      have hqb:q≤8100000000:=by have:=HQL.out; omega
      obtain ⟨ab,ao,A1,p1,A2,p2,bk,rfl,_,d0,d1,hbd,_⟩:=yc (mJ.below H5.out hB1.out) hqt;have g0:=cell_later hB1.out (cell_later C5.out e0);have g1:=cell_later hB1.out (cell_later C5.out e1);have HPA:=η (Vk list r out q hqt)
      have hyb:ys.length≤100000000000:=by
       have h1:=hyl.out;have h2:=HQL.out;have h3:k * 8100000000≤8 * 8100000000:=Nat.mul_le_mul_right _ (by omega);omega
      generalize (allB list r.body)[q]=b0 at *;have hD:Below wr.heap.size wr wr.drew:=Below.drew (Below.refl _ _);have Q1:=η fun w' (hb:Below wr.heap.size wr w')=>HAT.out.elim fun b1 h1=>JA r.head b0 _ _ _ _ b1 bk w' (aj.below h1 (C5.out.trans ((hB1.out.mono C5.out.size).trans (hb.mono (Nat.le_trans C5.out.size hB1.out.size))))) (dh.below hbd hb) (Nat.le_trans HRB.out.2.1 (by omega))
      have Q2:=η fun w' (hb:Below wr.heap.size wr w') c0 c1 b6 (h6:aU w' [c0,c1] (bY r.head b0) b6)=>yY ys (bY r.head b0) _ c0 c1 byy b6 w' (ai.below hY.out hb) h6 hya hyb
      have HD1:=η hD;clear hbd hD
      go_wp2_with fail
      go_region_held3 (fun w'=>w'.cell? ⟨rb,ro+k * 3,none⟩=some (.string r.head.name)∧w'.cell? ⟨rb,ro+k * 3+1,none⟩=some (.slice Ah r.head.args.length ch)∧w'.cell? ⟨ab,ao+q * 2,none⟩=some (.slice A1 b0.length p1)∧w'.cell? ⟨ab,ao+q * 2+1,none⟩=some (.slice A2 b0.length p2))
       (first | go_keep | exact hq5 | exact hq6)
       (first
        | (go_at_call 96; refine (Q1.out _ HD1.out).mono ?_; rintro e w6 ⟨hb6,x0,x1,b6,rfl,h6,hf6⟩; have B6:=HD1.out.trans (hb6.mono HD1.out.size); have hq5:=And.intro (cell_later B6 g0) (And.intro (cell_later B6 g1) (And.intro (cell_later B6 d0) (cell_later B6 d1))))
        | (go_at_call 79; refine (Q2.out _ B6 _ _ _ h6).mono ?_; rintro e w7 hr7; obtain ⟨hb7,A7,p7,b7,rfl,h7,hf7⟩:=Fz hr7 (ai.below hY.out B6) (fun c hc=>List.mem_append_left _ hc); have B7:=B6.trans (hb7.mono B6.size); have hq6:=And.intro (cell_later B7 g0) (And.intro (cell_later B7 g1) (And.intro (cell_later B7 d0) (cell_later B7 d1)))))
      have HB7:=η (hB1.out.trans (B7.mono hB1.out.size));have HY2:Hid (fA ys (bY r.head b0)=((allB list r.body).take (q+1)).foldl (fun o b=>fA o (bY r.head b)) out):=η (by rw [HPA.out,hys.out]);have HLN:=η (Nat.le_trans (G9 ys (bY r.head b0)) (Nat.succ_le_succ hyl.out));have hya2:=AL hya (bY r.head b0);have H7:=η h7
      have HF7:Hid (∀ c ∈ b7,w.heap.size≤c):=η fun c hc=>by
       have s1:=hBw.out.size;have s2:=C5.out.size;have s3:=hB1.out.size;have s4:=B6.size
       rcases hf7 c hc with h | h
       ·rcases List.mem_append.1 h with h | h
        ·exact hFY.out c h
        ·have:=hf6 c h
         have e9:wr.drew.heap.size=wr.heap.size:=rfl;omega
       ·omega
      clear Q1 Q2 hq5 hq6 h6 hb6 hb7 h7 B6 B7 g0 g1 d0 d1 HPA hys hyl hyb;go_wp2;go_roundw
      case rel=>exact ⟨q+1,_,_,hqt,by go_num,HY2,HLN,hya2,H7,HF7,HB7⟩
      case measure=>simp [intOf]; omega
     ·have he:q=(allB list r.body).length:=by omega
      have hq1:¬ (q:Int) < ((allB list r.body).length:Int):=by omega
      have HE2:Hid (ys=ja list level ((rs.zip lv).take (k+1))):=η (by
       rw [← HE.out,hys.out,he,List.take_of_length_le (Nat.le_refl _)]
       rfl)
      have HL2:Hid (ys.length≤(k+1) * 8100000000):=η (by
       have h1:=hyl.out;have h2:=HQL.out;rw [Nat.add_mul]
       omega)
      have HB8:=η (B5.out.trans (hB1.out.mono B5.out.size));clear he hys hyl;go_wp2;go_roundw
      case rel=>exact ⟨k+1,ys,byy,hlt,by go_num,HE2,HL2.out,hya,hY,hFY,HB8⟩
      case measure=>simp [intOf]; omega
   ·have hli:¬ (l:Int)=(level:Int):=by omega
    have HE:Hid (out=ja list level ((rs.zip lv).take (k+1))):=η (by rw [HSN.out,← ho.out,if_neg hll]);clear HSN hll;go_wp2;go_roundw
    case rel=>exact ⟨k+1,out,bo,hlt,by go_num,HE,Nat.le_trans hol (Nat.mul_le_mul_right _ (Nat.le_succ k)),hoa,hO,hFO,hBw⟩
    case measure=>simp [intOf]; omega
  ·have he:k=rs.length:=by omega
   have hk1:¬ (k:Int) < (rs.length:Int):=by omega
   have HE:Hid (out=ja list level (rs.zip lv)):=η (by rw [ho.out,he,List.take_of_length_le (by rw [List.length_zip]; omega)]);clear he ho;go_wp2;go_ret;exact ⟨hBw.out,_,rfl,bo,by rw [← HE.out]; exact hO.out,hFO.out⟩
def D.qp (w:World):Prop:=w.cell? ⟨1,0,none⟩=some (.iface 291 (.agg #[.pointer (some ⟨2,114,none⟩)]))
theorem D.qp.below {w w':World} (h:qp w) (hb:Below w.heap.size w w'):qp w':=cell_later hb h
theorem D.Vl (rs:List Ru) (k:Nat) (h:k < rs.length) (h0:(rs.take k).all fC=true):(rs.take (k+1)).all fC=fC rs[k]:=by
 rw [List.take_succ_eq_append_getElem h,List.all_append,h0]; simp
theorem D.Wp (rs:List Ru) (k:Nat) (h:k < rs.length) (h0:fC rs[k]=false):fO rs=1:=by
 unfold fO;rw [if_pos (List.all_eq_false.2 ⟨_,List.getElem_mem h,by simp [h0]⟩)]
theorem Dy (rs:List Ru) (v:Value) (bs:List Nat) (w:World) (h:dO w [v] rs bs) (hg:qp w):
  Calls Tryz.prog 157 #[v] w fun e w'=>e=.returned (.int .i64 (fO rs))∧Below w.heap.size w w':=by
 obtain ⟨Ad,cap,rfl,hl,hm⟩:=af h;have hlm:=au (Nat.le_trans hl hm);have c1:=fun w' (hb:Below w.heap.size w w') (hok:rs.all fC=true) (hf:rs.length≤8)=>CY rs _ bs w' (aC.below h hb) hok hf
 have c2:=fun w' (hb:Below w.heap.size w w')=>yj rs _ bs w' (aC.below h hb)
 have c3:=fun w' (hb:Below w.heap.size w w') (hok:rs.all fC=true) (hf:rs.length≤8)=>yg rs _ bs w' (aC.below h hb) hf hok
 have C1:=η c1;have C2:=η c2;have C3:=η c3;have HG:=η hg;clear hl hm c1 c2 c3 hg
 go_enter Tryz.func157,Tryz.ntmps157
 go_wp2
 go_loopw [12] (fun i wr=>∃ k:Nat,k≤rs.length∧i=.int .i64 k∧(rs.take k).all fC=true∧Below w.heap.size w wr) (fun i _=>rs.length - (intOf i).toNat)
 case atStart=>exact ⟨0,Nat.zero_le _,rfl,rfl,Below.refl _ _⟩
 case round=>
  obtain ⟨k,hk,rfl,hall,hb⟩:=hrel;have HA:=η hall;clear hall;by_cases hlt:k < rs.length
  ·clear C1 C2 C3 HG
   obtain ⟨b,o,Ae,ce,Af,cf,bk,rfl,_,d0,d1,d2,hel,_⟩:=gq (aC.below h hb) hlt;have HS:=η (Vl rs k hlt HA.out);have HBAD:=η (Wp rs k hlt);have hk0:(0:Int)≤(k:Int):=by omega
   have hk1:(k:Int) < (rs.length:Int):=by omega
   have HLT:=η hlt;obtain ⟨b1,b2,_,hhd,hbd⟩:=gu hel;have hA:Below wr.heap.size wr (wr.alloc (.cells #[.string rs[k].head.name,.slice Ae rs[k].head.args.length ce,.slice Af rs[k].body.length cf] 71)):=(Below.refl _ _).alloc (Nat.le_refl _) _;have c1:=fun w' (hw:Below wr.heap.size wr w')=>Nj rs[k].body _ b2 w' (aY.below hbd hw)
   have c2:=fun w' (hw:Below wr.heap.size wr w')=>tq rs[k].head _ _ b1 w' (aj.below hhd hw)
   have x0:(wr.alloc (.cells #[.string rs[k].head.name,.slice Ae rs[k].head.args.length ce,.slice Af rs[k].body.length cf] 71)).cell? ⟨wr.heap.size,0,none⟩=some (.string rs[k].head.name):=by go_simp
   have x1:(wr.alloc (.cells #[.string rs[k].head.name,.slice Ae rs[k].head.args.length ce,.slice Af rs[k].body.length cf] 71)).cell? ⟨wr.heap.size,1,none⟩=some (.slice Ae rs[k].head.args.length ce):=by go_simp
   have X0:=η x0;have X1:=η x1;have C1:=η c1;have C2:=η c2;have HH:=η hA;have HRO:Hid (fC rs[k]=(oW rs[k].body && aZ rs[k].head)):=η rfl;clear h hel hhd hbd c1 c2 hA x0 x1;generalize rs[k]=r at *;clear hlt;obtain ⟨⟨nm,args⟩,body⟩:=r;dsimp only at *;cases h1:oW body
   ·rw [h1] at C1
    have HZ:=η (HBAD.out (by rw [HRO.out,h1]; rfl));clear h1 HRO HBAD HS
    go_wp2_with fail
    refine (C1.out _ HH.out).mono ?_;rintro e w2 ⟨rfl,hb2⟩;have B2:=hb.trans ((HH.out.trans (hb2.mono HH.out.size)).mono hb.size);go_wp2;go_ret;exact ⟨eF (by simp [HZ.out]),B2⟩
   ·rw [h1] at C1
    go_wp2_with fail
    refine (C1.out _ HH.out).mono ?_;rintro e w2 ⟨rfl,hb2⟩;have B1:=HH.out.trans (hb2.mono HH.out.size);have x0:=cell_later hb2 X0.out;have x1:=cell_later hb2 X1.out;clear X0 X1 C1
    go_wp2_with fail
    refine (C2.out _ B1).mono ?_;rintro e w3 ⟨rfl,hb3⟩;have B3:=hb.trans ((B1.trans (hb3.mono B1.size)).mono hb.size);cases h2:aZ ⟨nm,args⟩
    ·have HZ:=η (HBAD.out (by rw [HRO.out,h1,h2]; rfl))
     clear h1 HRO HBAD HS;go_wp2;go_ret;exact ⟨eF (by simp [HZ.out]),B3⟩
    ·have HZ:=η (HS.out.trans (by rw [HRO.out,h1,h2,Bool.and_true]))
     clear h1 HRO HBAD HS;go_wp2;go_roundw
     case rel=>exact ⟨k+1,HLT.out,by go_num,HZ.out,B3⟩
     case measure=>have:=HLT.out; simp [intOf]; omega
  ·have he:k=rs.length:=by omega
   have hk1:¬ (k:Int) < (rs.length:Int):=by omega
   have hok:rs.all fC=true:=by have:=HA.out; rw [he,List.take_of_length_le (Nat.le_refl _)] at this; exact this
   clear HA he h;by_cases hf:rs.length≤8
   ·have hf1:¬ (8:Int) < (rs.length:Int):=by omega
    have hP:fO rs=if jQ (aQ rs)=false then 3 else if (rs.all fun r=>fM r.head r.body)=false then 4 else if lY rs=true then 5 else 0:=by
     unfold fO; rw [if_neg (by simp [hok]),if_neg (by omega)]
    have C4:=η fun w' hb=>C1.out w' hb hok hf
    have C5:=η fun w' hb=>C3.out w' hb hok hf
    have HP:=η hP;clear hok hf hP C1 C3
    go_wp2_with fail
    refine (C4.out _ hb).mono ?_;rintro e w2 ⟨rfl,n,hM,hb2⟩;have B2:=hb.trans (hb2.mono hb.size);clear C4 hM;cases ha:jQ (aQ rs)
    ·have HZ:Hid (fO rs=3):=η (by rw [HP.out,if_pos ha])
     clear HP ha;go_wp2;go_ret;exact ⟨eF (by simp [HZ.out]),B2⟩
    ·replace HP:Hid (fO rs=if (rs.all fun r=>fM r.head r.body)=false then 4 else if lY rs=true then 5 else 0):=η (by rw [HP.out,if_neg (by simp [ha])])
     clear ha
     go_wp2_with fail
     refine (C2.out _ B2).mono ?_;rintro e w3 ⟨rfl,hb3⟩;have B3:=B2.trans (hb3.mono B2.size);clear C2;cases ht:(rs.all fun r=>fM r.head r.body)
     ·have HZ:Hid (fO rs=4):=η (by rw [HP.out,if_pos ht])
      clear HP ht;go_wp2;go_ret;exact ⟨eF (by simp [HZ.out]),B3⟩
     ·replace HP:Hid (fO rs=if lY rs=true then 5 else 0):=η (by rw [HP.out,if_neg (by simp [ht])])
      clear ht
      go_wp2_with fail
      refine (C5.out _ B3).mono ?_;rintro e w4 ⟨hb4,hr⟩;have B4:=B3.trans (hb4.mono B3.size);clear C5
      rcases hr with ⟨hc,a,rfl⟩ | ⟨hc,v',bs',rfl,_,_⟩
      ·have HZ:Hid (fO rs=5):=η (by rw [HP.out,if_pos hc])
       clear HP hc;have hA:Below w4.heap.size w4 (w4.alloc (.cells #[.pointer none] 155)):=(Below.refl _ _).alloc (Nat.le_refl _) _;have HGW:=η ((HG.out.below (B4)).below hA);have HTW:Hid ((w4.alloc (.cells #[.pointer none] 155)).cell? ⟨w4.heap.size,0,none⟩=some (.pointer none)):=η (by go_simp);have HFW:Hid ((w4.alloc (.cells #[.pointer none] 155)).frozen? ⟨w4.heap.size,0,none⟩=false):=η (by go_simp);have B5:=B4.trans (hA.mono B4.size);have HSW:Hid (w.heap.size≤w4.heap.size):=η B4.size;clear hA
       go_wp2_with fail
       refine (FZ _ _ _ _ HGW.out HTW.out HFW.out).mono ?_;rintro e w5 ⟨rfl,hw5⟩;have S0:=HSW.out;have B6:=((((B5.alloc (by simp; omega) (.cells #[.pointer (some ⟨w4.heap.size,0,none⟩)] 257)).alloc (by simp; omega) (.cells #[.pointer (some ⟨2,257,none⟩),.pointer (some ⟨w4.heap.size+1,0,none⟩),.int .u64 150] 276)).alloc (by simp; omega) (.cells #[.pointer (some ⟨2,257,none⟩),.pointer (some ⟨w4.heap.size+1,0,none⟩),.int .u64 150] 276)).alloc (by simp; omega) (.cells #[.pointer (some a)] 155)).setCell (p:=⟨w4.heap.size,0,none⟩) S0 (.pointer (some a));have HB6:Hid (Below w.heap.size w w5):=η (by rw [hw5]; simpa using B6);clear B6 B5 B4 S0 hw5;go_wp2;go_ret;exact ⟨eF (by simp [HZ.out]),HB6.out⟩
      ·have HZ:Hid (fO rs=0):=η (by rw [HP.out,if_neg (by simp [hc])])
       clear HP hc
       go_wp2_with fail
       refine (FW _ _).mono ?_;rintro e w5 ⟨rfl,rfl⟩;go_wp2;go_ret;exact ⟨eF (by simp [HZ.out]),B4.alloc B4.size _⟩
   ·have hf1:(8:Int) < (rs.length:Int):=by omega
    have HZ:Hid (fO rs=2):=η (by unfold fO; rw [if_neg (by simp [hok]),if_pos (by omega)]);clear hok hf C1 C2 C3;go_wp2;go_ret;exact ⟨eF (by simp [HZ.out]),hb⟩
theorem Ed (c:Ch) (c0 c1:Value) (bs:List Nat) (w:World) (h:dU w [c0,c1] c bs):
  Calls Tryz.prog 45 #[.agg #[c0,c1]] w fun e w'=>e=.returned (.bool (jC c))∧Below w.heap.size w w':=by
 obtain ⟨Ad,cap,Ae,cape,rfl,rfl⟩:=eG h;obtain ⟨b1,b2,rfl,ht,hp⟩:=dZ h;obtain ⟨_,_,hv1,hl,hm⟩:=af ht;have hlm:=au (Nat.le_trans hl hm);have k1:=fun w' (hb:Below w.heap.size w w')=>nP c.comes _ b1 w' (ai.below ht hb)
 have k2:=fun w' (hb:Below w.heap.size w w')=>nP c.goes _ b2 w' (ai.below hp hb)
 have HE:Hid (jC c=(bH c.comes && bH c.goes && !meets c.comes c.goes)):=η rfl;have hs2:=fun (hf:bH c.goes=true)=>fE hf
 generalize bH c.comes=x at *;generalize bH c.goes=y at *;clear h hv1 hl hm;have hA:=(Below.refl w.heap.size w).alloc (Nat.le_refl _) (.cells #[.slice Ad c.comes.length cap,.slice Ae c.goes.length cape] 46)
 go_enter Tryz.func45,Tryz.ntmps45
 go_wp2_with fail
 refine (k1 _ hA).mono ?_;rintro e w1 ⟨rfl,hb1⟩;have B1:=hA.trans (hb1.mono hA.size);have x0:w1.cell? ⟨w.heap.size,0,none⟩=some (.slice Ad c.comes.length cap):=cell_later hb1 (by go_simp);have x1:w1.cell? ⟨w.heap.size,1,none⟩=some (.slice Ae c.goes.length cape):=cell_later hb1 (by go_simp);clear k1 hA;cases x
 ·clear hs2
  go_wp2;go_ret;exact ⟨aO (by rw [HE.out]; rfl),B1⟩
 ·go_wp2_with fail
  refine (k2 _ B1).mono ?_;rintro e w2 ⟨rfl,hb2⟩;have B2:=B1.trans (hb2.mono B1.size);have y0:=cell_later hb2 x0;have y1:=cell_later hb2 x1;clear k2 x0 x1;cases y
  ·clear hs2
   go_wp2;go_ret;exact ⟨aO (by rw [HE.out]; rfl),B2⟩
  ·have hs:=hs2 rfl
   have HS:=η hs;clear hs2;go_wp2
   go_loopw [3] (fun i wr=>∃ k:Nat,k≤c.comes.length∧i=.int .i64 k∧meets (c.comes.take k) c.goes=false∧Below w.heap.size w wr∧wr.cell? ⟨w.heap.size,0,none⟩=some (.slice Ad c.comes.length cap)∧wr.cell? ⟨w.heap.size,1,none⟩=some (.slice Ae c.goes.length cape)∧w.heap.size < wr.heap.size) (fun i _=>c.comes.length - (intOf i).toNat)
   case atStart=>exact ⟨0,Nat.zero_le _,rfl,rfl,B2,y0,y1,lt_of_cell y0⟩
   case round=>
    obtain ⟨k,hk,rfl,hall,hb,s0,s1,hgt⟩:=hrel;have HA:=η hall;clear hall y0 y1 B2 hb2 B1 hb1;by_cases hlt:k < c.comes.length
    ·have hk0:(0:Int)≤(k:Int):=by omega
     have hk1:(k:Int) < (c.comes.length:Int):=by omega
     obtain ⟨b,o,Af,ce,bk,rfl,_,c0,c1,hel,_⟩:=dG (ai.below ht hb) hlt;have hD:Below wr.heap.size wr wr.drew:=Below.drew (Below.refl _ _);have hcm:=yR c.goes c.comes[k] _ _ _ b2 bk wr.drew (ai.below hp (hb.trans (hD.mono hb.size))) (aj.below hel hD) HS.out;have HM:=η (LD (ys:=c.goes) hlt);have HB:=η (fun hf=>OW (ys:=c.goes) hlt hf);generalize hasB c.goes c.comes[k]=z at *;clear ht hp hel hs;cases z
     all_goals
      go_wp2
      go_region_held3 (fun w'=>w'.cell? ⟨w.heap.size,0,none⟩=some (.slice (some ⟨b,o,none⟩) c.comes.length cap)∧w'.cell? ⟨w.heap.size,1,none⟩=some (.slice Ae c.goes.length cape)∧w'.cell? ⟨b,o+k * 2,none⟩=some (.string c.comes[k].name)∧w'.cell? ⟨b,o+k * 2+1,none⟩=some (.slice Af c.comes[k].args.length ce))
       (first | go_keep | exact ⟨z0,z1,z2,z3⟩)
       (first | (go_at_call 77; refine hcm.mono ?_; rintro e w3 ⟨rfl,hw3⟩; have z0:=cell_later hw3 s0; have z1:=cell_later hw3 s1; have z2:=cell_later hw3 c0; have z3:=cell_later hw3 c1))
      have B3:=hb.trans ((hD.trans hw3).mono hb.size);clear hcm;go_wp2
     ·go_roundw
      case rel=>exact ⟨k+1,by omega,by go_num,by rw [HM.out,HA.out]; rfl,B3,z0,z1,Nat.lt_of_lt_of_le hgt (hD.trans hw3).size⟩
      case measure=>simp [intOf]; omega
     ·go_ret
      exact ⟨aO (by rw [HE.out,HB.out (by simp)]; rfl),B3⟩
    ·have he:=η (show k=c.comes.length by omega)
     clear ht hp hs;go_wp2;go_ret;exact ⟨aO (by have:=HA.out; rw [he.out,List.take_of_length_le (Nat.le_refl _)] at this; rw [HE.out,this]; rfl),hb⟩
theorem Ee (xs ys:List A) (v1 v2:Value) (bs1 bs2:List Nat) (w:World) (h:aI w [v1] xs bs1) (h2:aI w [v2] ys bs2):
  Calls Tryz.prog 47 #[v1,v2] w (Rk dU (tJ xs ys) w.heap.size w):=by
 obtain ⟨Ad,cap,rfl,hl,hm⟩:=af h;obtain ⟨Ae,cape,rfl,hl2,hm2⟩:=af h2;have hA0:Below w.heap.size w (w.alloc (.cells #[.slice none 0 0,.slice none 0 0] 46)):=(Below.refl _ _).alloc (Nat.le_refl _) _;have HZ:=η (Ot w (.cells #[.slice none 0 0,.slice none 0 0] 46));have k1:=nP xs _ bs1 _ (ai.below h hA0);have k2:=fun w' (hb:Below w.heap.size w w')=>nP ys _ bs2 w' (ai.below h2 hb)
 have k3:=fun (hf:bH xs=true) (hg:bH ys=true) w' (hb:Below w.heap.size w w')=>wG ys xs _ _ bs2 bs1 w' (ai.below h2 hb) (ai.below h hb) (fE hf) (Nat.le_trans (kW hg).1 (by omega)) (kW hg).2
 have k4:=fun (hf:bH xs=true) (hg:bH ys=true) w' (hb:Below w.heap.size w w')=>wG xs ys _ _ bs1 bs2 w' (ai.below h hb) (ai.below h2 hb) (fE hg) (Nat.le_trans (kW hf).1 (by omega)) (kW hf).2
 have HG:Hid (tJ xs ys=if (bH xs && bH ys)=true then ⟨dW ys xs,dW xs ys⟩ else ⟨[],[]⟩):=η rfl;generalize tJ xs ys=G at *;generalize bH xs=x at *;generalize bH ys=y at *;clear h h2 hl hm hl2 hm2
 go_enter Tryz.func47,Tryz.ntmps47
 go_wp2_with fail
 refine k1.mono ?_;rintro e w1 ⟨rfl,hb1⟩;have B1:=hA0.trans (hb1.mono hA0.size);replace HZ:=η (bG hb1 HZ.out);clear k1 hA0;cases x
 ·clear k2 k3 k4
  have HG2:Hid (G=⟨[],[]⟩):=η (by rw [HG.out]; rfl);have z0:w1.cell? ⟨w.heap.size,0,none⟩=some (.slice none 0 0):=aP HZ.out;have z1:w1.cell? ⟨w.heap.size,1,none⟩=some (.slice none 0 0):=aP HZ.out;have f0:w1.frozen? ⟨w.heap.size,0,none⟩=false:=aF HZ.out;have f1:w1.frozen? ⟨w.heap.size,1,none⟩=false:=aF HZ.out;have HF:=η (fF (c:=⟨[],[]⟩) HZ.out (dA _) (dA _));go_wp2;refine bodyPost_ret (v:=.agg #[.slice none 0 0,.slice none 0 0]) (by simp [results,Tryz.results47,go_sem,z0,z1]) rfl ⟨(B1.setCell (Nat.le_refl _) _).setCell (Nat.le_refl _) _,_,_,rfl,by rw [HG2.out]; exact HF.out⟩
 ·have k3a:=k3 rfl
  have k4a:=k4 rfl;clear k3 k4
  go_wp2_with fail
  refine (k2 _ B1).mono ?_;rintro e w2 ⟨rfl,hb2⟩;have B2:=B1.trans (hb2.mono B1.size);replace HZ:=η (bG hb2 HZ.out);clear k2;cases y
  ·clear k3a k4a
   have HG2:Hid (G=⟨[],[]⟩):=η (by rw [HG.out]; rfl);have z0:w2.cell? ⟨w.heap.size,0,none⟩=some (.slice none 0 0):=aP HZ.out;have z1:w2.cell? ⟨w.heap.size,1,none⟩=some (.slice none 0 0):=aP HZ.out;have f0:w2.frozen? ⟨w.heap.size,0,none⟩=false:=aF HZ.out;have f1:w2.frozen? ⟨w.heap.size,1,none⟩=false:=aF HZ.out;have HF:=η (fF (c:=⟨[],[]⟩) HZ.out (dA _) (dA _));go_wp2;refine bodyPost_ret (v:=.agg #[.slice none 0 0,.slice none 0 0]) (by simp [results,Tryz.results47,go_sem,z0,z1]) rfl ⟨(B2.setCell (Nat.le_refl _) _).setCell (Nat.le_refl _) _,_,_,rfl,by rw [HG2.out]; exact HF.out⟩
  ·have k3':=k3a rfl
   have k4':=k4a rfl;have HG2:Hid (G=⟨dW ys xs,dW xs ys⟩):=η (by rw [HG.out]; rfl);clear k3a k4a HG
   go_wp2_with fail
   refine (k3' _ B2).mono ?_;rintro e w3 ⟨hb3,v3,b3,rfl,hR3⟩;obtain ⟨A3,p3,rfl,_,_⟩:=af hR3;have B3:=B2.trans (hb3.mono B2.size);replace HZ:=η (bG hb3 HZ.out)
   go_wp2_with fail
   refine (k4' _ B3).mono ?_;rintro e w4 ⟨hb4,v4,b4,rfl,hR4⟩;obtain ⟨A4,p4,rfl,_,_⟩:=af hR4;have B4:=B3.trans (hb4.mono B3.size);replace HZ:=η (bG hb4 HZ.out);have z0:w4.cell? ⟨w.heap.size,0,none⟩=some (.slice none 0 0):=aP HZ.out;have z1:w4.cell? ⟨w.heap.size,1,none⟩=some (.slice none 0 0):=aP HZ.out;have f0:w4.frozen? ⟨w.heap.size,0,none⟩=false:=aF HZ.out;have f1:w4.frozen? ⟨w.heap.size,1,none⟩=false:=aF HZ.out;have HF:=η (fF (c:=⟨dW ys xs,dW xs ys⟩) HZ.out (ai.below hR3 hb4) hR4);clear hR3 hR4 k3' k4';go_wp2;refine bodyPost_ret (v:=.agg #[.slice A3 (dW ys xs).length p3,.slice A4 (dW xs ys).length p4]) (by simp [results,Tryz.results47,go_sem,z0,z1]) rfl ⟨(B4.setCell (Nat.le_refl _) _).setCell (Nat.le_refl _) _,_,_,rfl,by rw [HG2.out]; exact HF.out⟩
theorem Ef (c:Ch) (c0 c1:Value) (bs:List Nat) (w:World) (h:dU w [c0,c1] c bs):
  Calls Tryz.prog 49 #[.agg #[c0,c1]] w fun e w'=>e=.returned (.bool (jC c))∧Below w.heap.size w w':=by
 obtain ⟨Ad,cap,Ae,cape,rfl,rfl⟩:=eG h;obtain ⟨b1,b2,rfl,ht,hp⟩:=dZ h;have k1:=fun w' (hb:Below w.heap.size w w')=>rC c.comes _ b1 w' (ai.below ht hb)
 have k2:=fun w' (hb:Below w.heap.size w w')=>rC c.goes _ b2 w' (ai.below hp hb)
 have k3:=fun w' (hb:Below w.heap.size w w')=>NE c.comes c.goes _ _ b1 b2 w' (ai.below ht hb) (ai.below hp hb)
 have HE:Hid (jC c=(bH c.comes && bH c.goes && !meets c.comes c.goes)):=η rfl;have HM:=fun (hx:bH c.comes=true) (hy:bH c.goes=true)=>Iu _ c.comes c.goes (Nat.le_refl _) (fE hx) (fE hy)
 generalize bH c.comes=x at *;generalize bH c.goes=y at *;generalize (bP c.comes c.goes).any (fun p=>p.2 == 2)=z at *;generalize meets c.comes c.goes=m at *;clear h ht hp;have hA:=(Below.refl w.heap.size w).alloc (Nat.le_refl _) (.cells #[.slice Ad c.comes.length cap,.slice Ae c.goes.length cape] 46)
 go_enter Tryz.func49,Tryz.ntmps49
 go_wp2_with fail
 refine (k1 _ hA).mono ?_;rintro e w1 ⟨rfl,hb1⟩;have B1:=hA.trans (hb1.mono hA.size);have x0:w1.cell? ⟨w.heap.size,0,none⟩=some (.slice Ad c.comes.length cap):=cell_later hb1 (by go_simp);have x1:w1.cell? ⟨w.heap.size,1,none⟩=some (.slice Ae c.goes.length cape):=cell_later hb1 (by go_simp);clear k1 hA;cases x
 ·clear HM
  go_wp2;go_ret;exact ⟨aO (by rw [HE.out]; rfl),B1⟩
 ·go_wp2_with fail
  refine (k2 _ B1).mono ?_;rintro e w2 ⟨rfl,hb2⟩;have B2:=B1.trans (hb2.mono B1.size);have y0:=cell_later hb2 x0;have y1:=cell_later hb2 x1;clear k2 x0 x1;cases y
  ·clear HM
   go_wp2;go_ret;exact ⟨aO (by rw [HE.out]; rfl),B2⟩
  ·obtain rfl:z=m:=HM (by simp) (by simp)
   clear HM
   go_wp2_with fail
   refine (k3 _ B2).mono ?_;rintro e w3 ⟨rfl,hb3⟩;go_wp2;go_ret;exact ⟨aO (by rw [HE.out]; simp),B2.trans (hb3.mono B2.size)⟩
theorem Dz (xs ys:List A) (v1 v2:Value) (bs1 bs2:List Nat) (w:World) (h:aI w [v1] xs bs1) (h2:aI w [v2] ys bs2) (hn1:xs.length≤1000000) (hn2:ys.length≤1000000):
  Calls Tryz.prog 52 #[v1,v2] w (Rk dU ⟨fQ ys xs,fQ xs ys⟩ w.heap.size w):=by
 obtain ⟨Ad,cap,rfl,hl,hm⟩:=af h;obtain ⟨Ae,cape,rfl,hl2,hm2⟩:=af h2;have hA0:Below w.heap.size w (w.alloc (.cells #[.slice none 0 0,.slice none 0 0] 46)):=(Below.refl _ _).alloc (Nat.le_refl _) _;have HZ:=η (Ot w (.cells #[.slice none 0 0,.slice none 0 0] 46));have k3:=ug ys xs _ _ bs2 bs1 _ (ai.below h2 hA0) (ai.below h hA0) hn2 hn1;have k4:=fun w' (hb:Below w.heap.size w w')=>ug xs ys _ _ bs1 bs2 w' (ai.below h hb) (ai.below h2 hb) hn1 hn2
 clear h h2 hl hm hl2 hm2
 go_enter Tryz.func52,Tryz.ntmps52
 go_wp2_with fail
 refine k3.mono ?_;rintro e w3 ⟨hb3,v3,b3,rfl,hR3⟩;obtain ⟨A3,p3,rfl,_,_⟩:=af hR3;have B3:=hA0.trans (hb3.mono hA0.size);replace HZ:=η (bG hb3 HZ.out)
 go_wp2_with fail
 refine (k4 _ B3).mono ?_;rintro e w4 ⟨hb4,v4,b4,rfl,hR4⟩;obtain ⟨A4,p4,rfl,_,_⟩:=af hR4;have B4:=B3.trans (hb4.mono B3.size);replace HZ:=η (bG hb4 HZ.out);have z0:w4.cell? ⟨w.heap.size,0,none⟩=some (.slice none 0 0):=aP HZ.out;have z1:w4.cell? ⟨w.heap.size,1,none⟩=some (.slice none 0 0):=aP HZ.out;have f0:w4.frozen? ⟨w.heap.size,0,none⟩=false:=aF HZ.out;have f1:w4.frozen? ⟨w.heap.size,1,none⟩=false:=aF HZ.out;have HF:=η (fF (c:=⟨fQ ys xs,fQ xs ys⟩) HZ.out (ai.below hR3 hb4) hR4);clear hR3 hR4 k3 k4;go_wp2;refine bodyPost_ret (v:=.agg #[.slice A3 (fQ ys xs).length p3,.slice A4 (fQ xs ys).length p4]) (by simp [results,Tryz.results52,go_sem,z0,z1]) rfl ⟨(B4.setCell (Nat.le_refl _) _).setCell (Nat.le_refl _) _,_,_,rfl,HF.out⟩
end Go.Proofs.YtiidmgchadagbaaGreatDoor
