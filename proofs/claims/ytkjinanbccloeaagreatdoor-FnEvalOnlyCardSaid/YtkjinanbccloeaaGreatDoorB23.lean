/- Of the proof of FnEvalOnly: VarsI, WdI, AllS, LooseI. -/
import Derived.Test.YtkjinanbccloeaaGreatDoorB17
import Derived.Test.YtkjinanbccloeaaGreatDoorB18
set_option linter.unusedVariables false
set_option maxHeartbeats 8000000
set_option maxRecDepth 100000
namespace Go.Proofs.YtkjinanbccloeaaGreatDoor
open Go.RowKit D
attribute [local go_sem ↓] Go.wp_at_zero Go.wp_at_succ
theorem TA:(Tryz.prog.info? 9).map (fun i=>(i.zero,i.size,i.bytes))=some (some (.string ⟨#[]⟩),1,16):=by kernel_rfl
structure D.TB (w:World) (v:Value) (L:List Value) (xs:List ByteArray) (wr:World):Prop where
 coll:aZ 1 jD w.heap.size 9 wr v L xs []
 bel:Below w.heap.size w wr
theorem D.TB.below {w wr w':World} {v:Value} {L:List Value} {xs:List ByteArray} (h:TB w v L xs wr) (y:Below wr.heap.size wr w'):TB w v L xs w':=⟨h.coll.below aO y,h.bel.trans (y.mono h.bel.size)⟩
theorem Hw (ps:List Pt) (v:Value) (bs:List Nat) (w:World) (h:gW w [v] ps bs) (hs:iq (fun p=>p.atom.args.length) ps≤1000000):
  Calls Tryz.prog 173 #[v] w (Makes ji (aB ps) w.heap.size w):=by
 obtain ⟨Ad,cap,rfl,hl,hm⟩:=ak h;have bo:=aA (τ hl hm);obtain ⟨i0,hi,aL,aM,aR⟩:=info_parts TA;have b1:Hid (∀ k,(jh (ps.take k)).length≤iq (fun p=>p.atom.args.length) (ps.take k)):=η fun k=>qQ _
 have HS:=η hs;have HV:=η (aZ.nil (n:=1) (R:=jD) (base:=w.heap.size) (e:=9) w);clear hl hm hs
 go_enter Tryz.func173,Tryz.ntmps173
 go_wp2
 go_loopw [3,10] (fun v i wr=>∃ (k:Nat) (Av:Option Addr) (cp:Nat) (L:List Value) (xs:List ByteArray),k≤ps.length∧i=.int .i64 k∧v=.slice Av xs.length cp∧xs=jh (ps.take k)∧TB w (.slice Av xs.length cp) L xs wr) (fun _ i _=>ps.length - (intOf i).toNat)
 case atStart=>exact ⟨0,none,0,[],[],ε,rfl,rfl,rfl,HV.out,ϑ⟩
 case round=>
  obtain ⟨k,Av,cp,L,xs,hk,rfl,rfl,ab,J⟩:=hrel;clear HV;have HV:=η J;have HX:=η ab;clear ab;obtain ⟨wo,rfl⟩:∃ wo:World,wo=wr:=⟨_,rfl⟩;by_cases I:k < ps.length
  ·obtain ⟨b,o,Ae,ce,bk,rfl,_,d0,d1,d2,ac,_⟩:=iH h I
   replace d0:=ξ J.bel d0;replace d1:=ξ J.bel d1;replace d2:=ξ J.bel d2;have bp:(0:Int)≤(k:Int):=by omega
   have b3:(k:Int) < (ps.length:Int):=by omega
   have ae:=η I;have HN:=η (G7 ps k I)
   have b4:Hid ((jh (ps.take k)).length+ps[k].atom.args.length≤1000000):=η (by
    have h1:=b1.out k;have h2:=EP (fun p:Pt=>p.atom.args.length) ps k I;have h3:=rY (fun p:Pt=>p.atom.args.length) ps (k+1);have:=HS.out
    omega)
   have hA:Below wo.heap.size wo (wo.alloc (.cells #[.bool ps[k].no,.string ps[k].atom.name,.slice Ae ps[k].atom.args.length ce] 42)):=ζ;have ht:=dm (iV ac);obtain ⟨_,_,b5,af,ag⟩:=ak ht;have bq:=aA (τ af ag);have am:=η (J.below hA);have HT:=η ht;clear h J ac hA ht af ag b5 HV;generalize ps[k]=p at *;clear I;obtain ⟨no,nm,args⟩:=p;dsimp only at *;go_wp2;generalize wo.alloc (.cells #[.bool no,.string nm,.slice Ae args.length ce] 42)=w1 at *
   go_loopw [3,18] (fun v i wr=>∃ (j:Nat) (Av:Option Addr) (cp:Nat) (L:List Value) (ys:List ByteArray),j≤args.length∧i=.int .i64 j∧v=.slice Av ys.length cp∧ys=jh (ps.take k) ++ jg (args.take j)∧TB w (.slice Av ys.length cp) L ys wr) (fun _ i _=>args.length - (intOf i).toNat)
   case atStart=>exact ⟨0,Av,cp,L,xs,ε,rfl,rfl,by rw [← HX.out]; simp [jg],am.out⟩
   case round=>
    clear am HX;obtain ⟨j,Aw,cq,M,ys,hj,rfl,rfl,a0,J⟩:=hrel;have HV:=η J;have HY:=η a0;clear a0;by_cases I:j < args.length
    ·obtain ⟨b2,o2,rfl,_,f0,f1,ao⟩:=dY (aN.below HT.out J.bel) I
     have br:(0:Int)≤(j:Int):=by omega
     have b6:(j:Int) < (args.length:Int):=by omega
     have a3:=η I;have a4:=η (G6 args j I);have a7:Below wr.heap.size wr (wr.alloc (.cells #[.bool args[j].var,.string args[j].name] 91)):=ζ;have ap:Below wr.heap.size wr ((wr.alloc (.cells #[.bool args[j].var,.string args[j].name] 91)).alloc (.cells #[.string args[j].name] 9)):=a7.alloc (by simp) _;have aq:=η (J.below a7);have a5:=η (J.below ap)
     have HK:Hid (ys.length+1≤maxLen∧(ys.length+1) * 16≤140737488355328):=η (by
      have h1:=yY (args.take j);rw [List.length_take] at h1;have h2:=b4.out;rw [HY.out,χ]
      unfold maxLen; omega)
     have b7:=η ao;clear J a7 ap ao HV;generalize args[j]=t at *;clear I;obtain ⟨tv,U⟩:=t;dsimp only at *;cases tv
     ·have a1:Hid (jg (args.take (j+1))=jg (args.take j)):=η (by rw [a4.out]; simp)
      clear a4 a5;go_wp2;go_roundw
      case rel=>exact ⟨j+1,Aw,cq,M,ys,a3.out,by go_num,rfl,by rw [a1.out]; exact HY.out,aq.out⟩
      case measure=>have:=a3.out; simp [intOf]; omega
     ·have a1:Hid (jg (args.take (j+1))=jg (args.take j) ++ [U]):=η (by rw [a4.out]; simp)
      have b8:Hid (aQ 1 jD ((wr.alloc (.cells #[.bool true,.string U] 91)).alloc (.cells #[.string U] 9)) [.string U] [U] []):=η (aQ.dh iW ⟨rfl,b7.out,rfl⟩);have bc:Hid (Lies ((wr.alloc (.cells #[.bool true,.string U] 91)).alloc (.cells #[.string U] 9)) (some ⟨wr.heap.size+1,0,none⟩) [.string U]):=η (by have:=aS (ω (wr.alloc (.cells #[.bool true,.string U] 91)) (.cells #[.string U] 9)); simpa using this);clear a4 aq
      go_wp2_with (at_builtin; refine bW rfl _ _ _ rfl w.heap.size 9 i0 (.string ⟨#[]⟩) 1 16 Tryz.underlying44 hi aL aM aR rfl (by omega) aO (.slice Aw ys.length cq) ys.length _ _ _ rfl a5.out.coll rfl (some ⟨wr.heap.size+1,0,none⟩) 1 1 _ [U] _ rfl b8.out rfl bc.out (fun b hb=>by simp at hb) HK.out.1 HK.out.2 w w.heap.size a5.out.bel ν a5.out.bel.size ?_; intro A2 bf w2 a2 ar bg _)
      have bh:=η a2;have bi:=η ar;clear a2 ar bg;go_wp2;go_roundw
      case rel=>exact ⟨j+1,A2,bf,_,ys ++ [U],a3.out,by go_num,by simp,by rw [a1.out,HY.out,List.append_assoc],by rw [χ]; exact bh.out,bi.out⟩
      case measure=>have:=a3.out; simp [intOf]; omega
    ·have he:j=args.length:=by omega
     have b6:¬ (j:Int) < (args.length:Int):=by omega
     have HE:Hid (ys=jh (ps.take (k+1))):=η (by rw [HN.out,HY.out,he,ϕ ν]);clear J he;go_wp2;go_roundw
     case rel=>exact ⟨k+1,Aw,cq,M,ys,ae.out,by go_num,rfl,HE.out,HV.out⟩
     case measure=>have:=ae.out; simp [intOf]; omega
  ·have he:k=ps.length:=by omega
   have b3:¬ (k:Int) < (ps.length:Int):=by omega
   have a8:xs=jh ps:=by rw [HX.out,he,ϕ ν]
   have a9:xs.length≤16777216:=by rw [a8]; have:=qQ ps; have:=HS.out; omega
   have bj:=η a8;have bl:=η a9;have c1:=PI xs _ L w.heap.size wo J.coll a9;have bt:=η (fE J.coll.own);clear h J he a8 a9 HX hk
   go_wp2_with fail
   refine c1.mono ?_;rintro e w2 ⟨rfl,ys,a0,av,aa,aw⟩;have B2:Below w.heap.size w w2:=iE HV.out.bel HV.out.coll.own ν HV.out.bel.size aw;have c2:=Hr ys _ _ w.heap.size w2 aa (by rw [av]; exact bl.out);have HY:=η (ι a0 (ι aa B2));clear c1 a0 av aa aw B2
   go_wp2_with fail
   refine c2.mono ?_;rintro e w3 ⟨v3,zs,rfl,a6,a2,az⟩
   have hz:zs=aB ps:=by
    have h1:=G8 ps;rw [HY.out.1,bj.out] at a6;rw [h1] at a6
    have bn:∀ (a b:List ByteArray),a.map (·.data.toList)=b.map (·.data.toList)→a=b:=by
     intro a
     induction a with
     | nil=>intro b h; cases b; rfl; simp at h
     | cons x a ih=>intro b h; cases b with
      | nil=>simp at h
      | cons y b=>simp only [List.map_cons,List.cons.injEq] at h; rw [bytes_inj h.1,ih b h.2]
    exact bn _ _ a6
   subst hz;obtain ⟨b9,aD,aE⟩:=a2.new (New.nil _ _);have B3:=iE HY.out.2.2 HY.out.2.1.own ν HY.out.2.2.size az;have HZ:Hid (Makes ji (aB ps) w.heap.size w (.returned v3) w3):=η ⟨B3,_,_,rfl,aD,aE⟩;clear c2 a6 a2 az aD aE B3;go_wp2;go_ret;exact HZ.out
theorem D.FZ {B:Nat} {a w:World} (h:Below B a w) (n:Nat):Below B a (w.drewN n):=⟨h.os,h.tape,h.output,h.size,h.block⟩
theorem uT (vars:List ByteArray) (hv:jr vars) (b:Bd) (t:T) (ht:t.var=true→t.name ∈ vars) (blk o:Nat) (w:World) (h:gJ vars b blk o w):
  Calls Tryz.prog 178 #[.pointer (some ⟨blk,o,none⟩),.agg #[.int .i64 (jI vars t),.string (jJ t)]] w fun e w'=>e=.returned (.string (dA b t).name)∧Below w.heap.size w w':=by
 obtain ⟨tv,y⟩:=t;have I:Below w.heap.size w (w.alloc (.cells #[.int .i64 (jI vars ⟨tv,y⟩),.string (jJ ⟨tv,y⟩)] 244)):=ζ;have HB:=η I;cases tv
 ·have J:jI vars ⟨false,y⟩ = -1:=rfl
  have U:jJ ⟨false,y⟩=y:=rfl;have e3:(dA b ⟨false,y⟩).name=y:=rfl;rw [J,U] at HB ⊢;rw [e3];clear h I ht J U e3
  go_enter Tryz.func178,Tryz.ntmps178
  go_wp2;go_ret;exact ⟨rfl,HB.out⟩
 ·have hn:=ht rfl
  have hi:vars.idxOf y < vars.length:=List.idxOf_lt_length_of_mem hn;have hf:=hv.few;have J:jI vars ⟨true,y⟩=((vars.idxOf y:Nat):Int):=rfl
  have e3:(dA b ⟨true,y⟩).name=Iq vars b (vars.idxOf y):=by
   unfold Iq;rw [dif_pos hi];have:vars[vars.idxOf y]=y:=List.getElem_idxOf hi;rw [this]; rfl
  have U:jJ ⟨true,y⟩=⟨#[]⟩:=rfl;rw [J,U] at HB I ⊢;rw [e3];have hB:=(h.keep (I.block _ h.lt));have y0:=hB.wd (vars.idxOf y) (by omega);have k0:¬ ((vars.idxOf y:Nat):Int) < 0:=by omega
  have k1:((vars.idxOf y:Nat):Int) < 12:=by omega
  have k2:(0:Int)≤((vars.idxOf y:Nat):Int):=by omega
  generalize vars.idxOf y=j at *;clear h I ht hB J e3 U hi hn
  go_enter Tryz.func178,Tryz.ntmps178
  go_wp2
  go_quiet (fail)
  go_wp2;go_ret;exact ⟨rfl,FZ HB.out _⟩
theorem D.J8 (w:World):ji w [.slice none 0 0] [] []:=⟨none,0,rfl,ν,ε,fun _=>rfl,fun h=>absurd rfl h⟩
theorem D.TD (w:World):iY w [.slice none 0 0,.slice none 0 0] [] []:=⟨_,_,[],[],rfl,rfl,J8 w,J8 w⟩
theorem D.Qd (w:World):∃ bs,qO (w.alloc (.cells #[.slice none 0 0,.slice none 0 0] 234)) [.slice (some ⟨w.heap.size,0,none⟩) 1 1] [[]] bs:=by
 have hr:aQ 2 iY (w.alloc (.cells #[.slice none 0 0,.slice none 0 0] 234)) [.slice none 0 0,.slice none 0 0] [([]:Bd)] []:=aQ.dh uS (TD _)
 have y:(w.alloc (.cells #[.slice none 0 0,.slice none 0 0] 234)).ownsRow w.heap.size 234 2 (.slice (some ⟨w.heap.size,0,none⟩) 1 1) 1 [.slice none 0 0,.slice none 0 0]:=
  ⟨rfl,.inr ⟨w.heap.size,1,_,rfl,ν,ω w _,ν,by decide,by simp,by simp⟩⟩
 obtain ⟨bs,h,_⟩:=hr.slice y;exact ⟨bs,h⟩
theorem VD (list:List A) (body:List Pt) (v0 v1:Value) (bl bb:List Nat) (w:World) (hl:aU w [v0] list bl) (hb:gW w [v1] body bb)
  (hasc:fK list=true) (hn:list.length≤300) (hm:body.length≤4) (hbl:∀ p ∈ body,p.atom.args.length≤1000):
  Calls Tryz.prog 171 #[v0,v1] w fun e w'=>Below w.heap.size w w'∧∃ v bs,e=.returned v∧qO w' [v] (allB list body) bs:=by
 obtain ⟨Al,pl,rfl,hl1,hl2⟩:=ak hl;obtain ⟨Ab,pb,rfl,hb1,hb2⟩:=ak hb;obtain ⟨i0,hi,hz0,hz1,hz2⟩:=info_parts FW;have HL:=η hl;have HB:=η hb;have HBL:=η hbl;have HM:=η hm;clear hl hb hl1 hl2 hb1 hb2 hbl;obtain ⟨bs0,h0⟩:=Qd w;have H0:=η h0;have hA0:Below w.heap.size w (w.alloc (.cells #[.slice none 0 0,.slice none 0 0] 234)):=ζ;clear h0
 go_enter Tryz.func171,Tryz.ntmps171
 go_wp2_with fail
 generalize w.alloc (.cells #[.slice none 0 0,.slice none 0 0] 234)=w0 at *
 go_loopw [5,6,7,8,9,10,11] (fun o i _ _ _ _ _ wr=>∃ (k:Nat) (out:List Bd) (Am:Option Addr) (cm:Nat) (bs:List Nat),k≤body.length∧i=.int .i64 k∧o=.slice Am out.length cm∧Hid (out=vW list (body.take k))∧out.length≤300 ^ k∧Hid (∀ b ∈ out,b.length≤1000 * k)∧Hid (qO wr [.slice Am out.length cm] out bs)∧Hid (Below w.heap.size w wr)) (fun _ i _ _ _ _ _ _=>body.length - (intOf i).toNat)
 case atStart=>exact ⟨0,[[]],_,_,_,ε,rfl,rfl,η rfl,by simp,η (fun b hb=>by rw [List.mem_singleton.1 hb]; simp),H0,η hA0⟩
 case round=>
  obtain ⟨k,out,Am,cm,bs,hk,rfl,rfl,ho,hol,hoe,hO,hBw⟩:=hrel;clear H0 hA0;by_cases hlt:k < body.length
  ·have hk0:(0:Int)≤(k:Int):=by omega
   have hk1:(k:Int) < (body.length:Int):=by omega
   have hk4:k≤3:=by omega
   have hol3:out.length≤27000000:=τ hol (τ (Nat.pow_le_pow_right (by omega) hk4) (by decide));obtain ⟨pb1,po,Ae,ce,bk,rfl,_,e0,e1,e2,hel,_⟩:=iH (dw.below HB.out hBw.out) hlt;have HAT:=η (iV hel);have HRS:=η (sH list body k hlt);have HAL:=η (HBL.out _ (δ hlt));generalize wr=wo at *;generalize body[k]=p at *;obtain ⟨pno,px⟩:=p;dsimp only at *;clear hel
   cases pno with
   | true=>
    have HE:Hid (out=vW list (body.take (k+1))):=η (by rw [HRS.out,← ho.out]; rfl);clear HRS HAT HAL e1 e2;go_wp2;go_roundw
    case rel=>exact ⟨k+1,out,Am,cm,bs,hlt,by go_num,rfl,HE,τ hol (Nat.pow_le_pow_right (by omega) (by omega)),η (fun b hb=>by have:=hoe.out b hb; omega),hO,hBw⟩
    case measure=>simp [intOf]; omega
   | false=>
    have HE:Hid (out.flatMap (jG list px)=vW list (body.take (k+1))):=η (by rw [HRS.out,← ho.out]; rfl);clear HRS ho;have hA1:Below wo.heap.size wo (wo.alloc (.cells #[] 234)):=ζ;have hE1:aZ 2 iY wo.heap.size 234 (wo.alloc (.cells #[] 234)) (.slice (some ⟨wo.heap.size,0,none⟩) 0 0) [] [] []:=aZ.empty (ω wo _) ν
    go_wp2_with fail
    generalize wo.alloc (.cells #[] 234)=w1 at *
    go_loopw [7,8,9,10,11] (fun m i _ _ _ wr=>∃ (q:Nat) (xs:List Bd) (An:Option Addr) (cn:Nat) (L:List Value) (bn:List Nat),q≤out.length∧i=.int .i64 q∧m=.slice An xs.length cn∧Hid (xs=(out.take q).flatMap (jG list px))∧Hid (aZ 2 iY wo.heap.size 234 wr (.slice An xs.length cn) L xs bn)∧Hid (Below wo.heap.size wo wr)) (fun _ i _ _ _ _=>out.length - (intOf i).toNat)
    case atStart=>exact ⟨0,[],_,_,_,_,ε,rfl,rfl,η rfl,η hE1,η hA1⟩
    case round=>
     obtain ⟨q,xs,An,cn,L,bn,hq,rfl,rfl,hxs,hC,hB1⟩:=hrel;clear hE1 hA1;by_cases hqt:q < out.length
     ·have hq0:(0:Int)≤(q:Int):=by omega
      have hq1:(q:Int) < (out.length:Int):=by omega
      obtain ⟨ab1,ao,A1,p1,A2,p2,bq,rfl,_,d0,d1,hbd,hsub⟩:=wR hO.out hqt;have HFS:=η (Pv list px out q hqt);have HBN:=η (hoe.out _ (δ hqt))
      have HXL:Hid (xs.length≤q * list.length):=η (by
       rw [hxs.out];refine τ (vX _) ?_;rw [List.length_take]
       exact Nat.mul_le_mul (Nat.min_le_left _ _) ν)
      have HBD:=η hbd;have HFAR:Hid (∀ c ∈ bq,c < wo.heap.size):=η fun c hc=>lK.lt hO.out c (hsub c hc)
      generalize wr=w2 at *;generalize out[q]=b0 at *;clear hbd hsub
      go_wp2_with fail
      go_loopw [7,9,10,11] (fun m i _ _ wr=>∃ (j:Nat) (ys:List Bd) (An:Option Addr) (cn:Nat) (L:List Value) (bn:List Nat),j≤list.length∧i=.int .i64 j∧m=.slice An ys.length cn∧Hid (ys=(out.take q).flatMap (jG list px) ++ jG (list.take j) px b0)∧Hid (aZ 2 iY wo.heap.size 234 wr (.slice An ys.length cn) L ys bn)∧Hid (Below wo.heap.size wo wr)) (fun _ i _ _ _=>list.length - (intOf i).toNat)
      case atStart=>exact ⟨0,xs,An,cn,L,bn,ε,rfl,rfl,η (by rw [hxs.out]; simp [jG]),hC,hB1⟩
      case round=>
       obtain ⟨j,ys,An,cn,L,bn,hj,rfl,rfl,hys,hC,hB2⟩:=hrel;by_cases hjt:j < list.length
       ·have hj0:(0:Int)≤(j:Int):=by omega
        have hj1:(j:Int) < (list.length:Int):=by omega
        have hBW:=hBw.out.trans (hB2.out.mono hBw.out.size);obtain ⟨lb1,lo,Af,cf,bf,rfl,_,f0,f1,hfe,_⟩:=dJ (au.below HL.out hBW) hjt;have g1:=ξ hB2.out e1;have g2:=ξ hB2.out e2;have g3:=ξ hB2.out d0;have g4:=ξ hB2.out d1;have n1:pb1 < wr.heap.size:=lt_of_cell g1;have n2:ab1 < wr.heap.size:=lt_of_cell g3;have n3:lb1 < wr.heap.size:=lt_of_cell f0;have HF1:=η (Nc list px b0 j hjt);generalize list[j]=f at *;have q5:=fun w' (hb:Below wr.heap.size wr w')=>PK px f b0 _ _ _ _ _ _ _ _ _ w' (aj.below HAT.out (hB2.out.trans (hb.mono hB2.out.size))) (aj.below hfe hb) (bZ.below HBD.out (hB2.out.trans (hb.mono hB2.out.size))) (by have:=HBN.out; omega) (τ HAL.out (by omega))
        have Q5:=η q5;have hD1:Below wr.heap.size wr wr.drew:=Below.drew ϑ;have hD2:Below wr.heap.size wr (wr.alloc (.cells #[.slice none 0 0,.slice none 0 0] 234)).drew:=(ζ).drew;have HD2:=η hD2;have HD1:=η hD1;clear q5 hfe hD1 hD2
        go_wp2_with fail
        go_region_held3 (fun w'=>w'.cell? ⟨pb1,po+k * 3+1,none⟩=some (.string px.name)∧w'.cell? ⟨pb1,po+k * 3+2,none⟩=some (.slice Ae px.args.length ce)∧w'.cell? ⟨lb1,lo+j * 2,none⟩=some (.string f.name)∧w'.cell? ⟨lb1,lo+j * 2+1,none⟩=some (.slice Af f.args.length cf)∧w'.cell? ⟨ab1,ao+q * 2,none⟩=some (.slice A1 b0.length p1)∧w'.cell? ⟨ab1,ao+q * 2+1,none⟩=some (.slice A2 b0.length p2))
         (first | go_keep | exact hqk | exact hqk2)
         (first
          | (go_at_call 201; first
            | (refine (Q5.out _ HD1.out).mono ?_; rintro e w6 ⟨hb6,x0,x1,b6,rfl,h6,hfar6⟩; have B6:=HD1.out.trans (hb6.mono HD1.out.size); have hqk:=ι (ξ B6 g1) (ι (ξ B6 g2) (ι (ξ B6 f0) (ι (ξ B6 f1) (ι (ξ B6 g3) (ξ B6 g4))))); obtain ⟨B3,q3,B4,q4,hcs⟩:=lm h6; simp only [List.cons.injEq,and_true] at hcs; obtain ⟨rfl,rfl⟩:=hcs; have m1:=lt_of_cell (ξ B6 g1); have m2:=lt_of_cell (ξ B6 g3); have m3:=lt_of_cell (ξ B6 f0))
            | (refine (Q5.out _ HD2.out).mono ?_; rintro e w6 ⟨hb6,x0,x1,b6,rfl,h6,hfar6⟩; have B6:=HD2.out.trans (hb6.mono HD2.out.size); have hqk:=ι (ξ B6 g1) (ι (ξ B6 g2) (ι (ξ B6 f0) (ι (ξ B6 f1) (ι (ξ B6 g3) (ξ B6 g4))))); obtain ⟨B3,q3,B4,q4,hcs⟩:=lm h6; simp only [List.cons.injEq,and_true] at hcs; obtain ⟨rfl,rfl⟩:=hcs; have m1:=lt_of_cell (ξ B6 g1); have m2:=lt_of_cell (ξ B6 g3); have m3:=lt_of_cell (ξ B6 f0); have hM6:=(hb6.block wr.heap.size (by show wr.heap.size < (World.alloc wr _).heap.size; simp)).trans (ω wr (.cells #[.slice none 0 0,.slice none 0 0] 234)); have fz0:w6.frozen? ⟨wr.heap.size,0,none⟩=false:=ax hM6; have fz1:w6.frozen? ⟨wr.heap.size,1,none⟩=false:=ax hM6; have cz0:w6.cell? ⟨wr.heap.size,0,none⟩=some (.slice none 0 0):=ai hM6; have cz1:w6.cell? ⟨wr.heap.size,1,none⟩=some (.slice none 0 0):=ai hM6; have hqk2:=ι ((World.cell?_of_block (π _ ⟨wr.heap.size,1,none⟩ (.slice B4 (aC px f b0).1.length q4) _ (by show pb1 ≠ wr.heap.size; omega))).trans ((World.cell?_of_block (π _ ⟨wr.heap.size,0,none⟩ (.slice B3 (aC px f b0).1.length q3) _ (by show pb1 ≠ wr.heap.size; omega))).trans (ξ B6 g1))) (ι ((World.cell?_of_block (π _ ⟨wr.heap.size,1,none⟩ (.slice B4 (aC px f b0).1.length q4) _ (by show pb1 ≠ wr.heap.size; omega))).trans ((World.cell?_of_block (π _ ⟨wr.heap.size,0,none⟩ (.slice B3 (aC px f b0).1.length q3) _ (by show pb1 ≠ wr.heap.size; omega))).trans (ξ B6 g2))) (ι ((World.cell?_of_block (π _ ⟨wr.heap.size,1,none⟩ (.slice B4 (aC px f b0).1.length q4) _ (by show lb1 ≠ wr.heap.size; omega))).trans ((World.cell?_of_block (π _ ⟨wr.heap.size,0,none⟩ (.slice B3 (aC px f b0).1.length q3) _ (by show lb1 ≠ wr.heap.size; omega))).trans (ξ B6 f0))) (ι ((World.cell?_of_block (π _ ⟨wr.heap.size,1,none⟩ (.slice B4 (aC px f b0).1.length q4) _ (by show lb1 ≠ wr.heap.size; omega))).trans ((World.cell?_of_block (π _ ⟨wr.heap.size,0,none⟩ (.slice B3 (aC px f b0).1.length q3) _ (by show lb1 ≠ wr.heap.size; omega))).trans (ξ B6 f1))) (ι ((World.cell?_of_block (π _ ⟨wr.heap.size,1,none⟩ (.slice B4 (aC px f b0).1.length q4) _ (by show ab1 ≠ wr.heap.size; omega))).trans ((World.cell?_of_block (π _ ⟨wr.heap.size,0,none⟩ (.slice B3 (aC px f b0).1.length q3) _ (by show ab1 ≠ wr.heap.size; omega))).trans (ξ B6 g3))) ((World.cell?_of_block (π _ ⟨wr.heap.size,1,none⟩ (.slice B4 (aC px f b0).1.length q4) _ (by show ab1 ≠ wr.heap.size; omega))).trans ((World.cell?_of_block (π _ ⟨wr.heap.size,0,none⟩ (.slice B3 (aC px f b0).1.length q3) _ (by show ab1 ≠ wr.heap.size; omega))).trans (ξ B6 g4))))))))))
        all_goals
         have HFO:Hid (∀ c ∈ b6,(Value.slice An ys.length cn).ownBlock ≠ some c):=η fun c hc e=>by
          have h1:=je hC.out.own c e
          rcases hfar6 c hc with h2 | h2
          ·have:=HFAR.out c h2
           omega
          ·simp at h2
           omega
         have HML:=η (CG px f b0)
         first
          | (have hMf:=bK (o:=1) (u:=.slice B4 (aC px f b0).1.length q4) (bK (o:=0) (u:=.slice B3 (aC px f b0).1.length q3) hM6); have z0:((w6.setCell ⟨wr.heap.size,0,none⟩ (.slice B3 (aC px f b0).1.length q3)).setCell ⟨wr.heap.size,1,none⟩ (.slice B4 (aC px f b0).1.length q4)).cell? ⟨wr.heap.size,0,none⟩=some (.slice B3 (aC px f b0).1.length q3):=ai hMf; have z1:((w6.setCell ⟨wr.heap.size,0,none⟩ (.slice B3 (aC px f b0).1.length q3)).setCell ⟨wr.heap.size,1,none⟩ (.slice B4 (aC px f b0).1.length q4)).cell? ⟨wr.heap.size,1,none⟩=some (.slice B4 (aC px f b0).1.length q4):=ai hMf; clear hMf; have HBf:=η ((B6.setCell (p:=⟨wr.heap.size,0,none⟩) ν (.slice B3 (aC px f b0).1.length q3)).setCell (p:=⟨wr.heap.size,1,none⟩) ν (.slice B4 (aC px f b0).1.length q4)); have H6f:=η (oQ (N:=wr.heap.size) (y0:=.slice B3 (aC px f b0).1.length q3) (y1:=.slice B4 (aC px f b0).1.length q4) h6 (fun hc=>by
            rcases hfar6 _ hc with h2 | h2
            ·have:=HFAR.out _ h2
             have:=hB2.out.size;omega
            ·exact absurd h2 (by show ¬ (World.alloc wr _).heap.size≤_; simp))); clear B6 hqk hqk2 m1 m2 m3 hb6 hfar6 h6 Q5 HD1 HD2 hM6 fz0 fz1 cz0 cz1; generalize hwf:(w6.setCell ⟨wr.heap.size,0,none⟩ (.slice B3 (aC px f b0).1.length q3)).setCell ⟨wr.heap.size,1,none⟩ (.slice B4 (aC px f b0).1.length q4)=wf at *; clear hwf)
          | (have hAf:=(Below.refl w6.heap.size w6).alloc ν (.cells #[.slice B3 (aC px f b0).1.length q3,.slice B4 (aC px f b0).1.length q4] 234); have HBf:=η (B6.trans (hAf.mono B6.size)); have hMf:=ω w6 (.cells #[.slice B3 (aC px f b0).1.length q3,.slice B4 (aC px f b0).1.length q4] 234); have z0:(w6.alloc (.cells #[.slice B3 (aC px f b0).1.length q3,.slice B4 (aC px f b0).1.length q4] 234)).cell? ⟨w6.heap.size,0,none⟩=some (.slice B3 (aC px f b0).1.length q3):=ai hMf; have z1:(w6.alloc (.cells #[.slice B3 (aC px f b0).1.length q3,.slice B4 (aC px f b0).1.length q4] 234)).cell? ⟨w6.heap.size,1,none⟩=some (.slice B4 (aC px f b0).1.length q4):=ai hMf; clear hMf; have H6f:=η (bZ.below h6 hAf); clear hAf B6 hqk m1 m2 m3 hb6 hfar6 h6 Q5 HD1 HD2; generalize hwf:w6.alloc (.cells #[.slice B3 (aC px f b0).1.length q3,.slice B4 (aC px f b0).1.length q4] 234)=wf at *; clear hwf)
         have HXL2:Hid (ys.length≤8200000000):=η (by
          rw [hys.out,χ];have h1:=vX (list:=list) (a:=px) (out.take q);have h2:=FC (list.take j) px b0;rw [List.length_take] at h1 h2;have h3:min q out.length * list.length≤27000000 * 300:=Nat.mul_le_mul (τ (Nat.min_le_right _ _) hol3) hn
          omega)
         cases hmf:(aC px f b0).2 with
         | false=>
          have HE2:Hid (ys=(out.take q).flatMap (jG list px) ++ jG (list.take (j+1)) px b0):=η (by rw [HF1.out,hmf,hys.out]; simp);have HC2:=η (hC.out.below bZ HBf.out);have HB3:=η (hB2.out.trans (HBf.out.mono hB2.out.size));clear hmf HF1 hC hB2 HBf;go_wp2;go_roundw
          case rel=>exact ⟨j+1,ys,An,cn,L,bn,hjt,by go_num,rfl,HE2,HC2,HB3⟩
          case measure=>simp [intOf]; omega
         | true=>
          have HE2:Hid (ys ++ [(aC px f b0).1]=(out.take q).flatMap (jG list px) ++ jG (list.take (j+1)) px b0):=η (by rw [HF1.out,hmf,hys.out]; simp);have HC2:=η (hC.out.below bZ HBf.out);have HB3:=η (hB2.out.trans (HBf.out.mono hB2.out.size));clear hmf HF1 hC hB2 HBf;generalize (aC px f b0).1=b1 at *;have hAt:Below wf.heap.size wf (wf.alloc (.cells #[.slice B3 b1.length q3,.slice B4 b1.length q4] 234)):=ζ
          have HLL:Hid (aZ 2 iY wo.heap.size 234 (wf.alloc (.cells #[.slice B3 b1.length q3,.slice B4 b1.length q4] 234)) (.slice An ys.length cn) L ys bn∧aQ 2 iY (wf.alloc (.cells #[.slice B3 b1.length q3,.slice B4 b1.length q4] 234)) [.slice B3 b1.length q3,.slice B4 b1.length q4] [b1] b6∧Lies (wf.alloc (.cells #[.slice B3 b1.length q3,.slice B4 b1.length q4] 234)) (some ⟨wf.heap.size,0,none⟩) [.slice B3 b1.length q3,.slice B4 b1.length q4]∧Below wo.heap.size wo (wf.alloc (.cells #[.slice B3 b1.length q3,.slice B4 b1.length q4] 234))∧wo.heap.size≤(wf.alloc (.cells #[.slice B3 b1.length q3,.slice B4 b1.length q4] 234)).heap.size):=
           η ⟨HC2.out.below bZ hAt,aQ.dh uS (bZ.below H6f.out hAt),aS (ω wf _),HB3.out.trans (hAt.mono HB3.out.size),τ HB3.out.size hAt.size⟩
          have H63:Hid (ys.length+1≤maxLen):=η (by have:=HXL2.out; unfold maxLen; omega);have HBY:Hid ((ys.length+1) * 48≤140737488355328):=η (by have:=HXL2.out; omega);clear hAt HC2 HB3 H6f
          go_wp2_with (at_builtin; refine bW rfl _ _ _ rfl wo.heap.size 234 i0 (.agg #[.slice none 0 0,.slice none 0 0]) 2 48 Tryz.underlying230 hi hz0 hz1 hz2 rfl (Θ 1) bZ (.slice An ys.length cn) ys.length L _ bn rfl HLL.out.1 rfl (some ⟨wf.heap.size,0,none⟩) 1 1 _ [b1] b6 rfl HLL.out.2.1 rfl HLL.out.2.2.1 HFO.out H63.out HBY.out wo wo.heap.size HLL.out.2.2.2.1 ν HLL.out.2.2.2.2 ?_; intro A4 c4 w4 hC4 hB4 hS4 hG4; have HZ:=η (ι hC4 hB4); clear hC4 hB4 hS4 hG4)
          go_roundw
          case rel=>exact ⟨j+1,ys ++ [b1],A4,c4,_,_,hjt,by go_num,by rw [χ]; rfl,HE2,by rw [χ]; exact η HZ.out.1,η HZ.out.2⟩
          case measure=>simp [intOf]; omega
       ·have he:j=list.length:=by omega
        have hj1:¬ (j:Int) < (list.length:Int):=by omega
        have HE2:Hid (ys=(out.take (q+1)).flatMap (jG list px)):=η (by rw [hys.out,HFS.out,he,ϕ ν]);clear he hj;go_wp2;go_roundw
        case rel=>exact ⟨q+1,ys,An,cn,L,bn,hqt,by go_num,rfl,HE2,hC,hB2⟩
        case measure=>simp [intOf]; omega
     ·have he:q=out.length:=by omega
      have hq1:¬ (q:Int) < (out.length:Int):=by omega
      have HE2:Hid (xs=vW list (body.take (k+1))):=η (by rw [hxs.out,he,ϕ ν,HE.out])
      have HXL:Hid (xs.length≤300 ^ (k+1)):=η (by
       rw [hxs.out,he,ϕ ν];refine τ (vX _) ?_;rw [Nat.pow_succ]
       exact Nat.mul_le_mul hol hn)
      have HXE:Hid (∀ b ∈ xs,b.length≤1000 * (k+1)):=η (fun b hb=>by
       rw [hxs.out,he,ϕ ν] at hb;obtain ⟨b1,h1,h2⟩:=List.mem_flatMap.1 hb;have:=hoe.out b1 h1;have:=Nh h2;have:=HAL.out
       omega)
      obtain ⟨bx,hX,_⟩:=hC.out.slice;have HX:=η hX;have HBX:=η (hBw.out.trans (hB1.out.mono hBw.out.size));clear he hC hxs hX;go_wp2;go_roundw
      case rel=>exact ⟨k+1,xs,An,cn,bx,hlt,by go_num,rfl,HE2,HXL.out,HXE,HX,HBX⟩
      case measure=>simp [intOf]; omega
  ·have he:k=body.length:=by omega
   have hk1:¬ (k:Int) < (body.length:Int):=by omega
   have hk4:k≤4:=by omega
   have hol4:out.length≤10000000000:=τ hol (τ (Nat.pow_le_pow_right (by omega) hk4) (by decide));have HE:Hid (out.filter (iI list body)=allB list body):=η (by unfold allB; rw [ho.out,he,ϕ ν]);have q5:=ED list body out _ _ _ bl bb bs wr (au.below HL.out hBw.out) (dw.below HB.out hBw.out) hO.out hasc hol4 (fun p hp=>τ (HBL.out p hp) (by omega));rw [HE.out] at q5;clear he ho
   go_wp2_with fail
   refine q5.mono ?_;rintro e w5 ⟨hb5,v5,b5,rfl,h5⟩;have B5:=hBw.out.trans (hb5.mono hBw.out.size);have H5:=η h5;clear q5 h5 hb5;go_wp2;go_ret;exact ⟨B5,_,_,rfl,H5.out⟩
theorem D.J9 (r:Ru):(!fF r.body r.head || qN r.body) = !dZ r.head r.body:=by
 rw [Bool.eq_iff_iff];have h1:=Fg r.head r.body;have y:=pK r.body r.head;rw [← y] at h1
 cases ht:dZ r.head r.body <;> cases ha:fF r.body r.head <;> cases hl:qN r.body <;> simp_all
theorem D.ND (rs:List Ru) (k:Nat) (h:k < rs.length) (h0:(rs.take k).all (fun r=>dZ r.head r.body)=true):((rs.take (k+1)).all fun r=>dZ r.head r.body)=dZ rs[k].head rs[k].body:=by
 rw [ρ h,List.all_append,h0]; simp
theorem D.Qe (rs:List Ru) (k:Nat) (h:k < rs.length) (h0:dZ rs[k].head rs[k].body=false):(rs.all fun r=>dZ r.head r.body)=false:=
 List.all_eq_false.2 ⟨_,δ h,by simp [h0]⟩
theorem EG (r:Ru) (c0 c1 c2:Value) (bs:List Nat) (w:World) (h:fG w [c0,c1,c2] r bs):
  Calls Tryz.prog 188 #[.agg #[c0,c1,c2]] w fun e w'=>e=.returned (.bool (!dZ r.head r.body))∧Below w.heap.size w w':=by
 obtain ⟨Ad,cap,Ae,I,rfl,rfl,rfl⟩:=nV h;have J:Below w.heap.size w (w.alloc (.cells #[.string r.head.name,.slice Ad r.head.args.length cap,.slice Ae r.body.length I] 40)):=ζ;obtain ⟨b1,b2,_,hh,hb⟩:=iO h;have c1:=fun w' (hw:Below w.heap.size w w')=>wQ r.body r.head _ _ _ b2 b1 w' (dw.below hb hw) (aj.below hh hw)
 have c2:=fun w' (hw:Below w.heap.size w w')=>EC r.body _ b2 w' (dw.below hb hw)
 rw [← J9 r];clear h hh hb;obtain ⟨⟨nm,args⟩,body⟩:=r;dsimp only at *;cases ha:fF body ⟨nm,args⟩
 ·rw [ha] at c1
  clear c2 ha
  go_enter Tryz.func188,Tryz.ntmps188
  go_wp2_with fail
  refine (c1 _ J).mono ?_;rintro e w2 ⟨rfl,y⟩;have U:=J.trans (y.mono J.size);go_wp2;go_ret;exact ⟨rfl,U⟩
 ·rw [ha] at c1
  clear ha;generalize qN body=l at *
  go_enter Tryz.func188,Tryz.ntmps188
  go_wp2_with fail
  refine (c1 _ J).mono ?_;rintro e w2 ⟨rfl,y⟩;have U:=J.trans (y.mono J.size);have x2:w2.cell? ⟨w.heap.size,2,none⟩=some (.slice Ae body.length I):=ξ y (by go_simp)
  go_wp2_with fail
  refine (c2 _ U).mono ?_;rintro e w3 ⟨rfl,a0⟩;go_wp2;go_ret;exact ⟨aJ (by simp),U.trans (a0.mono U.size)⟩
def WV (b:Bool) (w:World) (e:Ending) (w':World):Prop:=(∃ z:Int,e=.returned (.int .i64 z)∧decide (0≤z)=b)∧Below w.heap.size w w'
theorem Dv (rs:List Ru) (v:Value) (bs:List Nat) (w:World) (h:dS w [v] rs bs):
  Calls Tryz.prog 237 #[v,.func (.func 188) #[] #[]] w (WV (!rs.all fun r=>dZ r.head r.body) w):=by
 obtain ⟨Ad,cap,rfl,hl,hm⟩:=ak h;have a2:=aA (τ hl hm);clear hm
 go_enter Tryz.func237,Tryz.ntmps237
 go_wp2
 go_loopw [8] (fun i wr=>∃ k:Nat,k≤rs.length∧i=.int .i64 k∧(rs.take k).all (fun r=>dZ r.head r.body)=true∧Below w.heap.size w wr) (fun i _=>rs.length - (intOf i).toNat)
 case atStart=>exact ⟨0,ε,rfl,rfl,ϑ⟩
 case round=>
  obtain ⟨k,hk,rfl,I,hb⟩:=hrel;have HA:=η I;clear I;by_cases y:k < rs.length
  ·obtain ⟨b,o,Ae,ce,Af,cf,bk,rfl,_,d0,d1,d2,J,_⟩:=gy (bJ.below h hb) y
   have HS:=η (ND rs k y HA.out);have U:=η (Qe rs k y);have a3:(0:Int)≤(k:Int):=by omega
   have a4:(k:Int) < (rs.length:Int):=by omega
   have a0:=η y;have c1:=EG rs[k] _ _ _ bk wr J;clear h J;generalize rs[k]=r at *;clear y;obtain ⟨⟨nm,args⟩,body⟩:=r;dsimp only at *
   go_wp2_with fail
   refine c1.mono ?_;rintro e w' ⟨rfl,a1⟩;have B':=hb.trans (a1.mono hb.size);clear c1;cases hv:dZ ⟨nm,args⟩ body
   ·have HV:=η (U.out hv)
    clear hv;go_wp2;go_ret;exact ⟨⟨_,rfl,by rw [HV.out]; simp⟩,B'⟩
   ·have HV:=η (HS.out.trans hv)
    clear hv;go_wp2;go_roundw
    case rel=>exact ⟨k+1,a0.out,by go_num,HV.out,B'⟩
    case measure=>have:=a0.out; simp [intOf]; omega
  ·have he:=η (show k=rs.length by omega)
   go_wp2;go_ret;exact ⟨⟨_,rfl,by have:=HA.out; rw [he.out,ϕ ν] at this; rw [this]; rfl⟩,hb⟩
theorem wV (rs:List Ru) (v:Value) (bs:List Nat) (w:World) (h:dS w [v] rs bs):
  Calls Tryz.prog 187 #[v,.func (.func 188) #[] #[]] w fun e w'=>e=.returned (.bool (!rs.all fun r=>dZ r.head r.body))∧Below w.heap.size w w':=by
 have I:=Dv rs v bs w h;clear h
 go_enter Tryz.func187,Tryz.ntmps187
 go_wp2_with fail
 refine I.mono ?_;rintro e w' ⟨⟨z,rfl,y⟩,J⟩;have U:=η y;clear y;go_wp2;go_ret;exact ⟨aJ U.out,J⟩
end Go.Proofs.YtkjinanbccloeaaGreatDoor
