/- Of the proof of FnDelta: StrI. -/
import Derived.Deep.OwnRows
import Derived.Test.YtkjinanbccloeaaGreatDoorA15
import Derived.Test.YtkjinanbccloeaaGreatDoorA14
set_option linter.unusedVariables false
set_option maxHeartbeats 4000000
set_option maxRecDepth 100000
namespace Go.Proofs.YtkjinanbccloeaaGreatDoor
open Go.RowKit D
attribute [local go_sem ↓] Go.wp_at_zero Go.wp_at_succ
structure D.qf (w:World) (rs:List Ru) (n g:Nat) (out:List Nat) (wr:World):Prop where
 map:iI w.heap.size n (aK rs) (yB (aK rs)) wr
 blk:wr.heap[g]? = some (.cells (EG out) 3 (0,0))
 gt:w.heap.size < g
 bel:Below w.heap.size w wr
 lv:Oz rs out
theorem D.qf.later {w:World} {rs:List Ru} {n g:Nat} {out:List Nat} {wr w':World} (h:qf w rs n g out wr) (hb:Below wr.heap.size wr w'):qf w rs n g out w':=
 ⟨h.map.below hb h.map.lt,(hb.block _ (ψ h.blk)).trans h.blk,h.gt,h.bel.trans (hb.mono h.bel.size),h.lv⟩
theorem D.qf.set {w:World} {rs:List Ru} {n g:Nat} {out:List Nat} {wr:World} (h:qf w rs n g out wr) (i v:Nat) (y:Oz rs (out.set i v)):qf w rs n g (out.set i v) (wr.setCell ⟨g,i,none⟩ (.int .i64 (v:Nat))):=
 ⟨h.map.setCell (by have:=h.gt; dsimp only; omega) _,by rw [← Ik]; exact bW h.blk,h.gt,h.bel.setCell (by have:=h.gt; dsimp only; omega) _,y⟩
theorem D.qf.at {w:World} {rs:List Ru} {n g:Nat} {out:List Nat} {wr:World} (h:qf w rs n g out wr) {s:ByteArray} (y:s ∈ bK rs):wr.cell? ⟨g,(aK rs).idxOf s,none⟩=some (.int .i64 (nG rs out s:Nat)):=by
 rw [ai h.blk];exact DJ (by rw [h.lv.len]; exact wS y)
theorem D.qf.free {w:World} {rs:List Ru} {n g:Nat} {out:List Nat} {wr:World} (h:qf w rs n g out wr) (o:Nat):wr.frozen? ⟨g,o,none⟩=false:=ax h.blk
theorem D.qf.small {w:World} {rs:List Ru} {n g:Nat} {out:List Nat} {wr:World} (h:qf w rs n g out wr) {s:ByteArray} (y:s ∈ bK rs):nG rs out s < (aK rs).length:=by
 have:=h.lv.lo _ (by rw [h.lv.len]; exact wS y);rw [h.lv.len] at this;exact this
def D.Yr:Value→Nat
 | .bool true=>1
 | _=>0
theorem yH (rs:List Ru) (v:Value) (bs:List Nat) (w:World) (h:eu w [v] rs bs) (hf:rs.length≤8) (hok:rs.all fC=true):
  Calls Tryz.prog 133 #[v] w fun e w'=>Below w.heap.size w w'∧((mP rs=true∧∃ a,e=.returned (.tuple #[.slice none 0 0,.iface 255 (.pointer (some a))])) ∨
   (mP rs=false∧∃ v' bs',e=.returned (.tuple #[v',.nilIface])∧jM w' [v'] (ay rs) bs'∧New w.heap.size w' bs')):=by
 obtain ⟨Ad,cap,rfl,hl,hm⟩:=aj h;have cA:=aA (τ hl hm);have cB:(aK rs).length≤8:=τ (Di rs) hf;have bp:=fun w'=>run_make_row' (P:=Tryz.prog) 49 3 (.int .i64 0) 8 Tryz.underlying49 CB rfl .i64 .i64 (aK rs).length (by omega) (by omega) w'
 have ae:=fun w'=>run_make_row' (P:=Tryz.prog) 49 3 (.int .i64 0) 8 Tryz.underlying49 CB rfl .i64 .i64 rs.length (by omega) (by omega) w'
 simp only [DK] at bp ae;have bq:=η ae;clear ae;have c5:=η hok;have br:=DW rs _ bs w h (by omega);clear hl hm hok
 go_enter Tryz.func133,Tryz.ntmps133
 go_wp2_with fail
 refine br.mono ?_;rintro e w1 ⟨rfl,⟨n,hM⟩,hB⟩;clear br;have c6:w.heap.size < w1.heap.size:=hM.lt;have HM:=η hM
 have b6:Hid (qf w rs n w1.heap.size (List.replicate (aK rs).length 0) (w1.alloc (.cells (EG (List.replicate (aK rs).length 0)) 3))):=η
  ⟨hM.below (B:=w1.heap.size) (ζ) hM.lt,ω _ _,c6,hB.trans ((ζ).mono hB.size),Oz.zero rs⟩
 clear hM hB
 go_wp2_with (first | (at_len; refine iC _ rfl _ _ rfl Tryz.underlying116 _ _ _ _ rfl HM.out ?_) | go_in)
 clear HM;obtain ⟨g,hg⟩:∃ g,g=w1.heap.size:=⟨_,rfl⟩;rw [← hg] at b6 ⊢;clear hg;generalize w1.alloc (.cells (EG (List.replicate (aK rs).length 0)) 3)=w2 at *
 go_loopw [6] (fun mv wr=>∃ (m:Bool) (out:List Nat),mv=.bool m∧qf w rs n g out wr∧(m=false→wU rs out rs.length)) (fun mv wr=>2 * ((aK rs).length * (aK rs).length - DL wr g (aK rs).length)+Yr mv)
 case atStart=>exact ⟨true,_,rfl,b6.out,fun h=>by simp at h⟩
 case round=>
  obtain ⟨m,out,rfl,I,aw⟩:=hrel;clear b6;cases m
  ·have bt:=η (I.lv.done (aw rfl))
   have HI:=η I;clear aw I;have ae:=bq.out;have bu:Below wr.heap.size wr (wr.alloc (.cells (EG (List.replicate rs.length 0)) 3)):=ζ;have bv:=η (HI.out.later bu);have b7:Hid ((wr.alloc (.cells (EG (List.replicate rs.length 0)) 3)).heap[wr.heap.size]? = some (.cells (EG (List.replicate rs.length 0)) 3 (0,0))):=η (ω _ _);have c7:g < wr.heap.size:=ψ HI.out.blk;have bw:w.heap.size≤wr.heap.size:=HI.out.bel.size;clear bu;obtain ⟨g2,b8⟩:∃ g2,g2=wr.heap.size:=⟨_,rfl⟩;rw [← b8] at b7 c7 bw;go_wp2;rw [← b8];clear b8 HI ae bq bp;generalize wr.alloc (.cells (EG (List.replicate rs.length 0)) 3)=w5 at *
   go_loopw [87] (fun i wr=>∃ (k:Nat) (o2:List Nat),k≤rs.length∧i=.int .i64 k∧qf w rs n g out wr∧wr.heap[g2]? = some (.cells (EG o2) 3 (0,0))∧o2.length=rs.length∧∀ i,i < k→iV o2 i=iV (ay rs) i) (fun i _=>rs.length - (intOf i).toNat)
   case atStart=>exact ⟨0,_,ε,rfl,bv.out,b7.out,by simp,fun i h=>by omega⟩
   case round=>
    obtain ⟨k,o2,hk,rfl,I,af,ao,b1⟩:=hrel;clear bv b7;by_cases J:k < rs.length
    ·obtain ⟨b0,o0,Ae,ce,Af,cf,bk,rfl,_,d0,d1,d2,a7,_⟩:=iP h J
     replace d0:=ξ I.bel d0;replace d1:=ξ I.bel d1;replace d2:=ξ I.bel d2;have c9:(0:Int)≤(k:Int):=by omega
     have b9:(k:Int) < (rs.length:Int):=by omega
     have bx:dV rs k=rs[k]:=by unfold dV; rw [List.getD_eq_getElem?_getD,Ψ J]; rfl
     have bz:Hid (nG rs out rs[k].head.name=iV (ay rs) k):=η (by rw [← bx]; exact bt.out.2 k J);have hin:rs[k].head.name ∈ bK rs:=head_mem (δ J);have bc:Hid (rs[k].head.name.size≤maxLen):=η (by obtain ⟨_,_,_,_,_,hs,_⟩:=a7; exact hs);have a2:=I.at hin;have bA:=wS hin;have ca:=I.small hin;have az:Hid ((if rs[k].head.name ∈ aK rs then yB (aK rs) rs[k].head.name else 0)=(((aK rs).idxOf rs[k].head.name:Nat):Int)):=η (if_pos (jG.2 hin));have e2:wr.cell? ⟨g2,k,none⟩=some (.int .i64 (iV o2 k:Nat)):=by rw [ai af]; exact DJ (by omega)
     have f2:wr.frozen? ⟨g2,k,none⟩=false:=ax af;have hA:Below wr.heap.size wr (wr.alloc (.cells #[.string rs[k].head.name,.slice Ae rs[k].head.args.length ce,.slice Af rs[k].body.length cf] 40)):=ζ;have aq:=η J;have aD:=η (I.later hA);have a4:=η I;have cb:=η af;have bB:=η ao;have cc:=η b1;have bE:g < wr.heap.size:=ψ I.blk;have cd:g2 < wr.heap.size:=ψ af;clear a7 hA I af ao b1 hin bx;generalize rs[k]=r at *;clear J;obtain ⟨⟨nm,args⟩,body⟩:=r;dsimp only at *;obtain ⟨x,hx⟩:∃ x,x=(aK rs).idxOf nm:=⟨_,rfl⟩;rw [← hx] at az a2 bA;obtain ⟨b,hb⟩:∃ b,b=nG rs out nm:=⟨_,rfl⟩;rw [← hb] at a2 ca bz;have ci:(0:Int)≤(x:Int):=by omega
     have cj:(x:Int) < ((aK rs).length:Int):=by omega
     clear hx hb
     have ag:Hid (qf w rs n g out (wr.setCell ⟨g2,k,none⟩ (.int .i64 b))):=η
      ⟨a4.out.map.setCell (by dsimp only; have:=a4.out.gt; omega) _,(π _ _ _ _ (by dsimp only; omega)).trans a4.out.blk,a4.out.gt,a4.out.bel.setCell (by dsimp only; omega) _,a4.out.lv⟩
     have ck:Hid ((wr.setCell ⟨g2,k,none⟩ (.int .i64 b)).heap[g2]? = some (.cells (EG (o2.set k b)) 3 (0,0))):=η (by rw [← Ik]; exact bW cb.out);have cl:=η (ag.out.later (ϑ.alloc ν (.cells #[.string nm,.slice Ae args.length ce,.slice Af body.length cf] 40)));have cm:Hid (((wr.setCell ⟨g2,k,none⟩ (.int .i64 b)).alloc (.cells #[.string nm,.slice Ae args.length ce,.slice Af body.length cf] 40)).heap[g2]? = some (.cells (EG (o2.set k b)) 3 (0,0))):=η ((Below.heap_alloc _ _ _ (by simpa using cd)).trans ck.out)
     go_wp2_with (first | (at_lookup; refine tZ _ rfl _ _ _ rfl Tryz.underlying116 _ _ _ _ rfl aD.out.map nm rfl bc.out _ az.out ?_) | go_in)
     go_roundw
     case rel=>exact ⟨k+1,_,aq.out,by go_num,cl.out,cm.out,by rw [List.length_set]; exact bB.out,fun i hi=>by
      rw [pJ (by have:=bB.out; have:=aq.out; omega)]
      split
      ·rename_i e; subst e; exact bz.out
      ·exact cc.out i (by omega)⟩
     case measure=>have:=aq.out; simp [intOf]; omega
    ·have he:k=rs.length:=by omega
     have b9:¬ (k:Int) < (rs.length:Int):=by omega
     have e9:o2=ay rs:=by
      refine List.ext_getElem (by rw [ao,gG]) fun i h1 h2=>?_
      have:=b1 i (by omega);unfold iV at this;simpa [List.getD_eq_getElem?_getD,Ψ h1,Ψ h2] using this
     subst e9;obtain ⟨bs',h5,h6,h7⟩:=ug af (by rw [ao]; unfold maxLen; omega);have HZ:Hid (Below w.heap.size w wr∧∃ v' bs',v'=.slice (some ⟨g2,0,none⟩) rs.length rs.length∧jM wr [v'] (ay rs) bs'∧New w.heap.size wr bs'):=η ⟨I.bel,_,_,rfl,by rw [← ao]; exact h5,⟨h6,fun b hb=>by rw [h7 b hb]; exact ⟨bw,_,_,af⟩⟩⟩;clear I af ao b1 h5 h6 h7 he;go_wp2;go_ret2;obtain ⟨q1,v',b',rfl,q2,q3⟩:=HZ.out;exact ⟨q1,Or.inr ⟨bt.out.1,.slice (some ⟨g2,0,none⟩) rs.length rs.length,rfl,b',q2,q3⟩⟩
  ·clear aw
   obtain ⟨s0,bf⟩:∃ s0,s0=out.sum:=⟨_,rfl⟩;have cn:Hid (DL wr g (aK rs).length=s0):=η (by rw [bf,← I.lv.len]; exact Gh I.blk);have HI:=η I;have bL:=η bf;clear I bf;go_wp2
   go_loopw [6,26] (fun mv i wr=>∃ (m:Bool) (out:List Nat) (k:Nat),k≤rs.length∧mv=.bool m∧i=.int .i64 k∧qf w rs n g out wr∧(m=false→out.sum=s0∧wU rs out k)∧(m=true→s0 < out.sum)) (fun _ i _=>rs.length - (intOf i).toNat)
   case atStart=>exact ⟨false,out,0,ε,rfl,rfl,HI.out,fun _=>⟨bL.out.symm,wU.zero _ _⟩,fun h=>by simp at h⟩
   case round=>
    obtain ⟨m,out,k,hk,rfl,rfl,I,a8,a9⟩:=hrel;clear HI bL;by_cases J:k < rs.length
    ·obtain ⟨b0,o0,Ae,ce,Af,cf,bk,rfl,_,d0,d1,d2,a7,_⟩:=iP h J
     replace d0:=ξ I.bel d0;replace d1:=ξ I.bel d1;replace d2:=ξ I.bel d2;have c9:(0:Int)≤(k:Int):=by omega
     have b9:(k:Int) < (rs.length:Int):=by omega
     have hA:Below wr.heap.size wr (wr.alloc (.cells #[.string rs[k].head.name,.slice Ae rs[k].head.args.length ce,.slice Af rs[k].body.length cf] 40)):=ζ;obtain ⟨_,b2,_,co,bO⟩:=jm a7;have cp:=η bO;have aq:=η J;have cD:(rs[k].body.length:Int)≤4:=by have:=(lD (List.all_eq_true.1 c5.out _ (δ J))).1; omega
     have aE:=η (δ J);have cq:Hid (∀ out,wU rs out k→(∀ p ∈ rs[k].body,QM rs out rs[k] p)→wU rs out (k+1)):=η fun out=>wU.snoc J
     have bc:Hid (rs[k].head.name.size≤maxLen):=η (by obtain ⟨_,_,_,_,_,hs,_⟩:=a7; exact hs);have aD:=η (I.later hA);have C8:Hid ((wr.alloc (.cells #[.string rs[k].head.name,.slice Ae rs[k].head.args.length ce,.slice Af rs[k].body.length cf] 40)).cell? ⟨wr.heap.size,0,none⟩=some (.string rs[k].head.name)):=η (by go_simp);have bE:g < wr.heap.size:=ψ I.blk;have bh:=η a8;have bR:=η a9;clear a7 hA co bO I a8 a9;generalize rs[k]=r at *;clear J;obtain ⟨⟨nm,args⟩,body⟩:=r;dsimp only at *;have hin:nm ∈ bK rs:=head_mem aE.out;have az:Hid ((if nm ∈ aK rs then yB (aK rs) nm else 0)=(((aK rs).idxOf nm:Nat):Int)):=η (if_pos (jG.2 hin));obtain ⟨x,hx⟩:∃ x,x=(aK rs).idxOf nm:=⟨_,rfl⟩;have bA:x < (aK rs).length:=by rw [hx]; exact wS hin
     rw [← hx] at az;have HX:=η hx;have bX:=η hin;obtain ⟨rb,bi⟩:∃ rb,rb=wr.heap.size:=⟨_,rfl⟩;rw [← bi] at C8 bE;have c3:rb ≠ g:=by omega
     clear hx hin
     go_wp2_with (first | (at_lookup; refine tZ _ rfl _ _ _ rfl Tryz.underlying116 _ _ _ _ rfl aD.out.map nm rfl bc.out _ az.out ?_) | go_in)
     rw [← bi];generalize wr.alloc (.cells #[.string nm,.slice Ae args.length ce,.slice Af body.length cf] 40)=w3 at *;clear bi
     go_loopw [6,38] (fun mv i wr=>∃ (m:Bool) (out:List Nat) (j:Nat),j≤body.length∧mv=.bool m∧i=.int .i64 j∧qf w rs n g out wr∧(m=false→out.sum=s0∧wU rs out k∧EK rs out ⟨⟨nm,args⟩,body⟩ j)∧(m=true→s0 < out.sum)∧wr.cell? ⟨rb,0,none⟩=some (.string nm)) (fun _ i _=>body.length - (intOf i).toNat)
     case atStart=>exact ⟨m,out,0,ε,rfl,rfl,aD.out,fun e=>⟨(bh.out e).1,(bh.out e).2,EK.zero _ _ _⟩,bR.out,C8.out⟩
     case round=>
      clear aD bh bR C8;obtain ⟨m3,out,j,hj,rfl,rfl,I,a8,a9,c8⟩:=hrel;by_cases J:j < body.length
      ·obtain ⟨b4,o4,Ag,cg,bg,rfl,_,f0,f1,f2,a7,_⟩:=jd cp.out J
       replace f0:=ξ I.bel f0;replace f1:=ξ I.bel f1;replace f2:=ξ I.bel f2;have cE:(0:Int)≤(j:Int):=by omega
       have cr:(j:Int) < (body.length:Int):=by omega
       have a5:=η J;have hA:Below wr.heap.size wr (wr.alloc (.cells #[.bool body[j].no,.string body[j].atom.name,.slice Ag body[j].atom.args.length cg] 42)):=ζ;have ar:Hid (body[j].atom.name.size≤maxLen):=η (by obtain ⟨_,_,hs,_⟩:=a7; exact hs);have aa:EK rs out ⟨⟨nm,args⟩,body⟩ j→QM rs out ⟨⟨nm,args⟩,body⟩ body[j]→EK rs out ⟨⟨nm,args⟩,body⟩ (j+1):=EK.snoc (r:=⟨⟨nm,args⟩,body⟩) J;have ab:Hid (body[j].atom.name ∈ bK rs→∀ l,l=nG rs out body[j].atom.name+Cm body[j]→(aK rs).length≤l→mP rs=true):=η fun hh l hl hN=>I.lv.err aE.out (p:=body[j]) (δ J) hh hl hN
       have a6:Hid (body[j].atom.name ∈ bK rs→∀ l,l=nG rs out body[j].atom.name+Cm body[j]→nG rs out nm < l→l < (aK rs).length→Oz rs (out.set x l)∧out.sum < (out.set x l).sum):=η fun hh l hl h1 h2=>by
        rw [HX.out]; exact I.lv.step (r:=⟨⟨nm,args⟩,body⟩) aE.out (p:=body[j]) (δ J) hh hl h1 h2
       have U:=η (I.later hA);have a4:=η I;have C8:=η (ξ hA c8);have C9:=η c8;have a0:=η a8;have ac:=η a9;have cG:g < wr.heap.size:=ψ I.blk;have a2:wr.cell? ⟨g,x,none⟩=some (.int .i64 (nG rs out nm:Nat)):=by rw [HX.out]; exact I.at bX.out
       have cv:=I.small bX.out;have fz:=I.free x;clear a7 hA I a8 a9 c8;generalize body[j]=p at *;clear J;obtain ⟨no,⟨pn,a3⟩⟩:=p;dsimp only at *;obtain ⟨b,hb⟩:∃ b,b=nG rs out nm:=⟨_,rfl⟩;rw [← hb] at a2 cv;have b3:=η hb;clear hb;by_cases hL:pn ∈ aK rs
       ·have hin:pn ∈ bK rs:=jG.1 hL
        have HD:Hid (decide (pn ∈ aK rs)=true):=η (decide_eq_true hL);have HV:Hid ((if pn ∈ aK rs then yB (aK rs) pn else 0)=(((aK rs).idxOf pn:Nat):Int)):=η (if_pos hL);obtain ⟨y,hy⟩:∃ y,y=(aK rs).idxOf pn:=⟨_,rfl⟩;have cI:y < (aK rs).length:=by rw [hy]; exact wS hin
        rw [← hy] at HV;have a1:wr.cell? ⟨g,y,none⟩=some (.int .i64 (nG rs out pn:Nat)):=by rw [hy]; exact a4.out.at hin
        have cw:=a4.out.small hin;obtain ⟨a,ha⟩:∃ a,a=nG rs out pn:=⟨_,rfl⟩;rw [← ha] at a1 cw;have HA:=η ha;replace ab:=η (ab.out hin);replace a6:=η (a6.out hin);have ci:(0:Int)≤(x:Int):=by omega
        have cj:(x:Int) < ((aK rs).length:Int):=by omega
        have cJ:(0:Int)≤(y:Int):=by omega
        have cK:(y:Int) < ((aK rs).length:Int):=by omega
        clear ha hin hL hy;cases no
        ·have av:=η aa
         by_cases bj:a≤b
         ·have bl:Hid (nG rs out pn+Cm ⟨false,⟨pn,a3⟩⟩≤nG rs out nm):=η (by simp only [Cm]; rw [← HA.out,← b3.out]; simpa using bj)
          clear aa ab a6
          go_wp2_with (first | (at_lookup; refine dL _ rfl _ _ _ rfl Tryz.underlying116 _ _ _ _ rfl U.out.map pn rfl ar.out true HD.out _ HV.out ?_) | go_in)
          go_roundw
          case rel=>exact ⟨m3,out,j+1,a5.out,rfl,by go_num,U.out,fun e=>⟨(a0.out e).1,(a0.out e).2.1,av.out (a0.out e).2.2 fun _=>bl.out⟩,ac.out,C8.out⟩
          case measure=>have:=a5.out; simp [intOf]; omega
         ·have aL:b < a:=by omega
          have b5:True:=trivial
          ·have bn:a < (aK rs).length:=by omega
           obtain ⟨am,aM⟩:=a6.out (a) (by simp only [Cm]; rw [HA.out]; rfl) (by rw [← b3.out]; exact aL) bn;have cx:=η am
           have aR:Hid (s0 < (out.set x (a)).sum):=η (by
            rw [HX.out] at *;cases m3
            ·have:=(a0.out rfl).1; omega
            ·have:=ac.out rfl; omega)
           have ag:Hid (qf w rs n g (out.set x (a)) ((wr.setCell ⟨g,x,none⟩ (.int .i64 (a))).alloc (.cells #[.bool false,.string pn,.slice Ag a3.length cg] 42))):=η ((a4.out.set x (a) am).later (ζ));have bo:Hid (((wr.setCell ⟨g,x,none⟩ (.int .i64 (a))).alloc (.cells #[.bool false,.string pn,.slice Ag a3.length cg] 42)).cell? ⟨rb,0,none⟩=some (.string nm)):=η (ξ (ζ) (by rw [World.cell?_of_block (w:=wr) (π _ _ _ _ c3)]; exact C9.out));clear aa ab a6 av am aM
           go_wp2_with (first | (at_lookup; refine dL _ rfl _ _ _ rfl Tryz.underlying116 _ _ _ _ rfl U.out.map pn rfl ar.out true HD.out _ HV.out ?_) | (at_len; refine iC _ rfl _ _ rfl Tryz.underlying116 _ _ _ _ rfl U.out.map ?_) | go_in)
           go_roundw
           case rel=>exact ⟨true,_,j+1,a5.out,rfl,by go_num,ag.out,fun e=>by simp at e,fun _=>aR.out,bo.out⟩
           case measure=>have:=a5.out; simp [intOf]; omega
        ·have av:=η aa
         by_cases bj:a+1≤b
         ·have bl:Hid (nG rs out pn+Cm ⟨true,⟨pn,a3⟩⟩≤nG rs out nm):=η (by simp only [Cm]; rw [← HA.out,← b3.out]; simpa using bj)
          clear aa ab a6
          go_wp2_with (first | (at_lookup; refine dL _ rfl _ _ _ rfl Tryz.underlying116 _ _ _ _ rfl U.out.map pn rfl ar.out true HD.out _ HV.out ?_) | go_in)
          go_roundw
          case rel=>exact ⟨m3,out,j+1,a5.out,rfl,by go_num,U.out,fun e=>⟨(a0.out e).1,(a0.out e).2.1,av.out (a0.out e).2.2 fun _=>bl.out⟩,ac.out,C8.out⟩
          case measure=>have:=a5.out; simp [intOf]; omega
         ·have aL:b < a+1:=by omega
          by_cases b5:(aK rs).length≤a+1
          ·have c4:=η (ab.out _ (by simp only [Cm]; rw [HA.out]; rfl) b5)
           have c8:=C8.out;have BZ:=U.out.bel;clear aa ab a6 av
           go_wp2_with (first | (at_lookup; refine dL _ rfl _ _ _ rfl Tryz.underlying116 _ _ _ _ rfl U.out.map pn rfl ar.out true HD.out _ HV.out ?_) | (at_len; refine iC _ rfl _ _ rfl Tryz.underlying116 _ _ _ _ rfl U.out.map ?_) | go_in)
           go_region;go_wp2;go_ret2;exact ⟨((BZ.alloc (by have:=BZ.size; exact this) _)).drew,.inl ⟨c4.out,_,rfl⟩⟩
          ·have bn:a+1 < (aK rs).length:=by omega
           obtain ⟨am,aM⟩:=a6.out (a+1) (by simp only [Cm]; rw [HA.out]; rfl) (by rw [← b3.out]; exact aL) bn;have cx:=η am
           have aR:Hid (s0 < (out.set x (a+1)).sum):=η (by
            rw [HX.out] at *;cases m3
            ·have:=(a0.out rfl).1; omega
            ·have:=ac.out rfl; omega)
           have ag:Hid (qf w rs n g (out.set x (a+1)) ((wr.setCell ⟨g,x,none⟩ (.int .i64 (a+1))).alloc (.cells #[.bool true,.string pn,.slice Ag a3.length cg] 42))):=η ((a4.out.set x (a+1) am).later (ζ));have bo:Hid (((wr.setCell ⟨g,x,none⟩ (.int .i64 (a+1))).alloc (.cells #[.bool true,.string pn,.slice Ag a3.length cg] 42)).cell? ⟨rb,0,none⟩=some (.string nm)):=η (ξ (ζ) (by rw [World.cell?_of_block (w:=wr) (π _ _ _ _ c3)]; exact C9.out));clear aa ab a6 av am aM
           go_wp2_with (first | (at_lookup; refine dL _ rfl _ _ _ rfl Tryz.underlying116 _ _ _ _ rfl U.out.map pn rfl ar.out true HD.out _ HV.out ?_) | (at_len; refine iC _ rfl _ _ rfl Tryz.underlying116 _ _ _ _ rfl U.out.map ?_) | go_in)
           go_roundw
           case rel=>exact ⟨true,_,j+1,a5.out,rfl,by go_num,ag.out,fun e=>by simp at e,fun _=>aR.out,bo.out⟩
           case measure=>have:=a5.out; simp [intOf]; omega
       ·have HD:Hid (decide (pn ∈ aK rs)=false):=η (decide_eq_false hL)
        have HV:Hid ((if pn ∈ aK rs then yB (aK rs) pn else 0)=0):=η (if_neg hL);have cy:=η fun e=>aa e fun hh=>absurd (jG.2 hh) hL
        clear hL aa ab a6
        go_wp2_with (first | (at_lookup; refine dL _ rfl _ _ _ rfl Tryz.underlying116 _ _ _ _ rfl U.out.map pn rfl ar.out false HD.out _ HV.out ?_) | go_in)
        go_roundw
        case rel=>exact ⟨m3,out,j+1,a5.out,rfl,by go_num,U.out,fun e=>⟨(a0.out e).1,(a0.out e).2.1,cy.out (a0.out e).2.2⟩,ac.out,C8.out⟩
        case measure=>have:=a5.out; simp [intOf]; omega
      ·have he:j=body.length:=by omega
       have cr:¬ (j:Int) < (body.length:Int):=by omega
       have HZ:Hid (m3=false→out.sum=s0∧wU rs out (k+1)):=η fun e=>by
        obtain ⟨q1,q2,q3⟩:=a8 e;refine ⟨q1,cq.out out q2 fun p hp=>q3 p ?_⟩;rw [he,ϕ ν]; exact hp
       have U:=η I;have ac:=η a9;clear a8 a9 I he;go_wp2;go_roundw
       case rel=>exact ⟨m3,out,k+1,aq.out,rfl,by go_num,U.out,HZ.out,ac.out⟩
       case measure=>have:=aq.out; simp [intOf]; omega
    ·have he:k=rs.length:=by omega
     have b9:¬ (k:Int) < (rs.length:Int):=by omega
     have cz:qf w rs n g out wr:=I;have HQ:Hid (DL wr g (aK rs).length=out.sum∧out.sum≤(aK rs).length * (aK rs).length):=η ⟨by rw [← I.lv.len]; exact Gh I.blk,I.lv.Hr⟩;have U:=η I;have ac:=η a9;have a0:Hid (m=false→out.sum=s0∧wU rs out rs.length):=η (by rw [← he]; exact a8);clear a8 a9 I he cz;go_wp2;go_roundw
     case rel=>exact ⟨m,out,rfl,U.out,fun e=>(a0.out e).2⟩
     case measure=>
      have q1:=HQ.out;have q2:=cn.out;have q3:=ac.out;have q4:=a0.out;cases m
      ·have:=(q4 rfl).1
       simp [Yr]; omega
      ·have:=q3 rfl
       simp [Yr]; omega
end Go.Proofs.YtkjinanbccloeaaGreatDoor
