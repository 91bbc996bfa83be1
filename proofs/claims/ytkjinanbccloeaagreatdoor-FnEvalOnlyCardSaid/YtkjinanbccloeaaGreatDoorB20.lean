/- Of the proof of FnEvalOnly: StrI. -/
import Derived.Deep.OwnRows
import Derived.Test.YtkjinanbccloeaaGreatDoorB14
import Derived.Test.YtkjinanbccloeaaGreatDoorB13
set_option linter.unusedVariables false
set_option maxHeartbeats 4000000
set_option maxRecDepth 100000
namespace Go.Proofs.YtkjinanbccloeaaGreatDoor
open Go.RowKit D
attribute [local go_sem ↓] Go.wp_at_zero Go.wp_at_succ
structure D.oJ (w:World) (rs:List Ru) (n g:Nat) (out:List Nat) (wr:World):Prop where
 map:gI w.heap.size n (aK rs) (wO (aK rs)) wr
 blk:wr.heap[g]? = some (.cells (uM out) 3 (0,0))
 gt:w.heap.size < g
 bel:Below w.heap.size w wr
 lv:Nq rs out
theorem D.oJ.later {w:World} {rs:List Ru} {n g:Nat} {out:List Nat} {wr w':World} (h:oJ w rs n g out wr) (y:Below wr.heap.size wr w'):oJ w rs n g out w':=
 ⟨h.map.below y h.map.lt,(y.block _ (ψ h.blk)).trans h.blk,h.gt,h.bel.trans (y.mono h.bel.size),h.lv⟩
theorem D.oJ.set {w:World} {rs:List Ru} {n g:Nat} {out:List Nat} {wr:World} (h:oJ w rs n g out wr) (i v:Nat) (y:Nq rs (out.set i v)):oJ w rs n g (out.set i v) (wr.setCell ⟨g,i,none⟩ (.int .i64 (v:Nat))):=
 ⟨h.map.setCell (by have:=h.gt; dsimp only; omega) _,by rw [← zV]; exact bK h.blk,h.gt,h.bel.setCell (by have:=h.gt; dsimp only; omega) _,y⟩
theorem D.oJ.at {w:World} {rs:List Ru} {n g:Nat} {out:List Nat} {wr:World} (h:oJ w rs n g out wr) {s:ByteArray} (y:s ∈ bH rs):wr.cell? ⟨g,(aK rs).idxOf s,none⟩=some (.int .i64 (lT rs out s:Nat)):=by
 rw [ai h.blk];exact uN (by rw [h.lv.len]; exact uO y)
theorem D.oJ.free {w:World} {rs:List Ru} {n g:Nat} {out:List Nat} {wr:World} (h:oJ w rs n g out wr) (o:Nat):wr.frozen? ⟨g,o,none⟩=false:=ax h.blk
theorem D.oJ.small {w:World} {rs:List Ru} {n g:Nat} {out:List Nat} {wr:World} (h:oJ w rs n g out wr) {s:ByteArray} (y:s ∈ bH rs):lT rs out s < (aK rs).length:=by
 have:=h.lv.lo _ (by rw [h.lv.len]; exact uO y);rw [h.lv.len] at this;exact this
def D.XB:Value→Nat
 | .bool true=>1
 | _=>0
theorem wS (rs:List Ru) (v:Value) (bs:List Nat) (w:World) (h:dS w [v] rs bs) (hf:rs.length≤8) (hok:rs.all dN=true):
  Calls Tryz.prog 133 #[v] w fun e w'=>Below w.heap.size w w'∧((lg rs=true∧∃ a,e=.returned (.tuple #[.slice none 0 0,.iface 255 (.pointer (some a))])) ∨
   (lg rs=false∧∃ v' bs',e=.returned (.tuple #[v',.nilIface])∧gU w' [v'] (ay rs) bs'∧New w.heap.size w' bs')):=by
 obtain ⟨Ad,cap,rfl,hl,hm⟩:=ak h;have cy:=aA (τ hl hm);have cz:(aK rs).length≤8:=τ (Cb rs) hf;have bo:=fun w'=>run_make_row' (P:=Tryz.prog) 49 3 (.int .i64 0) 8 Tryz.underlying49 wL rfl .i64 .i64 (aK rs).length (by omega) (by omega) w'
 have ae:=fun w'=>run_make_row' (P:=Tryz.prog) 49 3 (.int .i64 0) 8 Tryz.underlying49 wL rfl .i64 .i64 rs.length (by omega) (by omega) w'
 simp only [wH] at bo ae;have bp:=η ae;clear ae;have c4:=η hok;have bq:=Di rs _ bs w h (by omega);clear hl hm hok
 go_enter Tryz.func133,Tryz.ntmps133
 go_wp2_with fail
 refine bq.mono ?_;rintro e w1 ⟨rfl,⟨n,hM⟩,hB⟩;clear bq;have c5:w.heap.size < w1.heap.size:=hM.lt;have HM:=η hM
 have b5:Hid (oJ w rs n w1.heap.size (List.replicate (aK rs).length 0) (w1.alloc (.cells (uM (List.replicate (aK rs).length 0)) 3))):=η
  ⟨hM.below (B:=w1.heap.size) (ζ) hM.lt,ω _ _,c5,hB.trans ((ζ).mono hB.size),Nq.zero rs⟩
 clear hM hB
 go_wp2_with (first | (at_len; refine gu _ rfl _ _ rfl Tryz.underlying116 _ _ _ _ rfl HM.out ?_) | go_in)
 clear HM;obtain ⟨g,hg⟩:∃ g,g=w1.heap.size:=⟨_,rfl⟩;rw [← hg] at b5 ⊢;clear hg;generalize w1.alloc (.cells (uM (List.replicate (aK rs).length 0)) 3)=w2 at *
 go_loopw [6] (fun mv wr=>∃ (m:Bool) (out:List Nat),mv=.bool m∧oJ w rs n g out wr∧(m=false→uP rs out rs.length)) (fun mv wr=>2 * ((aK rs).length * (aK rs).length - CY wr g (aK rs).length)+XB mv)
 case atStart=>exact ⟨true,_,rfl,b5.out,fun h=>by simp at h⟩
 case round=>
  obtain ⟨m,out,rfl,I,av⟩:=hrel;clear b5;cases m
  ·have br:=η (I.lv.done (av rfl))
   have HI:=η I;clear av I;have ae:=bp.out;have bt:Below wr.heap.size wr (wr.alloc (.cells (uM (List.replicate rs.length 0)) 3)):=ζ;have bu:=η (HI.out.later bt);have b6:Hid ((wr.alloc (.cells (uM (List.replicate rs.length 0)) 3)).heap[wr.heap.size]? = some (.cells (uM (List.replicate rs.length 0)) 3 (0,0))):=η (ω _ _);have c6:g < wr.heap.size:=ψ HI.out.blk;have bv:w.heap.size≤wr.heap.size:=HI.out.bel.size;clear bt;obtain ⟨g2,b7⟩:∃ g2,g2=wr.heap.size:=⟨_,rfl⟩;rw [← b7] at b6 c6 bv;go_wp2;rw [← b7];clear b7 HI ae bp bo;generalize wr.alloc (.cells (uM (List.replicate rs.length 0)) 3)=w5 at *
   go_loopw [87] (fun i wr=>∃ (k:Nat) (o2:List Nat),k≤rs.length∧i=.int .i64 k∧oJ w rs n g out wr∧wr.heap[g2]? = some (.cells (uM o2) 3 (0,0))∧o2.length=rs.length∧∀ i,i < k→fU o2 i=fU (ay rs) i) (fun i _=>rs.length - (intOf i).toNat)
   case atStart=>exact ⟨0,_,ε,rfl,bu.out,b6.out,by simp,fun i h=>by omega⟩
   case round=>
    obtain ⟨k,o2,hk,rfl,I,af,ao,aR⟩:=hrel;clear bu b6;by_cases J:k < rs.length
    ·obtain ⟨b0,o0,Ae,ce,Af,cf,bk,rfl,_,d0,d1,d2,a7,_⟩:=gy h J
     replace d0:=ξ I.bel d0;replace d1:=ξ I.bel d1;replace d2:=ξ I.bel d2;have c7:(0:Int)≤(k:Int):=by omega
     have b8:(k:Int) < (rs.length:Int):=by omega
     have bw:dH rs k=rs[k]:=by unfold dH; rw [List.getD_eq_getElem?_getD,Ψ J]; rfl
     have bx:Hid (lT rs out rs[k].head.name=fU (ay rs) k):=η (by rw [← bw]; exact br.out.2 k J);have hin:rs[k].head.name ∈ bH rs:=head_mem (δ J);have b9:Hid (rs[k].head.name.size≤maxLen):=η (by obtain ⟨_,_,_,_,_,hs,_⟩:=a7; exact hs);have a2:=I.at hin;have bz:=uO hin;have c9:=I.small hin;have aw:Hid ((if rs[k].head.name ∈ aK rs then wO (aK rs) rs[k].head.name else 0)=(((aK rs).idxOf rs[k].head.name:Nat):Int)):=η (if_pos (jf.2 hin));have e2:wr.cell? ⟨g2,k,none⟩=some (.int .i64 (fU o2 k:Nat)):=by rw [ai af]; exact uN (by omega)
     have f2:wr.frozen? ⟨g2,k,none⟩=false:=ax af;have hA:Below wr.heap.size wr (wr.alloc (.cells #[.string rs[k].head.name,.slice Ae rs[k].head.args.length ce,.slice Af rs[k].body.length cf] 40)):=ζ;have ap:=η J;have az:=η (I.later hA);have a4:=η I;have ca:=η af;have bA:=η ao;have cb:=η aR;have bB:g < wr.heap.size:=ψ I.blk;have cc:g2 < wr.heap.size:=ψ af;clear a7 hA I af ao aR hin bw;generalize rs[k]=r at *;clear J;obtain ⟨⟨nm,args⟩,body⟩:=r;dsimp only at *;obtain ⟨x,hx⟩:∃ x,x=(aK rs).idxOf nm:=⟨_,rfl⟩;rw [← hx] at aw a2 bz;obtain ⟨b,hb⟩:∃ b,b=lT rs out nm:=⟨_,rfl⟩;rw [← hb] at a2 c9 bx;have cd:(0:Int)≤(x:Int):=by omega
     have ci:(x:Int) < ((aK rs).length:Int):=by omega
     clear hx hb
     have ag:Hid (oJ w rs n g out (wr.setCell ⟨g2,k,none⟩ (.int .i64 b))):=η
      ⟨a4.out.map.setCell (by dsimp only; have:=a4.out.gt; omega) _,(π _ _ _ _ (by dsimp only; omega)).trans a4.out.blk,a4.out.gt,a4.out.bel.setCell (by dsimp only; omega) _,a4.out.lv⟩
     have cj:Hid ((wr.setCell ⟨g2,k,none⟩ (.int .i64 b)).heap[g2]? = some (.cells (uM (o2.set k b)) 3 (0,0))):=η (by rw [← zV]; exact bK ca.out);have ck:=η (ag.out.later (ϑ.alloc ν (.cells #[.string nm,.slice Ae args.length ce,.slice Af body.length cf] 40)));have cl:Hid (((wr.setCell ⟨g2,k,none⟩ (.int .i64 b)).alloc (.cells #[.string nm,.slice Ae args.length ce,.slice Af body.length cf] 40)).heap[g2]? = some (.cells (uM (o2.set k b)) 3 (0,0))):=η ((Below.heap_alloc _ _ _ (by simpa using cc)).trans cj.out)
     go_wp2_with (first | (at_lookup; refine qZ _ rfl _ _ _ rfl Tryz.underlying116 _ _ _ _ rfl az.out.map nm rfl b9.out _ aw.out ?_) | go_in)
     go_roundw
     case rel=>exact ⟨k+1,_,ap.out,by go_num,ck.out,cl.out,by rw [List.length_set]; exact bA.out,fun i hi=>by
      rw [nY (by have:=bA.out; have:=ap.out; omega)]
      split
      ·rename_i e; subst e; exact bx.out
      ·exact cb.out i (by omega)⟩
     case measure=>have:=ap.out; simp [intOf]; omega
    ·have he:k=rs.length:=by omega
     have b8:¬ (k:Int) < (rs.length:Int):=by omega
     have e9:o2=ay rs:=by
      refine List.ext_getElem (by rw [ao,fC]) fun i h1 h2=>?_
      have:=aR i (by omega);unfold fU at this;simpa [List.getD_eq_getElem?_getD,Ψ h1,Ψ h2] using this
     subst e9;obtain ⟨bs',h5,h6,h7⟩:=ru af (by rw [ao]; unfold maxLen; omega);have HZ:Hid (Below w.heap.size w wr∧∃ v' bs',v'=.slice (some ⟨g2,0,none⟩) rs.length rs.length∧gU wr [v'] (ay rs) bs'∧New w.heap.size wr bs'):=η ⟨I.bel,_,_,rfl,by rw [← ao]; exact h5,⟨h6,fun b hb=>by rw [h7 b hb]; exact ⟨bv,_,_,af⟩⟩⟩;clear I af ao aR h5 h6 h7 he;go_wp2;go_ret2;obtain ⟨q1,v',b',rfl,q2,q3⟩:=HZ.out;exact ⟨q1,Or.inr ⟨br.out.1,.slice (some ⟨g2,0,none⟩) rs.length rs.length,rfl,b',q2,q3⟩⟩
  ·clear av
   obtain ⟨s0,bc⟩:∃ s0,s0=out.sum:=⟨_,rfl⟩;have cm:Hid (CY wr g (aK rs).length=s0):=η (by rw [bc,← I.lv.len]; exact FO I.blk);have HI:=η I;have bE:=η bc;clear I bc;go_wp2
   go_loopw [6,26] (fun mv i wr=>∃ (m:Bool) (out:List Nat) (k:Nat),k≤rs.length∧mv=.bool m∧i=.int .i64 k∧oJ w rs n g out wr∧(m=false→out.sum=s0∧uP rs out k)∧(m=true→s0 < out.sum)) (fun _ i _=>rs.length - (intOf i).toNat)
   case atStart=>exact ⟨false,out,0,ε,rfl,rfl,HI.out,fun _=>⟨bE.out.symm,uP.zero _ _⟩,fun h=>by simp at h⟩
   case round=>
    obtain ⟨m,out,k,hk,rfl,rfl,I,a8,a9⟩:=hrel;clear HI bE;by_cases J:k < rs.length
    ·obtain ⟨b0,o0,Ae,ce,Af,cf,bk,rfl,_,d0,d1,d2,a7,_⟩:=gy h J
     replace d0:=ξ I.bel d0;replace d1:=ξ I.bel d1;replace d2:=ξ I.bel d2;have c7:(0:Int)≤(k:Int):=by omega
     have b8:(k:Int) < (rs.length:Int):=by omega
     have hA:Below wr.heap.size wr (wr.alloc (.cells #[.string rs[k].head.name,.slice Ae rs[k].head.args.length ce,.slice Af rs[k].body.length cf] 40)):=ζ;obtain ⟨_,b2,_,cn,bL⟩:=iO a7;have co:=η bL;have ap:=η J;have cA:(rs[k].body.length:Int)≤4:=by have:=(kF (List.all_eq_true.1 c4.out _ (δ J))).1; omega
     have aD:=η (δ J);have cp:Hid (∀ out,uP rs out k→(∀ p ∈ rs[k].body,PL rs out rs[k] p)→uP rs out (k+1)):=η fun out=>uP.snoc J
     have b9:Hid (rs[k].head.name.size≤maxLen):=η (by obtain ⟨_,_,_,_,_,hs,_⟩:=a7; exact hs);have az:=η (I.later hA);have C8:Hid ((wr.alloc (.cells #[.string rs[k].head.name,.slice Ae rs[k].head.args.length ce,.slice Af rs[k].body.length cf] 40)).cell? ⟨wr.heap.size,0,none⟩=some (.string rs[k].head.name)):=η (by go_simp);have bB:g < wr.heap.size:=ψ I.blk;have bf:=η a8;have bO:=η a9;clear a7 hA cn bL I a8 a9;generalize rs[k]=r at *;clear J;obtain ⟨⟨nm,args⟩,body⟩:=r;dsimp only at *;have hin:nm ∈ bH rs:=head_mem aD.out;have aw:Hid ((if nm ∈ aK rs then wO (aK rs) nm else 0)=(((aK rs).idxOf nm:Nat):Int)):=η (if_pos (jf.2 hin));obtain ⟨x,hx⟩:∃ x,x=(aK rs).idxOf nm:=⟨_,rfl⟩;have bz:x < (aK rs).length:=by rw [hx]; exact uO hin
     rw [← hx] at aw;have HX:=η hx;have bR:=η hin;obtain ⟨rb,bh⟩:∃ rb,rb=wr.heap.size:=⟨_,rfl⟩;rw [← bh] at C8 bB;have bX:rb ≠ g:=by omega
     clear hx hin
     go_wp2_with (first | (at_lookup; refine qZ _ rfl _ _ _ rfl Tryz.underlying116 _ _ _ _ rfl az.out.map nm rfl b9.out _ aw.out ?_) | go_in)
     rw [← bh];generalize wr.alloc (.cells #[.string nm,.slice Ae args.length ce,.slice Af body.length cf] 40)=w3 at *;clear bh
     go_loopw [6,38] (fun mv i wr=>∃ (m:Bool) (out:List Nat) (j:Nat),j≤body.length∧mv=.bool m∧i=.int .i64 j∧oJ w rs n g out wr∧(m=false→out.sum=s0∧uP rs out k∧Ew rs out ⟨⟨nm,args⟩,body⟩ j)∧(m=true→s0 < out.sum)∧wr.cell? ⟨rb,0,none⟩=some (.string nm)) (fun _ i _=>body.length - (intOf i).toNat)
     case atStart=>exact ⟨m,out,0,ε,rfl,rfl,az.out,fun e=>⟨(bf.out e).1,(bf.out e).2,Ew.zero _ _ _⟩,bO.out,C8.out⟩
     case round=>
      clear az bf bO C8;obtain ⟨m3,out,j,hj,rfl,rfl,I,a8,a9,c8⟩:=hrel;by_cases J:j < body.length
      ·obtain ⟨b4,o4,Ag,cg,bg,rfl,_,f0,f1,f2,a7,_⟩:=iH co.out J
       replace f0:=ξ I.bel f0;replace f1:=ξ I.bel f1;replace f2:=ξ I.bel f2;have cB:(0:Int)≤(j:Int):=by omega
       have cq:(j:Int) < (body.length:Int):=by omega
       have a5:=η J;have hA:Below wr.heap.size wr (wr.alloc (.cells #[.bool body[j].no,.string body[j].atom.name,.slice Ag body[j].atom.args.length cg] 42)):=ζ;have aq:Hid (body[j].atom.name.size≤maxLen):=η (by obtain ⟨_,_,hs,_⟩:=a7; exact hs);have aa:Ew rs out ⟨⟨nm,args⟩,body⟩ j→PL rs out ⟨⟨nm,args⟩,body⟩ body[j]→Ew rs out ⟨⟨nm,args⟩,body⟩ (j+1):=Ew.snoc (r:=⟨⟨nm,args⟩,body⟩) J;have ab:Hid (body[j].atom.name ∈ bH rs→∀ l,l=lT rs out body[j].atom.name+zU body[j]→(aK rs).length≤l→lg rs=true):=η fun hh l hl hN=>I.lv.err aD.out (p:=body[j]) (δ J) hh hl hN
       have a6:Hid (body[j].atom.name ∈ bH rs→∀ l,l=lT rs out body[j].atom.name+zU body[j]→lT rs out nm < l→l < (aK rs).length→Nq rs (out.set x l)∧out.sum < (out.set x l).sum):=η fun hh l hl h1 h2=>by
        rw [HX.out]; exact I.lv.step (r:=⟨⟨nm,args⟩,body⟩) aD.out (p:=body[j]) (δ J) hh hl h1 h2
       have U:=η (I.later hA);have a4:=η I;have C8:=η (ξ hA c8);have C9:=η c8;have a0:=η a8;have ac:=η a9;have cD:g < wr.heap.size:=ψ I.blk;have a2:wr.cell? ⟨g,x,none⟩=some (.int .i64 (lT rs out nm:Nat)):=by rw [HX.out]; exact I.at bR.out
       have cr:=I.small bR.out;have fz:=I.free x;clear a7 hA I a8 a9 c8;generalize body[j]=p at *;clear J;obtain ⟨no,⟨pn,a3⟩⟩:=p;dsimp only at *;obtain ⟨b,hb⟩:∃ b,b=lT rs out nm:=⟨_,rfl⟩;rw [← hb] at a2 cr;have b1:=η hb;clear hb;by_cases hL:pn ∈ aK rs
       ·have hin:pn ∈ bH rs:=jf.1 hL
        have HD:Hid (decide (pn ∈ aK rs)=true):=η (decide_eq_true hL);have HV:Hid ((if pn ∈ aK rs then wO (aK rs) pn else 0)=(((aK rs).idxOf pn:Nat):Int)):=η (if_pos hL);obtain ⟨y,hy⟩:∃ y,y=(aK rs).idxOf pn:=⟨_,rfl⟩;have cE:y < (aK rs).length:=by rw [hy]; exact uO hin
        rw [← hy] at HV;have a1:wr.cell? ⟨g,y,none⟩=some (.int .i64 (lT rs out pn:Nat)):=by rw [hy]; exact a4.out.at hin
        have cu:=a4.out.small hin;obtain ⟨a,ha⟩:∃ a,a=lT rs out pn:=⟨_,rfl⟩;rw [← ha] at a1 cu;have HA:=η ha;replace ab:=η (ab.out hin);replace a6:=η (a6.out hin);have cd:(0:Int)≤(x:Int):=by omega
        have ci:(x:Int) < ((aK rs).length:Int):=by omega
        have cG:(0:Int)≤(y:Int):=by omega
        have cI:(y:Int) < ((aK rs).length:Int):=by omega
        clear ha hin hL hy;cases no
        ·have ar:=η aa
         by_cases bi:a≤b
         ·have bj:Hid (lT rs out pn+zU ⟨false,⟨pn,a3⟩⟩≤lT rs out nm):=η (by simp only [zU]; rw [← HA.out,← b1.out]; simpa using bi)
          clear aa ab a6
          go_wp2_with (first | (at_lookup; refine dB _ rfl _ _ _ rfl Tryz.underlying116 _ _ _ _ rfl U.out.map pn rfl aq.out true HD.out _ HV.out ?_) | go_in)
          go_roundw
          case rel=>exact ⟨m3,out,j+1,a5.out,rfl,by go_num,U.out,fun e=>⟨(a0.out e).1,(a0.out e).2.1,ar.out (a0.out e).2.2 fun _=>bj.out⟩,ac.out,C8.out⟩
          case measure=>have:=a5.out; simp [intOf]; omega
         ·have aE:b < a:=by omega
          have b3:True:=trivial
          ·have bl:a < (aK rs).length:=by omega
           obtain ⟨am,aL⟩:=a6.out (a) (by simp only [zU]; rw [HA.out]; rfl) (by rw [← b1.out]; exact aE) bl;have cv:=η am
           have aM:Hid (s0 < (out.set x (a)).sum):=η (by
            rw [HX.out] at *;cases m3
            ·have:=(a0.out rfl).1; omega
            ·have:=ac.out rfl; omega)
           have ag:Hid (oJ w rs n g (out.set x (a)) ((wr.setCell ⟨g,x,none⟩ (.int .i64 (a))).alloc (.cells #[.bool false,.string pn,.slice Ag a3.length cg] 42))):=η ((a4.out.set x (a) am).later (ζ));have bn:Hid (((wr.setCell ⟨g,x,none⟩ (.int .i64 (a))).alloc (.cells #[.bool false,.string pn,.slice Ag a3.length cg] 42)).cell? ⟨rb,0,none⟩=some (.string nm)):=η (ξ (ζ) (by rw [World.cell?_of_block (w:=wr) (π _ _ _ _ bX)]; exact C9.out));clear aa ab a6 ar am aL
           go_wp2_with (first | (at_lookup; refine dB _ rfl _ _ _ rfl Tryz.underlying116 _ _ _ _ rfl U.out.map pn rfl aq.out true HD.out _ HV.out ?_) | (at_len; refine gu _ rfl _ _ rfl Tryz.underlying116 _ _ _ _ rfl U.out.map ?_) | go_in)
           go_roundw
           case rel=>exact ⟨true,_,j+1,a5.out,rfl,by go_num,ag.out,fun e=>by simp at e,fun _=>aM.out,bn.out⟩
           case measure=>have:=a5.out; simp [intOf]; omega
        ·have ar:=η aa
         by_cases bi:a+1≤b
         ·have bj:Hid (lT rs out pn+zU ⟨true,⟨pn,a3⟩⟩≤lT rs out nm):=η (by simp only [zU]; rw [← HA.out,← b1.out]; simpa using bi)
          clear aa ab a6
          go_wp2_with (first | (at_lookup; refine dB _ rfl _ _ _ rfl Tryz.underlying116 _ _ _ _ rfl U.out.map pn rfl aq.out true HD.out _ HV.out ?_) | go_in)
          go_roundw
          case rel=>exact ⟨m3,out,j+1,a5.out,rfl,by go_num,U.out,fun e=>⟨(a0.out e).1,(a0.out e).2.1,ar.out (a0.out e).2.2 fun _=>bj.out⟩,ac.out,C8.out⟩
          case measure=>have:=a5.out; simp [intOf]; omega
         ·have aE:b < a+1:=by omega
          by_cases b3:(aK rs).length≤a+1
          ·have c3:=η (ab.out _ (by simp only [zU]; rw [HA.out]; rfl) b3)
           have c8:=C8.out;have BZ:=U.out.bel;clear aa ab a6 ar
           go_wp2_with (first | (at_lookup; refine dB _ rfl _ _ _ rfl Tryz.underlying116 _ _ _ _ rfl U.out.map pn rfl aq.out true HD.out _ HV.out ?_) | (at_len; refine gu _ rfl _ _ rfl Tryz.underlying116 _ _ _ _ rfl U.out.map ?_) | go_in)
           go_region;go_wp2;go_ret2;exact ⟨((BZ.alloc (by have:=BZ.size; exact this) _)).drew,.inl ⟨c3.out,_,rfl⟩⟩
          ·have bl:a+1 < (aK rs).length:=by omega
           obtain ⟨am,aL⟩:=a6.out (a+1) (by simp only [zU]; rw [HA.out]; rfl) (by rw [← b1.out]; exact aE) bl;have cv:=η am
           have aM:Hid (s0 < (out.set x (a+1)).sum):=η (by
            rw [HX.out] at *;cases m3
            ·have:=(a0.out rfl).1; omega
            ·have:=ac.out rfl; omega)
           have ag:Hid (oJ w rs n g (out.set x (a+1)) ((wr.setCell ⟨g,x,none⟩ (.int .i64 (a+1))).alloc (.cells #[.bool true,.string pn,.slice Ag a3.length cg] 42))):=η ((a4.out.set x (a+1) am).later (ζ));have bn:Hid (((wr.setCell ⟨g,x,none⟩ (.int .i64 (a+1))).alloc (.cells #[.bool true,.string pn,.slice Ag a3.length cg] 42)).cell? ⟨rb,0,none⟩=some (.string nm)):=η (ξ (ζ) (by rw [World.cell?_of_block (w:=wr) (π _ _ _ _ bX)]; exact C9.out));clear aa ab a6 ar am aL
           go_wp2_with (first | (at_lookup; refine dB _ rfl _ _ _ rfl Tryz.underlying116 _ _ _ _ rfl U.out.map pn rfl aq.out true HD.out _ HV.out ?_) | (at_len; refine gu _ rfl _ _ rfl Tryz.underlying116 _ _ _ _ rfl U.out.map ?_) | go_in)
           go_roundw
           case rel=>exact ⟨true,_,j+1,a5.out,rfl,by go_num,ag.out,fun e=>by simp at e,fun _=>aM.out,bn.out⟩
           case measure=>have:=a5.out; simp [intOf]; omega
       ·have HD:Hid (decide (pn ∈ aK rs)=false):=η (decide_eq_false hL)
        have HV:Hid ((if pn ∈ aK rs then wO (aK rs) pn else 0)=0):=η (if_neg hL);have cw:=η fun e=>aa e fun hh=>absurd (jf.2 hh) hL
        clear hL aa ab a6
        go_wp2_with (first | (at_lookup; refine dB _ rfl _ _ _ rfl Tryz.underlying116 _ _ _ _ rfl U.out.map pn rfl aq.out false HD.out _ HV.out ?_) | go_in)
        go_roundw
        case rel=>exact ⟨m3,out,j+1,a5.out,rfl,by go_num,U.out,fun e=>⟨(a0.out e).1,(a0.out e).2.1,cw.out (a0.out e).2.2⟩,ac.out,C8.out⟩
        case measure=>have:=a5.out; simp [intOf]; omega
      ·have he:j=body.length:=by omega
       have cq:¬ (j:Int) < (body.length:Int):=by omega
       have HZ:Hid (m3=false→out.sum=s0∧uP rs out (k+1)):=η fun e=>by
        obtain ⟨q1,q2,q3⟩:=a8 e;refine ⟨q1,cp.out out q2 fun p hp=>q3 p ?_⟩;rw [he,ϕ ν]; exact hp
       have U:=η I;have ac:=η a9;clear a8 a9 I he;go_wp2;go_roundw
       case rel=>exact ⟨m3,out,k+1,ap.out,rfl,by go_num,U.out,HZ.out,ac.out⟩
       case measure=>have:=ap.out; simp [intOf]; omega
    ·have he:k=rs.length:=by omega
     have b8:¬ (k:Int) < (rs.length:Int):=by omega
     have cx:oJ w rs n g out wr:=I;have HQ:Hid (CY wr g (aK rs).length=out.sum∧out.sum≤(aK rs).length * (aK rs).length):=η ⟨by rw [← I.lv.len]; exact FO I.blk,I.lv.GU⟩;have U:=η I;have ac:=η a9;have a0:Hid (m=false→out.sum=s0∧uP rs out rs.length):=η (by rw [← he]; exact a8);clear a8 a9 I he cx;go_wp2;go_roundw
     case rel=>exact ⟨m,out,rfl,U.out,fun e=>(a0.out e).2⟩
     case measure=>
      have q1:=HQ.out;have q2:=cm.out;have q3:=ac.out;have q4:=a0.out;cases m
      ·have:=(q4 rfl).1
       simp [XB]; omega
      ·have:=q3 rfl
       simp [XB]; omega
end Go.Proofs.YtkjinanbccloeaaGreatDoor
