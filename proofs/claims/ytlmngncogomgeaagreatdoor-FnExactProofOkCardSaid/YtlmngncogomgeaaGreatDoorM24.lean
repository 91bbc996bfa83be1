/- Of the proof of FnExactProofOk: StrI, Fact. -/
import Derived.Deep.OwnRows
import Derived.Test.YtlmngncogomgeaaGreatDoorM18
import Derived.Test.YtlmngncogomgeaaGreatDoorM15
set_option linter.unusedVariables false
set_option maxHeartbeats 4000000
set_option maxRecDepth 100000
namespace Go.Proofs.YtlmngncogomgeaaGreatDoor
open Go.RowKit D
attribute [local go_sem ↓] Go.wp_at_zero Go.wp_at_succ
structure D.oD (w:World) (rs:List Ru) (n g:Nat) (out:List Nat) (wr:World):Prop where
 map:gQ w.heap.size n (aJ rs) (xw (aJ rs)) wr
 blk:wr.heap[g]? = some (.cells (Dy out) 3 (0,0))
 gt:w.heap.size < g
 bel:Below w.heap.size w wr
 lv:LV rs out
theorem D.oD.later {w:World} {rs:List Ru} {n g:Nat} {out:List Nat} {wr w':World} (h:oD w rs n g out wr) (y:Below wr.heap.size wr w'):oD w rs n g out w':=
 ⟨h.map.below y h.map.lt,(y.block _ (ψ h.blk)).trans h.blk,h.gt,h.bel.trans (y.mono h.bel.size),h.lv⟩
theorem D.oD.set {w:World} {rs:List Ru} {n g:Nat} {out:List Nat} {wr:World} (h:oD w rs n g out wr) (i v:Nat) (y:LV rs (out.set i v)):oD w rs n g (out.set i v) (wr.setCell ⟨g,i,none⟩ (.int .i64 (v:Nat))):=
 ⟨h.map.setCell (by have:=h.gt; dsimp only; omega) _,by rw [← F7]; exact bY h.blk,h.gt,h.bel.setCell (by have:=h.gt; dsimp only; omega) _,y⟩
theorem D.oD.at {w:World} {rs:List Ru} {n g:Nat} {out:List Nat} {wr:World} (h:oD w rs n g out wr) {s:ByteArray} (y:s ∈ bI rs):wr.cell? ⟨g,(aJ rs).idxOf s,none⟩=some (.int .i64 (lC rs out s:Nat)):=by
 rw [aj h.blk];exact Cc (by rw [h.lv.len]; exact vH y)
theorem D.oD.free {w:World} {rs:List Ru} {n g:Nat} {out:List Nat} {wr:World} (h:oD w rs n g out wr) (o:Nat):wr.frozen? ⟨g,o,none⟩=false:=aB h.blk
theorem D.oD.small {w:World} {rs:List Ru} {n g:Nat} {out:List Nat} {wr:World} (h:oD w rs n g out wr) {s:ByteArray} (y:s ∈ bI rs):lC rs out s < (aJ rs).length:=by
 have:=h.lv.lo _ (by rw [h.lv.len]; exact vH y);rw [h.lv.len] at this;exact this
def D.V5:Value→Nat
 | .bool true=>1
 | _=>0
theorem xH (rs:List Ru) (v:Value) (bs:List Nat) (w:World) (h:dD w [v] rs bs) (hf:rs.length≤8) (hok:rs.all dS=true):
  Calls Tryz.prog 108 #[v] w fun e w'=>Below w.heap.size w w'∧((kW rs=true∧∃ a,e=.returned (.tuple #[.slice none 0 0,.iface 246 (.pointer (some a))])) ∨
   (kW rs=false∧∃ v' bs',e=.returned (.tuple #[v',.nilIface])∧jf w' [v'] (aF rs) bs'∧New w.heap.size w' bs')):=by
 obtain ⟨Ad,cap,rfl,hl,hm⟩:=ai h;have cy:=ay (τ hl hm);have cz:(aJ rs).length≤8:=τ (Bq rs) hf;have bo:=fun w'=>run_make_row' (P:=Tryz.prog) 64 3 (.int .i64 0) 8 Tryz.underlying64 AB rfl .i64 .i64 (aJ rs).length (by omega) (by omega) w'
 have ae:=fun w'=>run_make_row' (P:=Tryz.prog) 64 3 (.int .i64 0) 8 Tryz.underlying64 AB rfl .i64 .i64 rs.length (by omega) (by omega) w'
 simp only [Ce] at bo ae;have bp:=η ae;clear ae;have c3:=η hok;have bq:=CQ rs _ bs w h (by omega);clear hl hm hok
 go_enter Tryz.func108,Tryz.ntmps108
 go_wp2_with fail
 refine bq.mono ?_;rintro e w1 ⟨rfl,⟨n,hM⟩,hB⟩;clear bq;have c4:w.heap.size < w1.heap.size:=hM.lt;have HM:=η hM
 have b5:Hid (oD w rs n w1.heap.size (List.replicate (aJ rs).length 0) (w1.alloc (.cells (Dy (List.replicate (aJ rs).length 0)) 3))):=η
  ⟨hM.below (B:=w1.heap.size) (ζ) hM.lt,ω _ _,c4,hB.trans ((ζ).mono hB.size),LV.zero rs⟩
 clear hM hB
 go_wp2_with (first | (at_len; refine gy _ rfl _ _ rfl Tryz.underlying112 _ _ _ _ rfl HM.out ?_) | go_in)
 clear HM;obtain ⟨g,hg⟩:∃ g,g=w1.heap.size:=⟨_,rfl⟩;rw [← hg] at b5 ⊢;clear hg;generalize w1.alloc (.cells (Dy (List.replicate (aJ rs).length 0)) 3)=w2 at *
 go_loopw [6] (fun mv wr=>∃ (m:Bool) (out:List Nat),mv=.bool m∧oD w rs n g out wr∧(m=false→vI rs out rs.length)) (fun mv wr=>2 * ((aJ rs).length * (aJ rs).length - Ci wr g (aJ rs).length)+V5 mv)
 case atStart=>exact ⟨true,_,rfl,b5.out,fun h=>by simp at h⟩
 case round=>
  obtain ⟨m,out,rfl,I,av⟩:=hrel;clear b5;cases m
  ·have br:=η (I.lv.done (av rfl))
   have HI:=η I;clear av I;have ae:=bp.out;have bt:Below wr.heap.size wr (wr.alloc (.cells (Dy (List.replicate rs.length 0)) 3)):=ζ;have bu:=η (HI.out.later bt);have b6:Hid ((wr.alloc (.cells (Dy (List.replicate rs.length 0)) 3)).heap[wr.heap.size]? = some (.cells (Dy (List.replicate rs.length 0)) 3 (0,0))):=η (ω _ _);have c5:g < wr.heap.size:=ψ HI.out.blk;have bv:w.heap.size≤wr.heap.size:=HI.out.bel.size;clear bt;obtain ⟨g2,b7⟩:∃ g2,g2=wr.heap.size:=⟨_,rfl⟩;rw [← b7] at b6 c5 bv;go_wp2;rw [← b7];clear b7 HI ae bp bo;generalize wr.alloc (.cells (Dy (List.replicate rs.length 0)) 3)=w5 at *
   go_loopw [87] (fun i wr=>∃ (k:Nat) (o2:List Nat),k≤rs.length∧i=.int .i64 k∧oD w rs n g out wr∧wr.heap[g2]? = some (.cells (Dy o2) 3 (0,0))∧o2.length=rs.length∧∀ i,i < k→iw o2 i=iw (aF rs) i) (fun i _=>rs.length - (intOf i).toNat)
   case atStart=>exact ⟨0,_,ε,rfl,bu.out,b6.out,by simp,fun i h=>by omega⟩
   case round=>
    obtain ⟨k,o2,hk,rfl,I,af,ao,aR⟩:=hrel;clear bu b6;by_cases J:k < rs.length
    ·obtain ⟨b0,o0,Ae,ce,Af,cf,bk,rfl,_,d0,d1,d2,a7,_⟩:=eF h J
     replace d0:=ξ I.bel d0;replace d1:=ξ I.bel d1;replace d2:=ξ I.bel d2;have c6:(0:Int)≤(k:Int):=by omega
     have b8:(k:Int) < (rs.length:Int):=by omega
     have bw:dI rs k=rs[k]:=by unfold dI; rw [List.getD_eq_getElem?_getD,Ψ J]; rfl
     have bx:Hid (lC rs out rs[k].head.name=iw (aF rs) k):=η (by rw [← bw]; exact br.out.2 k J);have hin:rs[k].head.name ∈ bI rs:=head_mem (δ J);have b9:Hid (rs[k].head.name.size≤maxLen):=η (by obtain ⟨_,_,_,_,_,hs,_⟩:=a7; exact hs);have a2:=I.at hin;have bz:=vH hin;have c7:=I.small hin;have aw:Hid ((if rs[k].head.name ∈ aJ rs then xw (aJ rs) rs[k].head.name else 0)=(((aJ rs).idxOf rs[k].head.name:Nat):Int)):=η (if_pos (jb.2 hin));have e2:wr.cell? ⟨g2,k,none⟩=some (.int .i64 (iw o2 k:Nat)):=by rw [aj af]; exact Cc (by omega)
     have f2:wr.frozen? ⟨g2,k,none⟩=false:=aB af;have hA:Below wr.heap.size wr (wr.alloc (.cells #[.string rs[k].head.name,.slice Ae rs[k].head.args.length ce,.slice Af rs[k].body.length cf] 77)):=ζ;have ap:=η J;have az:=η (I.later hA);have a4:=η I;have c9:=η af;have bA:=η ao;have ca:=η aR;have bB:g < wr.heap.size:=ψ I.blk;have cb:g2 < wr.heap.size:=ψ af;clear a7 hA I af ao aR hin bw;generalize rs[k]=r at *;clear J;obtain ⟨⟨nm,args⟩,body⟩:=r;dsimp only at *;obtain ⟨x,hx⟩:∃ x,x=(aJ rs).idxOf nm:=⟨_,rfl⟩;rw [← hx] at aw a2 bz;obtain ⟨b,hb⟩:∃ b,b=lC rs out nm:=⟨_,rfl⟩;rw [← hb] at a2 c7 bx;have cc:(0:Int)≤(x:Int):=by omega
     have cd:(x:Int) < ((aJ rs).length:Int):=by omega
     clear hx hb
     have ag:Hid (oD w rs n g out (wr.setCell ⟨g2,k,none⟩ (.int .i64 b))):=η
      ⟨a4.out.map.setCell (by dsimp only; have:=a4.out.gt; omega) _,(π _ _ _ _ (by dsimp only; omega)).trans a4.out.blk,a4.out.gt,a4.out.bel.setCell (by dsimp only; omega) _,a4.out.lv⟩
     have ci:Hid ((wr.setCell ⟨g2,k,none⟩ (.int .i64 b)).heap[g2]? = some (.cells (Dy (o2.set k b)) 3 (0,0))):=η (by rw [← F7]; exact bY c9.out);have cj:=η (ag.out.later (ϑ.alloc ν (.cells #[.string nm,.slice Ae args.length ce,.slice Af body.length cf] 77)));have ck:Hid (((wr.setCell ⟨g2,k,none⟩ (.int .i64 b)).alloc (.cells #[.string nm,.slice Ae args.length ce,.slice Af body.length cf] 77)).heap[g2]? = some (.cells (Dy (o2.set k b)) 3 (0,0))):=η ((Below.heap_alloc _ _ _ (by simpa using cb)).trans ci.out)
     go_wp2_with (first | (at_lookup; refine rC _ rfl _ _ _ rfl Tryz.underlying112 _ _ _ _ rfl az.out.map nm rfl b9.out _ aw.out ?_) | go_in)
     go_roundw
     case rel=>exact ⟨k+1,_,ap.out,by go_num,cj.out,ck.out,by rw [List.length_set]; exact bA.out,fun i hi=>by
      rw [nN (by have:=bA.out; have:=ap.out; omega)]
      split
      ·rename_i e; subst e; exact bx.out
      ·exact ca.out i (by omega)⟩
     case measure=>have:=ap.out; simp [intOf]; omega
    ·have he:k=rs.length:=by omega
     have b8:¬ (k:Int) < (rs.length:Int):=by omega
     have e9:o2=aF rs:=by
      refine List.ext_getElem (by rw [ao,fF]) fun i h1 h2=>?_
      have:=aR i (by omega);unfold iw at this;simpa [List.getD_eq_getElem?_getD,Ψ h1,Ψ h2] using this
     subst e9;obtain ⟨bs',h5,h6,h7⟩:=rD af (by rw [ao]; unfold maxLen; omega);have HZ:Hid (Below w.heap.size w wr∧∃ v' bs',v'=.slice (some ⟨g2,0,none⟩) rs.length rs.length∧jf wr [v'] (aF rs) bs'∧New w.heap.size wr bs'):=η ⟨I.bel,_,_,rfl,by rw [← ao]; exact h5,⟨h6,fun b hb=>by rw [h7 b hb]; exact ⟨bv,_,_,af⟩⟩⟩;clear I af ao aR h5 h6 h7 he;go_wp2;go_ret2;obtain ⟨q1,v',b',rfl,q2,q3⟩:=HZ.out;exact ⟨q1,Or.inr ⟨br.out.1,.slice (some ⟨g2,0,none⟩) rs.length rs.length,rfl,b',q2,q3⟩⟩
  ·clear av
   obtain ⟨s0,bc⟩:∃ s0,s0=out.sum:=⟨_,rfl⟩;have cl:Hid (Ci wr g (aJ rs).length=s0):=η (by rw [bc,← I.lv.len]; exact Eo I.blk);have HI:=η I;have bE:=η bc;clear I bc;go_wp2
   go_loopw [6,26] (fun mv i wr=>∃ (m:Bool) (out:List Nat) (k:Nat),k≤rs.length∧mv=.bool m∧i=.int .i64 k∧oD w rs n g out wr∧(m=false→out.sum=s0∧vI rs out k)∧(m=true→s0 < out.sum)) (fun _ i _=>rs.length - (intOf i).toNat)
   case atStart=>exact ⟨false,out,0,ε,rfl,rfl,HI.out,fun _=>⟨bE.out.symm,vI.zero _ _⟩,fun h=>by simp at h⟩
   case round=>
    obtain ⟨m,out,k,hk,rfl,rfl,I,a8,a9⟩:=hrel;clear HI bE;by_cases J:k < rs.length
    ·obtain ⟨b0,o0,Ae,ce,Af,cf,bk,rfl,_,d0,d1,d2,a7,_⟩:=eF h J
     replace d0:=ξ I.bel d0;replace d1:=ξ I.bel d1;replace d2:=ξ I.bel d2;have c6:(0:Int)≤(k:Int):=by omega
     have b8:(k:Int) < (rs.length:Int):=by omega
     have hA:Below wr.heap.size wr (wr.alloc (.cells #[.string rs[k].head.name,.slice Ae rs[k].head.args.length ce,.slice Af rs[k].body.length cf] 77)):=ζ;obtain ⟨_,b2,_,cm,bL⟩:=dX a7;have cn:=η bL;have ap:=η J;have cA:(rs[k].body.length:Int)≤4:=by have:=(jX (ό.1 c3.out _ (δ J))).1; omega
     have aD:=η (δ J);have co:Hid (∀ out,vI rs out k→(∀ p ∈ rs[k].body,OE rs out rs[k] p)→vI rs out (k+1)):=η fun out=>vI.snoc J
     have b9:Hid (rs[k].head.name.size≤maxLen):=η (by obtain ⟨_,_,_,_,_,hs,_⟩:=a7; exact hs);have az:=η (I.later hA);have C8:Hid ((wr.alloc (.cells #[.string rs[k].head.name,.slice Ae rs[k].head.args.length ce,.slice Af rs[k].body.length cf] 77)).cell? ⟨wr.heap.size,0,none⟩=some (.string rs[k].head.name)):=η (by go_simp);have bB:g < wr.heap.size:=ψ I.blk;have bf:=η a8;have bO:=η a9;clear a7 hA cm bL I a8 a9;generalize rs[k]=r at *;clear J;obtain ⟨⟨nm,args⟩,body⟩:=r;dsimp only at *;have hin:nm ∈ bI rs:=head_mem aD.out;have aw:Hid ((if nm ∈ aJ rs then xw (aJ rs) nm else 0)=(((aJ rs).idxOf nm:Nat):Int)):=η (if_pos (jb.2 hin));obtain ⟨x,hx⟩:∃ x,x=(aJ rs).idxOf nm:=⟨_,rfl⟩;have bz:x < (aJ rs).length:=by rw [hx]; exact vH hin
     rw [← hx] at aw;have HX:=η hx;have bR:=η hin;obtain ⟨rb,bh⟩:∃ rb,rb=wr.heap.size:=⟨_,rfl⟩;rw [← bh] at C8 bB;have bX:rb ≠ g:=by omega
     clear hx hin
     go_wp2_with (first | (at_lookup; refine rC _ rfl _ _ _ rfl Tryz.underlying112 _ _ _ _ rfl az.out.map nm rfl b9.out _ aw.out ?_) | go_in)
     rw [← bh];generalize wr.alloc (.cells #[.string nm,.slice Ae args.length ce,.slice Af body.length cf] 77)=w3 at *;clear bh
     go_loopw [6,38] (fun mv i wr=>∃ (m:Bool) (out:List Nat) (j:Nat),j≤body.length∧mv=.bool m∧i=.int .i64 j∧oD w rs n g out wr∧(m=false→out.sum=s0∧vI rs out k∧DC rs out ⟨⟨nm,args⟩,body⟩ j)∧(m=true→s0 < out.sum)∧wr.cell? ⟨rb,0,none⟩=some (.string nm)) (fun _ i _=>body.length - (intOf i).toNat)
     case atStart=>exact ⟨m,out,0,ε,rfl,rfl,az.out,fun e=>⟨(bf.out e).1,(bf.out e).2,DC.zero _ _ _⟩,bO.out,C8.out⟩
     case round=>
      clear az bf bO C8;obtain ⟨m3,out,j,hj,rfl,rfl,I,a8,a9,c8⟩:=hrel;by_cases J:j < body.length
      ·obtain ⟨b4,o4,Ag,cg,bg,rfl,_,f0,f1,f2,a7,_⟩:=eU cn.out J
       replace f0:=ξ I.bel f0;replace f1:=ξ I.bel f1;replace f2:=ξ I.bel f2;have cB:(0:Int)≤(j:Int):=by omega
       have cp:(j:Int) < (body.length:Int):=by omega
       have a5:=η J;have hA:Below wr.heap.size wr (wr.alloc (.cells #[.bool body[j].no,.string body[j].atom.name,.slice Ag body[j].atom.args.length cg] 209)):=ζ;have aq:Hid (body[j].atom.name.size≤maxLen):=η (by obtain ⟨_,_,hs,_⟩:=a7; exact hs);have aa:DC rs out ⟨⟨nm,args⟩,body⟩ j→OE rs out ⟨⟨nm,args⟩,body⟩ body[j]→DC rs out ⟨⟨nm,args⟩,body⟩ (j+1):=DC.snoc (r:=⟨⟨nm,args⟩,body⟩) J;have ab:Hid (body[j].atom.name ∈ bI rs→∀ l,l=lC rs out body[j].atom.name+Au body[j]→(aJ rs).length≤l→kW rs=true):=η fun hh l hl hN=>I.lv.err aD.out (p:=body[j]) (δ J) hh hl hN
       have a6:Hid (body[j].atom.name ∈ bI rs→∀ l,l=lC rs out body[j].atom.name+Au body[j]→lC rs out nm < l→l < (aJ rs).length→LV rs (out.set x l)∧out.sum < (out.set x l).sum):=η fun hh l hl h1 h2=>by
        rw [HX.out]; exact I.lv.step (r:=⟨⟨nm,args⟩,body⟩) aD.out (p:=body[j]) (δ J) hh hl h1 h2
       have U:=η (I.later hA);have a4:=η I;have C8:=η (ξ hA c8);have C9:=η c8;have a0:=η a8;have ac:=η a9;have cD:g < wr.heap.size:=ψ I.blk;have a2:wr.cell? ⟨g,x,none⟩=some (.int .i64 (lC rs out nm:Nat)):=by rw [HX.out]; exact I.at bR.out
       have cq:=I.small bR.out;have fz:=I.free x;clear a7 hA I a8 a9 c8;generalize body[j]=p at *;clear J;obtain ⟨no,⟨pn,a3⟩⟩:=p;dsimp only at *;obtain ⟨b,hb⟩:∃ b,b=lC rs out nm:=⟨_,rfl⟩;rw [← hb] at a2 cq;have b1:=η hb;clear hb;by_cases hL:pn ∈ aJ rs
       ·have hin:pn ∈ bI rs:=jb.1 hL
        have HD:Hid (decide (pn ∈ aJ rs)=true):=η (decide_eq_true hL);have HV:Hid ((if pn ∈ aJ rs then xw (aJ rs) pn else 0)=(((aJ rs).idxOf pn:Nat):Int)):=η (if_pos hL);obtain ⟨y,hy⟩:∃ y,y=(aJ rs).idxOf pn:=⟨_,rfl⟩;have cE:y < (aJ rs).length:=by rw [hy]; exact vH hin
        rw [← hy] at HV;have a1:wr.cell? ⟨g,y,none⟩=some (.int .i64 (lC rs out pn:Nat)):=by rw [hy]; exact a4.out.at hin
        have cr:=a4.out.small hin;obtain ⟨a,ha⟩:∃ a,a=lC rs out pn:=⟨_,rfl⟩;rw [← ha] at a1 cr;have HA:=η ha;replace ab:=η (ab.out hin);replace a6:=η (a6.out hin);have cc:(0:Int)≤(x:Int):=by omega
        have cd:(x:Int) < ((aJ rs).length:Int):=by omega
        have cG:(0:Int)≤(y:Int):=by omega
        have cI:(y:Int) < ((aJ rs).length:Int):=by omega
        clear ha hin hL hy;cases no
        ·have ar:=η aa
         by_cases bi:a≤b
         ·have bj:Hid (lC rs out pn+Au ⟨false,⟨pn,a3⟩⟩≤lC rs out nm):=η (by simp only [Au]; rw [← HA.out,← b1.out]; simpa using bi)
          clear aa ab a6
          go_wp2_with (first | (at_lookup; refine dA _ rfl _ _ _ rfl Tryz.underlying112 _ _ _ _ rfl U.out.map pn rfl aq.out true HD.out _ HV.out ?_) | go_in)
          go_roundw
          case rel=>exact ⟨m3,out,j+1,a5.out,rfl,by go_num,U.out,fun e=>⟨(a0.out e).1,(a0.out e).2.1,ar.out (a0.out e).2.2 fun _=>bj.out⟩,ac.out,C8.out⟩
          case measure=>have:=a5.out; simp [intOf]; omega
         ·have aE:b < a:=by omega
          have b3:True:=trivial
          ·have bl:a < (aJ rs).length:=by omega
           obtain ⟨am,aL⟩:=a6.out (a) (by simp only [Au]; rw [HA.out]; rfl) (by rw [← b1.out]; exact aE) bl;have cv:=η am
           have aM:Hid (s0 < (out.set x (a)).sum):=η (by
            rw [HX.out] at *;cases m3
            ·have:=(a0.out rfl).1; omega
            ·have:=ac.out rfl; omega)
           have ag:Hid (oD w rs n g (out.set x (a)) ((wr.setCell ⟨g,x,none⟩ (.int .i64 (a))).alloc (.cells #[.bool false,.string pn,.slice Ag a3.length cg] 209))):=η ((a4.out.set x (a) am).later (ζ));have bn:Hid (((wr.setCell ⟨g,x,none⟩ (.int .i64 (a))).alloc (.cells #[.bool false,.string pn,.slice Ag a3.length cg] 209)).cell? ⟨rb,0,none⟩=some (.string nm)):=η (ξ (ζ) (by rw [World.cell?_of_block (w:=wr) (π _ _ _ _ bX)]; exact C9.out));clear aa ab a6 ar am aL
           go_wp2_with (first | (at_lookup; refine dA _ rfl _ _ _ rfl Tryz.underlying112 _ _ _ _ rfl U.out.map pn rfl aq.out true HD.out _ HV.out ?_) | (at_len; refine gy _ rfl _ _ rfl Tryz.underlying112 _ _ _ _ rfl U.out.map ?_) | go_in)
           go_roundw
           case rel=>exact ⟨true,_,j+1,a5.out,rfl,by go_num,ag.out,fun e=>by simp at e,fun _=>aM.out,bn.out⟩
           case measure=>have:=a5.out; simp [intOf]; omega
        ·have ar:=η aa
         by_cases bi:a+1≤b
         ·have bj:Hid (lC rs out pn+Au ⟨true,⟨pn,a3⟩⟩≤lC rs out nm):=η (by simp only [Au]; rw [← HA.out,← b1.out]; simpa using bi)
          clear aa ab a6
          go_wp2_with (first | (at_lookup; refine dA _ rfl _ _ _ rfl Tryz.underlying112 _ _ _ _ rfl U.out.map pn rfl aq.out true HD.out _ HV.out ?_) | go_in)
          go_roundw
          case rel=>exact ⟨m3,out,j+1,a5.out,rfl,by go_num,U.out,fun e=>⟨(a0.out e).1,(a0.out e).2.1,ar.out (a0.out e).2.2 fun _=>bj.out⟩,ac.out,C8.out⟩
          case measure=>have:=a5.out; simp [intOf]; omega
         ·have aE:b < a+1:=by omega
          by_cases b3:(aJ rs).length≤a+1
          ·have c0:=η (ab.out _ (by simp only [Au]; rw [HA.out]; rfl) b3)
           have c8:=C8.out;have BZ:=U.out.bel;clear aa ab a6 ar
           go_wp2_with (first | (at_lookup; refine dA _ rfl _ _ _ rfl Tryz.underlying112 _ _ _ _ rfl U.out.map pn rfl aq.out true HD.out _ HV.out ?_) | (at_len; refine gy _ rfl _ _ rfl Tryz.underlying112 _ _ _ _ rfl U.out.map ?_) | go_in)
           go_region;go_wp2;go_ret2;exact ⟨((BZ.alloc (by have:=BZ.size; exact this) _)).drew,.inl ⟨c0.out,_,rfl⟩⟩
          ·have bl:a+1 < (aJ rs).length:=by omega
           obtain ⟨am,aL⟩:=a6.out (a+1) (by simp only [Au]; rw [HA.out]; rfl) (by rw [← b1.out]; exact aE) bl;have cv:=η am
           have aM:Hid (s0 < (out.set x (a+1)).sum):=η (by
            rw [HX.out] at *;cases m3
            ·have:=(a0.out rfl).1; omega
            ·have:=ac.out rfl; omega)
           have ag:Hid (oD w rs n g (out.set x (a+1)) ((wr.setCell ⟨g,x,none⟩ (.int .i64 (a+1))).alloc (.cells #[.bool true,.string pn,.slice Ag a3.length cg] 209))):=η ((a4.out.set x (a+1) am).later (ζ));have bn:Hid (((wr.setCell ⟨g,x,none⟩ (.int .i64 (a+1))).alloc (.cells #[.bool true,.string pn,.slice Ag a3.length cg] 209)).cell? ⟨rb,0,none⟩=some (.string nm)):=η (ξ (ζ) (by rw [World.cell?_of_block (w:=wr) (π _ _ _ _ bX)]; exact C9.out));clear aa ab a6 ar am aL
           go_wp2_with (first | (at_lookup; refine dA _ rfl _ _ _ rfl Tryz.underlying112 _ _ _ _ rfl U.out.map pn rfl aq.out true HD.out _ HV.out ?_) | (at_len; refine gy _ rfl _ _ rfl Tryz.underlying112 _ _ _ _ rfl U.out.map ?_) | go_in)
           go_roundw
           case rel=>exact ⟨true,_,j+1,a5.out,rfl,by go_num,ag.out,fun e=>by simp at e,fun _=>aM.out,bn.out⟩
           case measure=>have:=a5.out; simp [intOf]; omega
       ·have HD:Hid (decide (pn ∈ aJ rs)=false):=η (decide_eq_false hL)
        have HV:Hid ((if pn ∈ aJ rs then xw (aJ rs) pn else 0)=0):=η (if_neg hL);have cw:=η fun e=>aa e fun hh=>absurd (jb.2 hh) hL
        clear hL aa ab a6
        go_wp2_with (first | (at_lookup; refine dA _ rfl _ _ _ rfl Tryz.underlying112 _ _ _ _ rfl U.out.map pn rfl aq.out false HD.out _ HV.out ?_) | go_in)
        go_roundw
        case rel=>exact ⟨m3,out,j+1,a5.out,rfl,by go_num,U.out,fun e=>⟨(a0.out e).1,(a0.out e).2.1,cw.out (a0.out e).2.2⟩,ac.out,C8.out⟩
        case measure=>have:=a5.out; simp [intOf]; omega
      ·have he:j=body.length:=by omega
       have cp:¬ (j:Int) < (body.length:Int):=by omega
       have HZ:Hid (m3=false→out.sum=s0∧vI rs out (k+1)):=η fun e=>by
        obtain ⟨q1,q2,q3⟩:=a8 e;refine ⟨q1,co.out out q2 fun p hp=>q3 p ?_⟩;rw [he,ϕ ν]; exact hp
       have U:=η I;have ac:=η a9;clear a8 a9 I he;go_wp2;go_roundw
       case rel=>exact ⟨m3,out,k+1,ap.out,rfl,by go_num,U.out,HZ.out,ac.out⟩
       case measure=>have:=ap.out; simp [intOf]; omega
    ·have he:k=rs.length:=by omega
     have b8:¬ (k:Int) < (rs.length:Int):=by omega
     have cx:oD w rs n g out wr:=I;have HQ:Hid (Ci wr g (aJ rs).length=out.sum∧out.sum≤(aJ rs).length * (aJ rs).length):=η ⟨by rw [← I.lv.len]; exact Eo I.blk,I.lv.FD⟩;have U:=η I;have ac:=η a9;have a0:Hid (m=false→out.sum=s0∧vI rs out rs.length):=η (by rw [← he]; exact a8);clear a8 a9 I he cx;go_wp2;go_roundw
     case rel=>exact ⟨m,out,rfl,U.out,fun e=>(a0.out e).2⟩
     case measure=>
      have q1:=HQ.out;have q2:=cl.out;have q3:=ac.out;have q4:=a0.out;cases m
      ·have:=(q4 rfl).1
       simp [V5]; omega
      ·have:=q3 rfl
       simp [V5]; omega
theorem OZ (t:T) (w:World):
  Calls Tryz.prog 112 #[.agg #[.bool t.var,.string t.name]] w fun e w'=>e=.returned (.bool t.var)∧Below w.heap.size w w':=by
 go_enter Tryz.func112,Tryz.ntmps112
 go_wp2;go_ret;exact ⟨rfl,ζ⟩
def Found (b:Bool) (w:World) (e:Ending) (w':World):Prop:=(∃ z:Int,e=.returned (.int .i64 z)∧decide (0≤z)=b)∧Below w.heap.size w w'
theorem Gi (y:List T) (v:Value) (bs:List Nat) (w:World) (h:fD w [v] y bs):
  Calls Tryz.prog 170 #[v,.func (.func 112) #[] #[]] w (Found (jU y) w):=by
 obtain ⟨Ad,cap,rfl,hl,hm⟩:=ai h;have a1:=ay (τ hl hm);clear hm
 go_enter Tryz.func170,Tryz.ntmps170
 go_wp2
 go_loopw [8] (fun i wr=>∃ k:Nat,k≤y.length∧i=.int .i64 k∧jU (y.take k)=false∧Below w.heap.size w wr) (fun i _=>y.length - (intOf i).toNat)
 case atStart=>exact ⟨0,ε,rfl,rfl,ϑ⟩
 case round=>
  obtain ⟨k,hk,rfl,I,U⟩:=hrel;have HA:=η I;clear I;by_cases J:k < y.length
  ·obtain ⟨b,o,rfl,_,c0,c1,_⟩:=dN (aG.below h U) J
   clear h
   go_wp2_with fail
   refine (OZ y[k] _).mono ?_;rintro e w' ⟨rfl,a0⟩;have B':=U.trans (a0.mono U.size);cases hv:y[k].var
   ·have HV:=η hv
    go_wp2;go_roundw
    case rel=>exact ⟨k+1,by omega,by go_num,by rw [zf y k J,HA.out,HV.out]; rfl,B'⟩
    case measure=>simp [intOf]; omega
   ·have HV:=η (AQ y k J hv)
    go_wp2;go_ret;exact ⟨⟨_,rfl,by rw [HV.out]; simp⟩,B'⟩
  ·have he:=η (show k=y.length by omega)
   go_wp2;go_ret;exact ⟨⟨_,rfl,by have:=HA.out; rw [he.out,ϕ ν] at this; rw [this]; rfl⟩,U⟩
theorem zY (y:List T) (v:Value) (I:List Nat) (w:World) (h:fD w [v] y I):
  Calls Tryz.prog 111 #[v,.func (.func 112) #[] #[]] w fun e w'=>e=.returned (.bool (jU y))∧Below w.heap.size w w':=by
 have hi:=Gi y v I w h;clear h
 go_enter Tryz.func111,Tryz.ntmps111
 go_wp2_with fail
 refine hi.mono ?_;rintro e w' ⟨⟨z,rfl,J⟩,U⟩;have HZ:=η J;clear J;go_wp2;go_ret;exact ⟨aA HZ.out,U⟩
theorem ql (a:A) (c0 c1:Value) (bs:List Nat) (w:World) (h:aP w [c0,c1] a bs):
  Calls Tryz.prog 64 #[.agg #[c0,c1]] w fun e w'=>e=.returned (.bool (aW a))∧Below w.heap.size w w':=by
 obtain ⟨Ad,cap,rfl,rfl⟩:=bK h;have k1:=fun w' (hb:Below w.heap.size w w')=>rq a _ _ bs w' (ak.below h hb)
 have k2:=fun w' (hb:Below w.heap.size w w')=>zY a.args _ bs w' (dK (ak.below h hb))
 unfold aW;generalize aZ a=x at *;generalize jU a.args=y at *;clear h;have J:=(Below.refl w.heap.size w).alloc ν (.cells #[.string a.name,.slice Ad a.args.length cap] 40)
 go_enter Tryz.func64,Tryz.ntmps64
 go_wp2_with fail
 refine (k1 _ J).mono ?_;rintro e w1 ⟨rfl,I⟩;have U:=J.trans (I.mono J.size);have x1:w1.cell? ⟨w.heap.size,1,none⟩=some (.slice Ad a.args.length cap):=ξ I (by go_simp);clear k1 J;cases x
 ·go_wp2
  go_ret;exact ⟨rfl,U⟩
 ·go_wp2_with fail
  refine (k2 _ U).mono ?_;rintro e w2 ⟨rfl,a0⟩;go_wp2;go_ret;exact ⟨aA (by simp),U.trans (a0.mono U.size)⟩
end Go.Proofs.YtlmngncogomgeaaGreatDoor
