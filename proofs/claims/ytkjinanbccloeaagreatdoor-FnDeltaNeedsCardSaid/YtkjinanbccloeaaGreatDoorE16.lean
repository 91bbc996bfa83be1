/- Of the proof of FnDeltaNeeds: StrI, LevS, Fact, FsO. -/
import Derived.Deep.OwnRows
import Derived.Test.YtkjinanbccloeaaGreatDoorE12
import Derived.Test.YtkjinanbccloeaaGreatDoorE11
import Derived.Deep.CutRange
set_option linter.unusedVariables false
set_option maxHeartbeats 4000000
set_option maxRecDepth 100000
namespace Go.Proofs.YtkjinanbccloeaaGreatDoor
open Go.RowKit D
attribute [local go_sem ↓] Go.wp_at_zero Go.wp_at_succ
structure D.qA (w:World) (rs:List Ru) (n g:Nat) (out:List Nat) (wr:World):Prop where
 map:gB w.heap.size n (aN rs) (yV (aN rs)) wr
 blk:wr.heap[g]? = some (.cells (F9 out) 3 (0,0))
 gt:w.heap.size < g
 bel:Below w.heap.size w wr
 lv:Pm rs out
theorem D.qA.later {w:World} {rs:List Ru} {n g:Nat} {out:List Nat} {wr w':World} (h:qA w rs n g out wr) (hb:Below wr.heap.size wr w'):qA w rs n g out w':=
 ⟨h.map.below hb h.map.lt,(hb.block _ (ψ h.blk)).trans h.blk,h.gt,h.bel.trans (hb.mono h.bel.size),h.lv⟩
theorem D.qA.set {w:World} {rs:List Ru} {n g:Nat} {out:List Nat} {wr:World} (h:qA w rs n g out wr) (i v:Nat) (y:Pm rs (out.set i v)):qA w rs n g (out.set i v) (wr.setCell ⟨g,i,none⟩ (.int .i64 (v:Nat))):=
 ⟨h.map.setCell (by have:=h.gt; dsimp only; omega) _,by rw [← Jw]; exact bY h.blk,h.gt,h.bel.setCell (by have:=h.gt; dsimp only; omega) _,y⟩
theorem D.qA.at {w:World} {rs:List Ru} {n g:Nat} {out:List Nat} {wr:World} (h:qA w rs n g out wr) {s:ByteArray} (y:s ∈ bI rs):wr.cell? ⟨g,(aN rs).idxOf s,none⟩=some (.int .i64 (nT rs out s:Nat)):=by
 rw [ai h.blk];exact EQ (by rw [h.lv.len]; exact xG y)
theorem D.qA.free {w:World} {rs:List Ru} {n g:Nat} {out:List Nat} {wr:World} (h:qA w rs n g out wr) (o:Nat):wr.frozen? ⟨g,o,none⟩=false:=ax h.blk
theorem D.qA.small {w:World} {rs:List Ru} {n g:Nat} {out:List Nat} {wr:World} (h:qA w rs n g out wr) {s:ByteArray} (y:s ∈ bI rs):nT rs out s < (aN rs).length:=by
 have:=h.lv.lo _ (by rw [h.lv.len]; exact xG y);rw [h.lv.len] at this;exact this
def D.Zd:Value→Nat
 | .bool true=>1
 | _=>0
theorem y9 (rs:List Ru) (v:Value) (bs:List Nat) (w:World) (h:dW w [v] rs bs) (hf:rs.length≤8) (hok:rs.all eY=true):
  Calls Tryz.prog 133 #[v] w fun e w'=>Below w.heap.size w w'∧((mG rs=true∧∃ a,e=.returned (.tuple #[.slice none 0 0,.iface 255 (.pointer (some a))])) ∨
   (mG rs=false∧∃ v' bs',e=.returned (.tuple #[v',.nilIface])∧jT w' [v'] (aA rs) bs'∧New w.heap.size w' bs')):=by
 obtain ⟨Ad,cap,rfl,hl,hm⟩:=aj h;have cz:=ay (τ hl hm);have cA:(aN rs).length≤8:=τ (Et rs) hf;have bp:=fun w'=>run_make_row' (P:=Tryz.prog) 49 3 (.int .i64 0) 8 Tryz.underlying49 D9 rfl .i64 .i64 (aN rs).length (by omega) (by omega) w'
 have ae:=fun w'=>run_make_row' (P:=Tryz.prog) 49 3 (.int .i64 0) 8 Tryz.underlying49 D9 rfl .i64 .i64 rs.length (by omega) (by omega) w'
 simp only [ER] at bp ae;have bq:=η ae;clear ae;have c5:=η hok;have br:=E5 rs _ bs w h (by omega);clear hl hm hok
 go_enter Tryz.func133,Tryz.ntmps133
 go_wp2_with fail
 refine br.mono ?_;rintro e w1 ⟨rfl,⟨n,hM⟩,hB⟩;clear br;have c6:w.heap.size < w1.heap.size:=hM.lt;have HM:=η hM
 have b6:Hid (qA w rs n w1.heap.size (List.replicate (aN rs).length 0) (w1.alloc (.cells (F9 (List.replicate (aN rs).length 0)) 3))):=η
  ⟨hM.below (B:=w1.heap.size) (ζ) hM.lt,ω _ _,c6,hB.trans ((ζ).mono hB.size),Pm.zero rs⟩
 clear hM hB
 go_wp2_with (first | (at_len; refine fA _ rfl _ _ rfl Tryz.underlying116 _ _ _ _ rfl HM.out ?_) | go_in)
 clear HM;obtain ⟨g,hg⟩:∃ g,g=w1.heap.size:=⟨_,rfl⟩;rw [← hg] at b6 ⊢;clear hg;generalize w1.alloc (.cells (F9 (List.replicate (aN rs).length 0)) 3)=w2 at *
 go_loopw [6] (fun mv wr=>∃ (m:Bool) (out:List Nat),mv=.bool m∧qA w rs n g out wr∧(m=false→xH rs out rs.length)) (fun mv wr=>2 * ((aN rs).length * (aN rs).length - ES wr g (aN rs).length)+Zd mv)
 case atStart=>exact ⟨true,_,rfl,b6.out,fun h=>by simp at h⟩
 case round=>
  obtain ⟨m,out,rfl,I,aw⟩:=hrel;clear b6;cases m
  ·have bt:=η (I.lv.done (aw rfl))
   have HI:=η I;clear aw I;have ae:=bq.out;have bu:Below wr.heap.size wr (wr.alloc (.cells (F9 (List.replicate rs.length 0)) 3)):=ζ;have bv:=η (HI.out.later bu);have b7:Hid ((wr.alloc (.cells (F9 (List.replicate rs.length 0)) 3)).heap[wr.heap.size]? = some (.cells (F9 (List.replicate rs.length 0)) 3 (0,0))):=η (ω _ _);have c7:g < wr.heap.size:=ψ HI.out.blk;have bw:w.heap.size≤wr.heap.size:=HI.out.bel.size;clear bu;obtain ⟨g2,b8⟩:∃ g2,g2=wr.heap.size:=⟨_,rfl⟩;rw [← b8] at b7 c7 bw;go_wp2;rw [← b8];clear b8 HI ae bq bp;generalize wr.alloc (.cells (F9 (List.replicate rs.length 0)) 3)=w5 at *
   go_loopw [87] (fun i wr=>∃ (k:Nat) (o2:List Nat),k≤rs.length∧i=.int .i64 k∧qA w rs n g out wr∧wr.heap[g2]? = some (.cells (F9 o2) 3 (0,0))∧o2.length=rs.length∧∀ i,i < k→iZ o2 i=iZ (aA rs) i) (fun i _=>rs.length - (intOf i).toNat)
   case atStart=>exact ⟨0,_,ε,rfl,bv.out,b7.out,by simp,fun i h=>by omega⟩
   case round=>
    obtain ⟨k,o2,hk,rfl,I,af,ao,b1⟩:=hrel;clear bv b7;by_cases J:k < rs.length
    ·obtain ⟨b0,o0,Ae,ce,Af,cf,bk,rfl,_,d0,d1,d2,a7,_⟩:=iI h J
     replace d0:=ξ I.bel d0;replace d1:=ξ I.bel d1;replace d2:=ξ I.bel d2;have c9:(0:Int)≤(k:Int):=by omega
     have b9:(k:Int) < (rs.length:Int):=by omega
     have bx:dQ rs k=rs[k]:=by unfold dQ; rw [List.getD_eq_getElem?_getD,Ψ J]; rfl
     have bz:Hid (nT rs out rs[k].head.name=iZ (aA rs) k):=η (by rw [← bx]; exact bt.out.2 k J);have hin:rs[k].head.name ∈ bI rs:=head_mem (δ J);have bc:Hid (rs[k].head.name.size≤maxLen):=η (by obtain ⟨_,_,_,_,_,hs,_⟩:=a7; exact hs);have a2:=I.at hin;have bA:=xG hin;have ca:=I.small hin;have az:Hid ((if rs[k].head.name ∈ aN rs then yV (aN rs) rs[k].head.name else 0)=(((aN rs).idxOf rs[k].head.name:Nat):Int)):=η (if_pos (jK.2 hin));have e2:wr.cell? ⟨g2,k,none⟩=some (.int .i64 (iZ o2 k:Nat)):=by rw [ai af]; exact EQ (by omega)
     have f2:wr.frozen? ⟨g2,k,none⟩=false:=ax af;have hA:Below wr.heap.size wr (wr.alloc (.cells #[.string rs[k].head.name,.slice Ae rs[k].head.args.length ce,.slice Af rs[k].body.length cf] 40)):=ζ;have aq:=η J;have aD:=η (I.later hA);have a4:=η I;have cb:=η af;have bB:=η ao;have cc:=η b1;have bE:g < wr.heap.size:=ψ I.blk;have cd:g2 < wr.heap.size:=ψ af;clear a7 hA I af ao b1 hin bx;generalize rs[k]=r at *;clear J;obtain ⟨⟨nm,args⟩,body⟩:=r;dsimp only at *;obtain ⟨x,hx⟩:∃ x,x=(aN rs).idxOf nm:=⟨_,rfl⟩;rw [← hx] at az a2 bA;obtain ⟨b,hb⟩:∃ b,b=nT rs out nm:=⟨_,rfl⟩;rw [← hb] at a2 ca bz;have ci:(0:Int)≤(x:Int):=by omega
     have cj:(x:Int) < ((aN rs).length:Int):=by omega
     clear hx hb
     have ag:Hid (qA w rs n g out (wr.setCell ⟨g2,k,none⟩ (.int .i64 b))):=η
      ⟨a4.out.map.setCell (by dsimp only; have:=a4.out.gt; omega) _,(π _ _ _ _ (by dsimp only; omega)).trans a4.out.blk,a4.out.gt,a4.out.bel.setCell (by dsimp only; omega) _,a4.out.lv⟩
     have ck:Hid ((wr.setCell ⟨g2,k,none⟩ (.int .i64 b)).heap[g2]? = some (.cells (F9 (o2.set k b)) 3 (0,0))):=η (by rw [← Jw]; exact bY cb.out);have cl:=η (ag.out.later (ϑ.alloc ν (.cells #[.string nm,.slice Ae args.length ce,.slice Af body.length cf] 40)));have cm:Hid (((wr.setCell ⟨g2,k,none⟩ (.int .i64 b)).alloc (.cells #[.string nm,.slice Ae args.length ce,.slice Af body.length cf] 40)).heap[g2]? = some (.cells (F9 (o2.set k b)) 3 (0,0))):=η ((Below.heap_alloc _ _ _ (by simpa using cd)).trans ck.out)
     go_wp2_with (first | (at_lookup; refine uM _ rfl _ _ _ rfl Tryz.underlying116 _ _ _ _ rfl aD.out.map nm rfl bc.out _ az.out ?_) | go_in)
     go_roundw
     case rel=>exact ⟨k+1,_,aq.out,by go_num,cl.out,cm.out,by rw [List.length_set]; exact bB.out,fun i hi=>by
      rw [qh (by have:=bB.out; have:=aq.out; omega)]
      split
      ·rename_i e; subst e; exact bz.out
      ·exact cc.out i (by omega)⟩
     case measure=>have:=aq.out; simp [intOf]; omega
    ·have he:k=rs.length:=by omega
     have b9:¬ (k:Int) < (rs.length:Int):=by omega
     have e9:o2=aA rs:=by
      refine List.ext_getElem (by rw [ao,gu]) fun i h1 h2=>?_
      have:=b1 i (by omega);unfold iZ at this;simpa [List.getD_eq_getElem?_getD,Ψ h1,Ψ h2] using this
     subst e9;obtain ⟨bs',h5,h6,h7⟩:=uO af (by rw [ao]; unfold maxLen; omega);have HZ:Hid (Below w.heap.size w wr∧∃ v' bs',v'=.slice (some ⟨g2,0,none⟩) rs.length rs.length∧jT wr [v'] (aA rs) bs'∧New w.heap.size wr bs'):=η ⟨I.bel,_,_,rfl,by rw [← ao]; exact h5,⟨h6,fun b hb=>by rw [h7 b hb]; exact ⟨bw,_,_,af⟩⟩⟩;clear I af ao b1 h5 h6 h7 he;go_wp2;go_ret2;obtain ⟨q1,v',b',rfl,q2,q3⟩:=HZ.out;exact ⟨q1,Or.inr ⟨bt.out.1,.slice (some ⟨g2,0,none⟩) rs.length rs.length,rfl,b',q2,q3⟩⟩
  ·clear aw
   obtain ⟨s0,bf⟩:∃ s0,s0=out.sum:=⟨_,rfl⟩;have cn:Hid (ES wr g (aN rs).length=s0):=η (by rw [bf,← I.lv.len]; exact Ij I.blk);have HI:=η I;have bL:=η bf;clear I bf;go_wp2
   go_loopw [6,26] (fun mv i wr=>∃ (m:Bool) (out:List Nat) (k:Nat),k≤rs.length∧mv=.bool m∧i=.int .i64 k∧qA w rs n g out wr∧(m=false→out.sum=s0∧xH rs out k)∧(m=true→s0 < out.sum)) (fun _ i _=>rs.length - (intOf i).toNat)
   case atStart=>exact ⟨false,out,0,ε,rfl,rfl,HI.out,fun _=>⟨bL.out.symm,xH.zero _ _⟩,fun h=>by simp at h⟩
   case round=>
    obtain ⟨m,out,k,hk,rfl,rfl,I,a8,a9⟩:=hrel;clear HI bL;by_cases J:k < rs.length
    ·obtain ⟨b0,o0,Ae,ce,Af,cf,bk,rfl,_,d0,d1,d2,a7,_⟩:=iI h J
     replace d0:=ξ I.bel d0;replace d1:=ξ I.bel d1;replace d2:=ξ I.bel d2;have c9:(0:Int)≤(k:Int):=by omega
     have b9:(k:Int) < (rs.length:Int):=by omega
     have hA:Below wr.heap.size wr (wr.alloc (.cells #[.string rs[k].head.name,.slice Ae rs[k].head.args.length ce,.slice Af rs[k].body.length cf] 40)):=ζ;obtain ⟨_,b2,_,co,bO⟩:=iW a7;have cp:=η bO;have aq:=η J;have cB:(rs[k].body.length:Int)≤4:=by have:=(kJ (ό.1 c5.out _ (δ J))).1; omega
     have aE:=η (δ J);have cq:Hid (∀ out,xH rs out k→(∀ p ∈ rs[k].body,RU rs out rs[k] p)→xH rs out (k+1)):=η fun out=>xH.snoc J
     have bc:Hid (rs[k].head.name.size≤maxLen):=η (by obtain ⟨_,_,_,_,_,hs,_⟩:=a7; exact hs);have aD:=η (I.later hA);have C8:Hid ((wr.alloc (.cells #[.string rs[k].head.name,.slice Ae rs[k].head.args.length ce,.slice Af rs[k].body.length cf] 40)).cell? ⟨wr.heap.size,0,none⟩=some (.string rs[k].head.name)):=η (by go_simp);have bE:g < wr.heap.size:=ψ I.blk;have bh:=η a8;have bR:=η a9;clear a7 hA co bO I a8 a9;generalize rs[k]=r at *;clear J;obtain ⟨⟨nm,args⟩,body⟩:=r;dsimp only at *;have hin:nm ∈ bI rs:=head_mem aE.out;have az:Hid ((if nm ∈ aN rs then yV (aN rs) nm else 0)=(((aN rs).idxOf nm:Nat):Int)):=η (if_pos (jK.2 hin));obtain ⟨x,hx⟩:∃ x,x=(aN rs).idxOf nm:=⟨_,rfl⟩;have bA:x < (aN rs).length:=by rw [hx]; exact xG hin
     rw [← hx] at az;have HX:=η hx;have bX:=η hin;obtain ⟨rb,bi⟩:∃ rb,rb=wr.heap.size:=⟨_,rfl⟩;rw [← bi] at C8 bE;have c3:rb ≠ g:=by omega
     clear hx hin
     go_wp2_with (first | (at_lookup; refine uM _ rfl _ _ _ rfl Tryz.underlying116 _ _ _ _ rfl aD.out.map nm rfl bc.out _ az.out ?_) | go_in)
     rw [← bi];generalize wr.alloc (.cells #[.string nm,.slice Ae args.length ce,.slice Af body.length cf] 40)=w3 at *;clear bi
     go_loopw [6,38] (fun mv i wr=>∃ (m:Bool) (out:List Nat) (j:Nat),j≤body.length∧mv=.bool m∧i=.int .i64 j∧qA w rs n g out wr∧(m=false→out.sum=s0∧xH rs out k∧Gi rs out ⟨⟨nm,args⟩,body⟩ j)∧(m=true→s0 < out.sum)∧wr.cell? ⟨rb,0,none⟩=some (.string nm)) (fun _ i _=>body.length - (intOf i).toNat)
     case atStart=>exact ⟨m,out,0,ε,rfl,rfl,aD.out,fun e=>⟨(bh.out e).1,(bh.out e).2,Gi.zero _ _ _⟩,bR.out,C8.out⟩
     case round=>
      clear aD bh bR C8;obtain ⟨m3,out,j,hj,rfl,rfl,I,a8,a9,c8⟩:=hrel;by_cases J:j < body.length
      ·obtain ⟨b4,o4,Ag,cg,bg,rfl,_,f0,f1,f2,a7,_⟩:=iV cp.out J
       replace f0:=ξ I.bel f0;replace f1:=ξ I.bel f1;replace f2:=ξ I.bel f2;have cD:(0:Int)≤(j:Int):=by omega
       have cr:(j:Int) < (body.length:Int):=by omega
       have a5:=η J;have hA:Below wr.heap.size wr (wr.alloc (.cells #[.bool body[j].no,.string body[j].atom.name,.slice Ag body[j].atom.args.length cg] 42)):=ζ;have ar:Hid (body[j].atom.name.size≤maxLen):=η (by obtain ⟨_,_,hs,_⟩:=a7; exact hs);have aa:Gi rs out ⟨⟨nm,args⟩,body⟩ j→RU rs out ⟨⟨nm,args⟩,body⟩ body[j]→Gi rs out ⟨⟨nm,args⟩,body⟩ (j+1):=Gi.snoc (r:=⟨⟨nm,args⟩,body⟩) J;have ab:Hid (body[j].atom.name ∈ bI rs→∀ l,l=nT rs out body[j].atom.name+DL body[j]→(aN rs).length≤l→mG rs=true):=η fun hh l hl hN=>I.lv.err aE.out (p:=body[j]) (δ J) hh hl hN
       have a6:Hid (body[j].atom.name ∈ bI rs→∀ l,l=nT rs out body[j].atom.name+DL body[j]→nT rs out nm < l→l < (aN rs).length→Pm rs (out.set x l)∧out.sum < (out.set x l).sum):=η fun hh l hl h1 h2=>by
        rw [HX.out]; exact I.lv.step (r:=⟨⟨nm,args⟩,body⟩) aE.out (p:=body[j]) (δ J) hh hl h1 h2
       have U:=η (I.later hA);have a4:=η I;have C8:=η (ξ hA c8);have C9:=η c8;have a0:=η a8;have ac:=η a9;have cE:g < wr.heap.size:=ψ I.blk;have a2:wr.cell? ⟨g,x,none⟩=some (.int .i64 (nT rs out nm:Nat)):=by rw [HX.out]; exact I.at bX.out
       have cv:=I.small bX.out;have fz:=I.free x;clear a7 hA I a8 a9 c8;generalize body[j]=p at *;clear J;obtain ⟨no,⟨pn,a3⟩⟩:=p;dsimp only at *;obtain ⟨b,hb⟩:∃ b,b=nT rs out nm:=⟨_,rfl⟩;rw [← hb] at a2 cv;have b3:=η hb;clear hb;by_cases hL:pn ∈ aN rs
       ·have hin:pn ∈ bI rs:=jK.1 hL
        have HD:Hid (decide (pn ∈ aN rs)=true):=η (decide_eq_true hL);have HV:Hid ((if pn ∈ aN rs then yV (aN rs) pn else 0)=(((aN rs).idxOf pn:Nat):Int)):=η (if_pos hL);obtain ⟨y,hy⟩:∃ y,y=(aN rs).idxOf pn:=⟨_,rfl⟩;have cG:y < (aN rs).length:=by rw [hy]; exact xG hin
        rw [← hy] at HV;have a1:wr.cell? ⟨g,y,none⟩=some (.int .i64 (nT rs out pn:Nat)):=by rw [hy]; exact a4.out.at hin
        have has:=a4.out.small hin;obtain ⟨a,ha⟩:∃ a,a=nT rs out pn:=⟨_,rfl⟩;rw [← ha] at a1 has;have HA:=η ha;replace ab:=η (ab.out hin);replace a6:=η (a6.out hin);have ci:(0:Int)≤(x:Int):=by omega
        have cj:(x:Int) < ((aN rs).length:Int):=by omega
        have cI:(0:Int)≤(y:Int):=by omega
        have cJ:(y:Int) < ((aN rs).length:Int):=by omega
        clear ha hin hL hy;cases no
        ·have av:=η aa
         by_cases bj:a≤b
         ·have bl:Hid (nT rs out pn+DL ⟨false,⟨pn,a3⟩⟩≤nT rs out nm):=η (by simp only [DL]; rw [← HA.out,← b3.out]; simpa using bj)
          clear aa ab a6
          go_wp2_with (first | (at_lookup; refine bZ _ rfl _ _ _ rfl Tryz.underlying116 _ _ _ _ rfl U.out.map pn rfl ar.out true HD.out _ HV.out ?_) | go_in)
          go_roundw
          case rel=>exact ⟨m3,out,j+1,a5.out,rfl,by go_num,U.out,fun e=>⟨(a0.out e).1,(a0.out e).2.1,av.out (a0.out e).2.2 fun _=>bl.out⟩,ac.out,C8.out⟩
          case measure=>have:=a5.out; simp [intOf]; omega
         ·have aL:b < a:=by omega
          have b5:True:=trivial
          ·have bn:a < (aN rs).length:=by omega
           obtain ⟨am,aM⟩:=a6.out (a) (by simp only [DL]; rw [HA.out]; rfl) (by rw [← b3.out]; exact aL) bn;have cw:=η am
           have aR:Hid (s0 < (out.set x (a)).sum):=η (by
            rw [HX.out] at *;cases m3
            ·have:=(a0.out rfl).1; omega
            ·have:=ac.out rfl; omega)
           have ag:Hid (qA w rs n g (out.set x (a)) ((wr.setCell ⟨g,x,none⟩ (.int .i64 (a))).alloc (.cells #[.bool false,.string pn,.slice Ag a3.length cg] 42))):=η ((a4.out.set x (a) am).later (ζ));have bo:Hid (((wr.setCell ⟨g,x,none⟩ (.int .i64 (a))).alloc (.cells #[.bool false,.string pn,.slice Ag a3.length cg] 42)).cell? ⟨rb,0,none⟩=some (.string nm)):=η (ξ (ζ) (by rw [World.cell?_of_block (w:=wr) (π _ _ _ _ c3)]; exact C9.out));clear aa ab a6 av am aM
           go_wp2_with (first | (at_lookup; refine bZ _ rfl _ _ _ rfl Tryz.underlying116 _ _ _ _ rfl U.out.map pn rfl ar.out true HD.out _ HV.out ?_) | (at_len; refine fA _ rfl _ _ rfl Tryz.underlying116 _ _ _ _ rfl U.out.map ?_) | go_in)
           go_roundw
           case rel=>exact ⟨true,_,j+1,a5.out,rfl,by go_num,ag.out,fun e=>by simp at e,fun _=>aR.out,bo.out⟩
           case measure=>have:=a5.out; simp [intOf]; omega
        ·have av:=η aa
         by_cases bj:a+1≤b
         ·have bl:Hid (nT rs out pn+DL ⟨true,⟨pn,a3⟩⟩≤nT rs out nm):=η (by simp only [DL]; rw [← HA.out,← b3.out]; simpa using bj)
          clear aa ab a6
          go_wp2_with (first | (at_lookup; refine bZ _ rfl _ _ _ rfl Tryz.underlying116 _ _ _ _ rfl U.out.map pn rfl ar.out true HD.out _ HV.out ?_) | go_in)
          go_roundw
          case rel=>exact ⟨m3,out,j+1,a5.out,rfl,by go_num,U.out,fun e=>⟨(a0.out e).1,(a0.out e).2.1,av.out (a0.out e).2.2 fun _=>bl.out⟩,ac.out,C8.out⟩
          case measure=>have:=a5.out; simp [intOf]; omega
         ·have aL:b < a+1:=by omega
          by_cases b5:(aN rs).length≤a+1
          ·have c4:=η (ab.out _ (by simp only [DL]; rw [HA.out]; rfl) b5)
           have c8:=C8.out;have BZ:=U.out.bel;clear aa ab a6 av
           go_wp2_with (first | (at_lookup; refine bZ _ rfl _ _ _ rfl Tryz.underlying116 _ _ _ _ rfl U.out.map pn rfl ar.out true HD.out _ HV.out ?_) | (at_len; refine fA _ rfl _ _ rfl Tryz.underlying116 _ _ _ _ rfl U.out.map ?_) | go_in)
           go_region;go_wp2;go_ret2;exact ⟨((BZ.alloc (by have:=BZ.size; exact this) _)).drew,.inl ⟨c4.out,_,rfl⟩⟩
          ·have bn:a+1 < (aN rs).length:=by omega
           obtain ⟨am,aM⟩:=a6.out (a+1) (by simp only [DL]; rw [HA.out]; rfl) (by rw [← b3.out]; exact aL) bn;have cw:=η am
           have aR:Hid (s0 < (out.set x (a+1)).sum):=η (by
            rw [HX.out] at *;cases m3
            ·have:=(a0.out rfl).1; omega
            ·have:=ac.out rfl; omega)
           have ag:Hid (qA w rs n g (out.set x (a+1)) ((wr.setCell ⟨g,x,none⟩ (.int .i64 (a+1))).alloc (.cells #[.bool true,.string pn,.slice Ag a3.length cg] 42))):=η ((a4.out.set x (a+1) am).later (ζ));have bo:Hid (((wr.setCell ⟨g,x,none⟩ (.int .i64 (a+1))).alloc (.cells #[.bool true,.string pn,.slice Ag a3.length cg] 42)).cell? ⟨rb,0,none⟩=some (.string nm)):=η (ξ (ζ) (by rw [World.cell?_of_block (w:=wr) (π _ _ _ _ c3)]; exact C9.out));clear aa ab a6 av am aM
           go_wp2_with (first | (at_lookup; refine bZ _ rfl _ _ _ rfl Tryz.underlying116 _ _ _ _ rfl U.out.map pn rfl ar.out true HD.out _ HV.out ?_) | (at_len; refine fA _ rfl _ _ rfl Tryz.underlying116 _ _ _ _ rfl U.out.map ?_) | go_in)
           go_roundw
           case rel=>exact ⟨true,_,j+1,a5.out,rfl,by go_num,ag.out,fun e=>by simp at e,fun _=>aR.out,bo.out⟩
           case measure=>have:=a5.out; simp [intOf]; omega
       ·have HD:Hid (decide (pn ∈ aN rs)=false):=η (decide_eq_false hL)
        have HV:Hid ((if pn ∈ aN rs then yV (aN rs) pn else 0)=0):=η (if_neg hL);have cx:=η fun e=>aa e fun hh=>absurd (jK.2 hh) hL
        clear hL aa ab a6
        go_wp2_with (first | (at_lookup; refine bZ _ rfl _ _ _ rfl Tryz.underlying116 _ _ _ _ rfl U.out.map pn rfl ar.out false HD.out _ HV.out ?_) | go_in)
        go_roundw
        case rel=>exact ⟨m3,out,j+1,a5.out,rfl,by go_num,U.out,fun e=>⟨(a0.out e).1,(a0.out e).2.1,cx.out (a0.out e).2.2⟩,ac.out,C8.out⟩
        case measure=>have:=a5.out; simp [intOf]; omega
      ·have he:j=body.length:=by omega
       have cr:¬ (j:Int) < (body.length:Int):=by omega
       have HZ:Hid (m3=false→out.sum=s0∧xH rs out (k+1)):=η fun e=>by
        obtain ⟨q1,q2,q3⟩:=a8 e;refine ⟨q1,cq.out out q2 fun p hp=>q3 p ?_⟩;rw [he,ϕ ν]; exact hp
       have U:=η I;have ac:=η a9;clear a8 a9 I he;go_wp2;go_roundw
       case rel=>exact ⟨m3,out,k+1,aq.out,rfl,by go_num,U.out,HZ.out,ac.out⟩
       case measure=>have:=aq.out; simp [intOf]; omega
    ·have he:k=rs.length:=by omega
     have b9:¬ (k:Int) < (rs.length:Int):=by omega
     have cy:qA w rs n g out wr:=I;have HQ:Hid (ES wr g (aN rs).length=out.sum∧out.sum≤(aN rs).length * (aN rs).length):=η ⟨by rw [← I.lv.len]; exact Ij I.blk,I.lv.Ji⟩;have U:=η I;have ac:=η a9;have a0:Hid (m=false→out.sum=s0∧xH rs out rs.length):=η (by rw [← he]; exact a8);clear a8 a9 I he cy;go_wp2;go_roundw
     case rel=>exact ⟨m,out,rfl,U.out,fun e=>(a0.out e).2⟩
     case measure=>
      have q1:=HQ.out;have q2:=cn.out;have q3:=ac.out;have q4:=a0.out;cases m
      ·have:=(q4 rfl).1
       simp [Zd]; omega
      ·have:=q3 rfl
       simp [Zd]; omega
structure D.nV (w:World) (rs:List Ru) (out:List Nat) (wr:World):Prop where
 blk:wr.heap[w.heap.size]? = some (.cells (F9 out) 3 (0,0))
 len:out.length=rs.length
 bel:Below w.heap.size w wr
theorem D.nV.later {w:World} {rs:List Ru} {out:List Nat} {wr w':World} (h:nV w rs out wr) (hb:Below wr.heap.size wr w'):nV w rs out w':=
 ⟨(hb.block _ (ψ h.blk)).trans h.blk,h.len,h.bel.trans (hb.mono h.bel.size)⟩
theorem D.nV.drewN {w:World} {rs:List Ru} {out:List Nat} {wr:World} (h:nV w rs out wr) (n:Nat):nV w rs out (wr.drewN n):=⟨h.blk,h.len,below_drewN h.bel n⟩
theorem D.nV.set {w:World} {rs:List Ru} {out:List Nat} {wr:World} (h:nV w rs out wr) (i v:Nat):nV w rs (out.set i v) (wr.setCell ⟨w.heap.size,i,none⟩ (.int .i64 (v:Nat))):=
 ⟨by rw [← Jw]; exact bY h.blk,by rw [List.length_set]; exact h.len,h.bel.setCell ν _⟩
theorem D.nV.at {w:World} {rs:List Ru} {out:List Nat} {wr:World} (h:nV w rs out wr) {i:Nat} (y:i < rs.length):wr.cell? ⟨w.heap.size,i,none⟩=some (.int .i64 (iZ out i:Nat)):=by
 rw [ai h.blk]; exact EQ (by rw [h.len]; exact y)
theorem D.nV.free {w:World} {rs:List Ru} {out:List Nat} {wr:World} (h:nV w rs out wr) (o:Nat):wr.frozen? ⟨w.heap.size,o,none⟩=false:=ax h.blk
theorem D.PG {out:List Nat} {i v c d:Nat} (h:∀ x,iZ out x≤c) (hv:v≤d) (hc:c≤d):∀ x,iZ (out.set i v) x≤d:=fun x=>by
 by_cases y:i < out.length
 ·rw [qh y]
  split
  ·exact hv
  ·exact τ (h x) hc
 ·rw [List.set_eq_of_length_le (by omega)]; exact τ (h x) hc
theorem D.Iz {rs:List Ru} {i:Nat} (h:i < rs.length):dQ rs i=rs[i]:=by unfold dQ; rw [List.getD_eq_getElem?_getD,Ψ h]; rfl
theorem D.Fh {β:Type} (f:β→Nat→β) (b:β) (k:Nat):(List.range (k+1)).foldl f b=f ((List.range k).foldl f b) k:=by rw [List.range_succ,List.foldl_append]; rfl
theorem D.SH {α β:Type} (f:β→α→β) (b:β) (xs:List α) (k:Nat) (h:k < xs.length):(xs.take (k+1)).foldl f b=f ((xs.take k).foldl f b) xs[k]:=by rw [ρ h,List.foldl_append]; rfl
theorem zf (rs:List Ru) (v:Value) (bs:List Nat) (w:World) (h:dW w [v] rs bs) (hf:rs.length≤8) (hok:rs.all eY=true):
  Calls Tryz.prog 109 #[v] w fun e w'=>Below w.heap.size w w'∧e=.returned (.slice (some ⟨w.heap.size,0,none⟩) rs.length rs.length)∧nV w rs (aA rs) w'∧∀ i,iZ (aA rs) i≤1000000:=by
 obtain ⟨Ad,cap,rfl,hl,hm⟩:=aj h;have bX:=ay (τ hl hm);have b2:=fun w'=>run_make_row' (P:=Tryz.prog) 49 3 (.int .i64 0) 8 Tryz.underlying49 D9 rfl .i64 .i64 rs.length (by omega) (by omega) w'
 simp only [ER] at b2;have b3:Hid (nV w rs (AU rs 0) (w.alloc (.cells (F9 (List.replicate rs.length 0)) 3))):=η ⟨ω _ _,by simp [AU],ζ⟩;have b5:Hid (∀ x,iZ (AU rs 0) x≤256 * 0):=η fun x=>by unfold AU; rw [EU]; omega
 obtain ⟨N1,ar⟩:∃ N1:Nat,N1=(rs.length+1) * (rs.length+2):=⟨_,rfl⟩;have hmul:((rs.length:Int)+1) * ((rs.length:Int)+2)=(N1:Int):=by rw [ar]; simp
 have bB:N1≤90:=by rw [ar]; exact Nat.mul_le_mul (show rs.length+1≤9 by omega) (show rs.length+2≤10 by omega)
 have b6:Hid (aA rs=AU rs N1):=η (by rw [ar]; rfl);have bh:=η hok;have bE:(rs.length:Int)≤8:=by omega
 clear hl hm hok ar
 go_enter Tryz.func109,Tryz.ntmps109
 go_wp2;generalize w.alloc (.cells (F9 (List.replicate rs.length 0)) 3)=w0 at *;clear b2
 go_loopw [4] (fun i wr=>∃ (m:Nat) (out:List Nat),m≤N1∧i=.int .i64 m∧out=AU rs m∧nV w rs out wr∧∀ x,iZ out x≤256 * m) (fun i _=>N1 - (intOf i).toNat)
 case atStart=>exact ⟨0,_,ε,rfl,rfl,b3.out,b5.out⟩
 case round=>
  obtain ⟨m,out,hm,rfl,ho,y,hmx⟩:=hrel;clear b3 b5;by_cases bj:m < N1
  ·have c3:(0:Int)≤(m:Int):=by omega
   have bl:(m:Int) < (N1:Int):=by omega
   have HI:=η y;have I:=η hmx;have HO:=η ho;clear ho y hmx;go_wp2
   go_loopw [5] (fun v wr=>∃ (i:Nat) (o2:List Nat),i≤rs.length∧v=.int .i64 i∧o2=(List.range i).foldl (Rq rs) out∧nV w rs o2 wr∧∀ x,iZ o2 x≤256 * m+32 * i) (fun i _=>rs.length - (intOf i).toNat)
   case atStart=>exact ⟨0,out,ε,rfl,rfl,HI.out,I.out⟩
   case round=>
    clear HI I;obtain ⟨i,o2,hi,rfl,ho,y,hmx⟩:=hrel;by_cases a5:i < rs.length
    ·obtain ⟨b0,o0,Ai,ci,Bi,di,c4,rfl,_,i0,i1,i2,aD,_⟩:=iI h a5
     have bn:=η (Fh (Rq rs) out i);obtain ⟨_,c5,_,_,aE⟩:=iW aD;have bo:=η aE;have bL:=(kJ (ό.1 bh.out _ (δ a5))).1;have bp:=η (Iz a5);have c6:(0:Int)≤(i:Int):=by omega
     have bq:(i:Int) < (rs.length:Int):=by omega
     have HI:=η y;have I:=η hmx;have br:=η ho;have a7:=η a5;clear aD aE ho y hmx;generalize rs[i]=ri at *;clear a5;obtain ⟨⟨hin,c7⟩,bi⟩:=ri;dsimp only at *;go_wp2
     go_loopw [6] (fun v wr=>∃ (k:Nat) (o3:List Nat),k≤rs.length∧v=.int .i64 k∧o3=(List.range k).foldl (yB rs i) o2∧nV w rs o3 wr∧∀ x,iZ o3 x≤256 * m+32 * i+4 * k) (fun i _=>rs.length - (intOf i).toNat)
     case atStart=>exact ⟨0,o2,ε,rfl,rfl,HI.out,I.out⟩
     case round=>
      clear HI I;obtain ⟨k,o3,c8,rfl,ho,y,hmx⟩:=hrel;by_cases af:k < rs.length
      ·obtain ⟨b9,o9,Ak,ck,Bk,dk,c9,e9,_,k0,k1,k2,b7,_⟩:=iI h af
       obtain ⟨rfl,rfl⟩:b0=b9∧o0=o9:=by simpa using e9
       have a5:=a7.out;have j0:=ξ y.bel i0;have j2:=ξ y.bel i2;have I2:=η i2;have K0:=η k0;replace k0:=ξ y.bel k0;have bt:=η (Fh (yB rs i) o2 k);have bu:=η (Iz af);have a1:=y.at af;have a2:=y.at a5;have fz:=y.free i;have av:=hmx k;have aw:=hmx i;have ca:(0:Int)≤(k:Int):=by omega
       have bv:(k:Int) < (rs.length:Int):=by omega
       have HI:=η y;have I:=η hmx;have bw:=η ho;have ac:=η af;clear b7 ho y hmx e9 k1 k2;generalize rs[k]=rk at *;clear af a5;obtain ⟨⟨hk,cb⟩,bk⟩:=rk;dsimp only at *;obtain ⟨a,ha⟩:∃ a,a=iZ o3 k:=⟨_,rfl⟩;obtain ⟨b,hb⟩:∃ b,b=iZ o3 i:=⟨_,rfl⟩;rw [← ha] at a1 av;rw [← hb] at a2 aw;have HA:=η ha;have a3:=η hb;clear ha hb
       go_upto_region 11 with (fail)
       go_cut [59] from 30 to 121 (fun c wx=>c=.bool (decide (hk=hin) && decide (b < a))∧nV w rs o3 wx)
       case first=>
        skip
        cases hs:(hk.toList == hin.toList)
        ·have HD:Hid ((decide (hk=hin) && decide (b < a))=false):=η (by rw [← lu,hs]; rfl)
         go_quiet (fail)
         go_wp2
         go_meet
         case rel=>exact ⟨by rw [HD.out],HI.out.drewN _⟩
        ·by_cases J:b < a
         ·have HD:Hid ((decide (hk=hin) && decide (b < a))=true):=η (by rw [← lu,hs]; simp [J])
          have ag:(b:Int) < (a:Int):=by omega
          clear J
          go_quiet (fail)
          go_wp2
          go_meet
          case rel=>exact ⟨by rw [HD.out],HI.out.drewN _⟩
         ·have HD:Hid ((decide (hk=hin) && decide (b < a))=false):=η (by rw [← lu,hs]; simp [J])
          have ag:¬ (b:Int) < (a:Int):=by omega
          clear J
          go_quiet (fail)
          go_wp2
          go_meet
          case rel=>exact ⟨by rw [HD.out],HI.out.drewN _⟩
       case rest=>
        obtain ⟨rfl,y⟩:=hcut;clear a1 a2 fz HI j0 j2 k0;have a1:=y.at ac.out;have a2:=y.at a7.out;have fz:=y.free i;rw [← HA.out] at a1;rw [← a3.out] at a2;have HI:=η y;have bx:w.heap.size < wc.heap.size:=ψ y.blk;clear y;obtain ⟨c,hc⟩:∃ c,c=(decide (hk=hin) && decide (b < a)):=⟨_,rfl⟩;rw [← hc];have HC:=η hc;clear hc
        go_upto_if 59 with (fail)
        go_cut [] from 30 to 121 (fun wx=>nV w rs (oh hin hk i k o3) wx)
        case first=>
         cases c
         ·have am:Hid (oh hin hk i k o3=o3):=η (by
           unfold oh; rw [if_neg]; rintro ⟨e,h⟩; have:=HC.out; rw [e,a3.out,HA.out] at this; simp at this; omega)
          go_wp2
          go_meet
          case rel=>rw [am.out]; exact HI.out
         ·have am:Hid (oh hin hk i k o3=o3.set i a):=η (by
           have:=HC.out.symm;simp only [ο,decide_eq_true_eq] at this
           unfold oh; rw [if_pos ⟨this.1,by rw [← HA.out,← a3.out]; exact this.2⟩,HA.out])
          have bO:=a7.out;have bR:=ac.out;go_wp2
          go_meet
          case rel=>rw [am.out]; exact HI.out.set i a
        case rest=>
         have aL:=η hcut
         have ao:Hid (∀ x,iZ (oh hin hk i k o3) x≤256 * m+32 * i+4 * k):=η (by
          unfold oh; split
          ·exact PG I.out (I.out k) ν
          ·exact I.out)
         clear hcut a1 a2 fz HI;obtain ⟨o4,aM⟩:∃ o4,o4=oh hin hk i k o3:=⟨_,rfl⟩;have am:=η aM.symm;rw [← aM] at aL ao;clear aM;go_wp2
         go_loopw [7] (fun v wr=>∃ (j:Nat) (out:List Nat),j≤bi.length∧v=.int .i64 j∧out=(bi.take j).foldl (lg rs.length hk i k) o4∧nV w rs out wr∧∀ x,iZ out x≤256 * m+32 * i+4 * k+j) (fun i _=>bi.length - (intOf i).toNat)
         case atStart=>exact ⟨0,_,ε,rfl,rfl,aL.out,ao.out⟩
         case round=>
          clear aL ao I av aw HA a3;obtain ⟨j,out,hj,rfl,ho,y,hmx⟩:=hrel;have j2:=ξ y.bel I2.out;by_cases az:j < bi.length
          ·have k0:=ξ y.bel K0.out
           have cc:b0 < wr.heap.size:=lt_of_cell k0;obtain ⟨b4,o5,Ag,cg,bg,rfl,_,f0,f1,f2,bz,_⟩:=iV bo.out az;replace f0:=ξ y.bel f0;replace f1:=ξ y.bel f1;replace f2:=ξ y.bel f2;have cd:(0:Int)≤(j:Int):=by omega
           have bA:(j:Int) < (bi.length:Int):=by omega
           have a8:=η (SH (lg rs.length hk i k) o4 bi j az);have hA:Below wr.heap.size wr (wr.alloc (.cells #[.bool bi[j].no,.string bi[j].atom.name,.slice Ag bi[j].atom.args.length cg] 42)):=ζ;have a1:=y.at ac.out;have a2:=y.at a7.out;have fz:=y.free i;have av:=hmx k;have aw:=hmx i;have b8:=ac.out;have bc:=a7.out;have a9:=η (y.later hA);have aa:=η y;have I:=η hmx;have ab:=η ho;have bx:w.heap.size < wr.heap.size:=ψ y.blk;clear bz ho y hmx hA;have a0:=η az;generalize bi[j]=p at *;clear az;obtain ⟨no,⟨pn,U⟩⟩:=p;dsimp only at *;obtain ⟨a,ha⟩:∃ a,a=iZ out k:=⟨_,rfl⟩;obtain ⟨b,hb⟩:∃ b,b=iZ out i:=⟨_,rfl⟩;rw [← ha] at a1 av;rw [← hb] at a2 aw;have HA:=η ha;have a3:=η hb;clear ha hb b8 bc;cases hq:(pn.toList == hk.toList)
           ·have a4:Hid (lg rs.length hk i k out ⟨no,⟨pn,U⟩⟩=out):=η (by unfold lg; rw [if_neg]; intro e; have e:pn=hk:=e; rw [e] at hq; simp at hq)
            clear aa;go_wp2
            go_quiet (fail)
            go_wp2;go_roundw
            case rel=>exact ⟨j+1,out,a0.out,by go_num,by rw [a8.out,← ab.out,a4.out],a9.out.drewN _,fun x=>τ (I.out x) (by omega)⟩
            case measure=>have:=a0.out; simp [intOf]; omega
           ·have ae:Hid (pn=hk):=η (by have:=lu pn hk; rw [hq] at this; exact of_decide_eq_true this.symm)
            cases no
            ·by_cases J:b < a
             ·have bf:(b:Int) < (a:Int):=by omega
              by_cases a6:b≤rs.length
              ·have aq:(b:Int)≤(rs.length:Int):=by omega
               have a4:Hid (lg rs.length hk i k out ⟨false,⟨pn,U⟩⟩=out.set i (a)):=η (by
                unfold lg; rw [if_pos ae.out,if_pos ⟨by simp only [DL]; rw [← HA.out,← a3.out]; simpa using J,by rw [← a3.out]; exact a6⟩]; simp only [DL]; rw [HA.out]; rfl)
               have aR:Hid (∀ x,iZ (out.set i (a)) x≤256 * m+32 * i+4 * k+(j+1)):=η (PG I.out (by have:=I.out k; rw [← HA.out] at this; omega) (by omega));clear aa J a6;go_wp2
               go_quiet (fail)
               have b1:=η ((a9.out.drewN nq).set i (a));go_wp2;go_roundw
               case rel=>exact ⟨j+1,_,a0.out,by go_num,by rw [a8.out,← ab.out,a4.out],b1.out,aR.out⟩
               case measure=>have:=a0.out; simp [intOf]; omega
              ·have aq:¬ (b:Int)≤(rs.length:Int):=by omega
               have a4:Hid (lg rs.length hk i k out ⟨false,⟨pn,U⟩⟩=out):=η (by
                unfold lg; rw [if_pos ae.out,if_neg fun h=>a6 (by have:=h.2; rw [← a3.out] at this; exact this)])
               clear aa J a6;go_wp2
               go_quiet (fail)
               go_wp2;go_roundw
               case rel=>exact ⟨j+1,out,a0.out,by go_num,by rw [a8.out,← ab.out,a4.out],a9.out.drewN _,fun x=>τ (I.out x) (by omega)⟩
               case measure=>have:=a0.out; simp [intOf]; omega
             ·have ag:¬ (b:Int) < (a:Int):=by omega
              have a4:Hid (lg rs.length hk i k out ⟨false,⟨pn,U⟩⟩=out):=η (by
                unfold lg; rw [if_pos ae.out,if_neg fun h=>J (by have:=h.1; simp only [DL] at this; rw [← HA.out,← a3.out] at this; simpa using this)])
              clear aa J;go_wp2
              go_quiet (fail)
              go_wp2;go_roundw
              case rel=>exact ⟨j+1,out,a0.out,by go_num,by rw [a8.out,← ab.out,a4.out],a9.out.drewN _,fun x=>τ (I.out x) (by omega)⟩
              case measure=>have:=a0.out; simp [intOf]; omega
            ·by_cases J:b < a+1
             ·have bf:(b:Int) < (a:Int)+1:=by omega
              by_cases a6:b≤rs.length
              ·have aq:(b:Int)≤(rs.length:Int):=by omega
               have a4:Hid (lg rs.length hk i k out ⟨true,⟨pn,U⟩⟩=out.set i (a+1)):=η (by
                unfold lg; rw [if_pos ae.out,if_pos ⟨by simp only [DL]; rw [← HA.out,← a3.out]; simpa using J,by rw [← a3.out]; exact a6⟩]; simp only [DL]; rw [HA.out]; rfl)
               have aR:Hid (∀ x,iZ (out.set i (a+1)) x≤256 * m+32 * i+4 * k+(j+1)):=η (PG I.out (by have:=I.out k; rw [← HA.out] at this; omega) (by omega));clear aa J a6;go_wp2
               go_quiet (fail)
               have b1:=η ((a9.out.drewN nq).set i (a+1));go_wp2;go_roundw
               case rel=>exact ⟨j+1,_,a0.out,by go_num,by rw [a8.out,← ab.out,a4.out],b1.out,aR.out⟩
               case measure=>have:=a0.out; simp [intOf]; omega
              ·have aq:¬ (b:Int)≤(rs.length:Int):=by omega
               have a4:Hid (lg rs.length hk i k out ⟨true,⟨pn,U⟩⟩=out):=η (by
                unfold lg; rw [if_pos ae.out,if_neg fun h=>a6 (by have:=h.2; rw [← a3.out] at this; exact this)])
               clear aa J a6;go_wp2
               go_quiet (fail)
               go_wp2;go_roundw
               case rel=>exact ⟨j+1,out,a0.out,by go_num,by rw [a8.out,← ab.out,a4.out],a9.out.drewN _,fun x=>τ (I.out x) (by omega)⟩
               case measure=>have:=a0.out; simp [intOf]; omega
             ·have ag:¬ (b:Int) < (a:Int)+1:=by omega
              have a4:Hid (lg rs.length hk i k out ⟨true,⟨pn,U⟩⟩=out):=η (by
                unfold lg; rw [if_pos ae.out,if_neg fun h=>J (by have:=h.1; simp only [DL] at this; rw [← HA.out,← a3.out] at this; simpa using this)])
              clear aa J;go_wp2
              go_quiet (fail)
              go_wp2;go_roundw
              case rel=>exact ⟨j+1,out,a0.out,by go_num,by rw [a8.out,← ab.out,a4.out],a9.out.drewN _,fun x=>τ (I.out x) (by omega)⟩
              case measure=>have:=a0.out; simp [intOf]; omega
          ·have he:j=bi.length:=by omega
           have bA:¬ (j:Int) < (bi.length:Int):=by omega
           have HZ:Hid (out=(List.range (k+1)).foldl (yB rs i) o2∧nV w rs out wr∧∀ x,iZ out x≤256 * m+32 * i+4 * (k+1)):=η ⟨by
            rw [bt.out,← bw.out,ho,he,ϕ ν];unfold yB;rw [bp.out,bu.out];show _=List.foldl _ (oh hin hk i k o3) bi
            rw [am.out],y,fun x=>τ (hmx x) (by omega)⟩
           clear ho y hmx he;go_wp2;go_roundw
           case rel=>exact ⟨k+1,out,ac.out,by go_num,HZ.out.1,HZ.out.2.1,HZ.out.2.2⟩
           case measure=>have:=ac.out; simp [intOf]; omega
      ·have he:k=rs.length:=by omega
       have bv:¬ (k:Int) < (rs.length:Int):=by omega
       have HZ:Hid (o3=(List.range (i+1)).foldl (Rq rs) out∧nV w rs o3 wr∧∀ x,iZ o3 x≤256 * m+32 * (i+1)):=η ⟨by rw [bn.out,← br.out,ho,he]; rfl,y,fun x=>τ (hmx x) (by omega)⟩;have a5:=a7.out;clear ho y hmx he;go_wp2;go_roundw
       case rel=>exact ⟨i+1,o3,a7.out,by go_num,HZ.out.1,HZ.out.2.1,HZ.out.2.2⟩
       case measure=>have:=a7.out; simp [intOf]; omega
    ·have he:i=rs.length:=by omega
     have bq:¬ (i:Int) < (rs.length:Int):=by omega
     have HZ:Hid (o2=AU rs (m+1)∧nV w rs o2 wr∧∀ x,iZ o2 x≤256 * (m+1)):=η ⟨by rw [ho,he,HO.out]; rfl,y,fun x=>τ (hmx x) (by omega)⟩;clear ho y hmx he;go_wp2;go_roundw
     case rel=>exact ⟨m+1,o2,bj,by go_num,HZ.out.1,HZ.out.2.1,HZ.out.2.2⟩
     case measure=>simp [intOf]; omega
  ·have he:m=N1:=by omega
   have bl:¬ (m:Int) < (N1:Int):=by omega
   have HZ:Hid (nV w rs (aA rs) wr∧∀ i,iZ (aA rs) i≤1000000):=η (by rw [b6.out,← he,← ho]; exact ⟨y,fun x=>τ (hmx x) (by omega)⟩);clear ho y hmx he;go_wp2;go_ret;exact ⟨HZ.out.1.bel,rfl,HZ.out⟩
theorem SI (t:T) (w:World):
  Calls Tryz.prog 129 #[.agg #[.bool t.var,.string t.name]] w fun e w'=>e=.returned (.bool t.var)∧Below w.heap.size w w':=by
 go_enter Tryz.func129,Tryz.ntmps129
 go_wp2;go_ret;exact ⟨rfl,ζ⟩
def Found (b:Bool) (w:World) (e:Ending) (w':World):Prop:=(∃ z:Int,e=.returned (.int .i64 z)∧decide (0≤z)=b)∧Below w.heap.size w w'
theorem JF (y:List T) (v:Value) (bs:List Nat) (w:World) (h:gG w [v] y bs):
  Calls Tryz.prog 185 #[v,.func (.func 129) #[] #[]] w (Found (kU y) w):=by
 obtain ⟨Ad,cap,rfl,hl,hm⟩:=aj h;have a0:=ay (τ hl hm);clear hm
 go_enter Tryz.func185,Tryz.ntmps185
 go_wp2
 go_loopw [8] (fun i wr=>∃ k:Nat,k≤y.length∧i=.int .i64 k∧kU (y.take k)=false∧Below w.heap.size w wr) (fun i _=>y.length - (intOf i).toNat)
 case atStart=>exact ⟨0,ε,rfl,rfl,ϑ⟩
 case round=>
  obtain ⟨k,hk,rfl,I,hb⟩:=hrel;have HA:=η I;clear I;by_cases J:k < y.length
  ·obtain ⟨b,o,rfl,_,c0,c1,_⟩:=fJ (aQ.below h hb) J
   clear h
   go_wp2_with fail
   refine (SI y[k] _).mono ?_;rintro e w' ⟨rfl,U⟩;have B':=hb.trans (U.mono hb.size);cases hv:y[k].var
   ·have HV:=η hv
    go_wp2;go_roundw
    case rel=>exact ⟨k+1,by omega,by go_num,by rw [BV y k J,HA.out,HV.out]; rfl,B'⟩
    case measure=>simp [intOf]; omega
   ·have HV:=η (Ed y k J hv)
    go_wp2;go_ret;exact ⟨⟨_,rfl,by rw [HV.out]; simp⟩,B'⟩
  ·have he:=η (show k=y.length by omega)
   go_wp2;go_ret;exact ⟨⟨_,rfl,by have:=HA.out; rw [he.out,ϕ ν] at this; rw [this]; rfl⟩,hb⟩
theorem DV (y:List T) (v:Value) (bs:List Nat) (w:World) (h:gG w [v] y bs):
  Calls Tryz.prog 128 #[v,.func (.func 129) #[] #[]] w fun e w'=>e=.returned (.bool (kU y))∧Below w.heap.size w w':=by
 have J:=JF y v bs w h;clear h
 go_enter Tryz.func128,Tryz.ntmps128
 go_wp2_with fail
 refine J.mono ?_;rintro e w' ⟨⟨z,rfl,I⟩,hb⟩;have U:=η I;clear I;go_wp2;go_ret;exact ⟨aH U.out,hb⟩
theorem PI (a:A) (c0 c1:Value) (bs:List Nat) (w:World) (h:aJ w [c0,c1] a bs):
  Calls Tryz.prog 65 #[.agg #[c0,c1]] w fun e w'=>e=.returned (.bool (dI a))∧Below w.heap.size w w':=by
 obtain ⟨Ad,cap,rfl,rfl⟩:=bG h;have k1:=fun w' (hb:Below w.heap.size w w')=>uJ a _ _ bs w' (ak.below h hb)
 have k2:=fun w' (hb:Below w.heap.size w w')=>DV a.args _ bs w' (dM (ak.below h hb))
 unfold dI;generalize aZ a=x at *;generalize kU a.args=y at *;clear h;have J:=(Below.refl w.heap.size w).alloc ν (.cells #[.string a.name,.slice Ad a.args.length cap] 33)
 go_enter Tryz.func65,Tryz.ntmps65
 go_wp2_with fail
 refine (k1 _ J).mono ?_;rintro e w1 ⟨rfl,I⟩;have U:=J.trans (I.mono J.size);have x1:w1.cell? ⟨w.heap.size,1,none⟩=some (.slice Ad a.args.length cap):=ξ I (by go_simp);clear k1 J;cases x
 ·go_wp2
  go_ret;exact ⟨rfl,U⟩
 ·go_wp2_with fail
  refine (k2 _ U).mono ?_;rintro e w2 ⟨rfl,a0⟩;go_wp2;go_ret;exact ⟨aH (by simp),U.trans (a0.mono U.size)⟩
theorem SK:(Tryz.prog.info? 33).map (fun i=>(i.zero,i.size,i.bytes))=some (some (.agg #[.string ⟨#[]⟩,.slice none 0 0]),2,40):=by kernel_rfl
def D.MV (xs:List A) (s:ByteArray):List A:=xs.filter fun t=>decide (t.name=s)
theorem D.Xx (xs:List A) (s:ByteArray) (k:Nat) (h:k < xs.length):MV (xs.take (k+1)) s=if xs[k].name=s then MV (xs.take k) s ++ [xs[k]] else MV (xs.take k) s:=by
 unfold MV;rw [ρ h,List.filter_append]
 by_cases y:xs[k].name=s <;> simp [y]
theorem MW (xs:List A) (s:ByteArray) (v:Value) (bs:List Nat) (w:World) (h:aC w [v] xs bs) (hn:xs.length≤16777216):
  Calls Tryz.prog 23 #[v,.string s] w (Reads aC (MV xs s) w.heap.size w):=by
 obtain ⟨Ad,cap,rfl,hl,hm⟩:=aj h;obtain ⟨i0,hi,a9,aa,ab⟩:=info_parts SK;clear hm;have hA:Below w.heap.size w (w.alloc (.cells #[] 33)):=ζ;have U:=aX.empty (n:=2) (R:=aJ) (e:=33) (ω w (.cells #[] 33)) (Nat.le_refl w.heap.size);have HH:=η h;clear h
 go_enter Tryz.func23,Tryz.ntmps23
 go_wp2
 go_loopw [5,6] (fun v i wr=>∃ (k m:Nat) (A:Option Addr) (cp:Nat) (L:List Value) (b2:List Nat),k≤xs.length∧i=.int .i64 k∧v=.slice A m cp∧m=(MV (xs.take k) s).length∧aX 2 aJ w.heap.size 33 wr (.slice A m cp) L (MV (xs.take k) s) b2∧Below w.heap.size w wr) (fun _ i _=>xs.length - (intOf i).toNat)
 case atStart=>exact ⟨0,0,_,_,_,_,ε,rfl,rfl,rfl,U,hA⟩
 case round=>
  obtain ⟨k,m,At,ct,L,b2,hk,rfl,rfl,a0,hC,hb⟩:=hrel;clear U hA;have ar:m≤16777216:=by have h1:(MV (xs.take k) s).length≤(xs.take k).length:=List.length_filter_le _ _; rw [List.length_take] at h1; omega
  have HM:=η a0;clear a0;by_cases y:k < xs.length
  ·have I:=η y
   obtain ⟨b,o,Ae,ce,bk,rfl,-,f0,f1,a1,a2⟩:=dL (au.below HH.out hb) y;have av:(0:Int)≤(k:Int):=by omega
   have ac:(k:Int) < (xs.length:Int):=by omega
   have a3:=η (Xx xs s k y);have ae:Hid (∀ c ∈ bk,c < w.heap.size):=η fun c hc=>au.lt HH.out c (a2 c hc)
   have HC:=η hC;have HB:=η hb;have a4:=η a1;clear hC a1 a2 hk hb;generalize xs[k]=a at *;clear y;cases hs:(a.name.toList == s.toList)
   ·have HT:Hid (MV (xs.take (k+1)) s=MV (xs.take k) s):=η (by rw [a3.out,if_neg (by rw [lu] at hs; simpa using hs)])
    go_wp2;go_roundw
    case rel=>exact ⟨k+1,m,At,ct,L,b2,I.out,by go_num,rfl,by rw [HT.out]; exact HM.out,by rw [HT.out]; exact HC.out,HB.out⟩
    case measure=>have:=I.out; simp [intOf]; omega
   ·have HT:Hid (MV (xs.take (k+1)) s=MV (xs.take k) s ++ [a]):=η (by rw [a3.out,if_pos (by rw [lu] at hs; simpa using hs)])
    have J:Below wr.heap.size wr (wr.alloc (.cells #[.string a.name,.slice Ae a.args.length ce] 33)):=ζ;have a5:=η (HB.out.trans (J.mono HB.out.size));have af:=η (HC.out.below ak J);have HL:=η (aP (ω wr (.cells #[.string a.name,.slice Ae a.args.length ce] 33)));have ag:=η (aT.dJ (n:=2) (R:=aJ) eH (ak.below a4.out J));have HF:Hid (∀ c ∈ bk,(Value.slice At m ct).ownBlock ≠ some c):=η (fun c hc=>aO HC.out.own (ae.out c hc));have a6:Hid ((MV (xs.take k) s).length=m):=η HM.out.symm;clear J a4
    go_wp2_with (at_builtin; refine bU rfl _ _ _ rfl w.heap.size 33 i0 (.agg #[.string ⟨#[]⟩,.slice none 0 0]) 2 40 Tryz.underlying24 hi a9 aa ab rfl (by omega) ak (.slice At m ct) m _ _ _ rfl af.out a6.out (some ⟨wr.heap.size,0,none⟩) 1 1 _ [a] _ rfl ag.out rfl HL.out HF.out (by unfold maxLen; omega) (by omega) w w.heap.size a5.out ν a5.out.size ?_; intro A2 am w2 a7 ao aw _)
    have aq:=η a7;clear a7;go_wp2;go_roundw
    case rel=>exact ⟨k+1,m+1,A2,am,_,_,I.out,by go_num,rfl,by rw [HT.out,χ,a6.out]; rfl,by rw [HT.out]; exact aq.out,ao⟩
    case measure=>have:=I.out; simp [intOf]; omega
  ·have he:k=xs.length:=by omega
   subst he;rw [ϕ ν] at hC;obtain ⟨b5,a8,_⟩:=hC.slice;have ac:¬ (xs.length:Int) < (xs.length:Int):=by omega
   have HS:=η a8;clear hC a8 y hk;go_wp2;go_ret;exact ⟨hb,_,b5,rfl,HS.out⟩
end Go.Proofs.YtkjinanbccloeaaGreatDoor
