/- Of the proof of FnExactDelta: StrI. -/
import Derived.Deep.OwnRows
import Derived.Test.YtiidmgchadagbaaGreatDoorM16
import Derived.Test.YtiidmgchadagbaaGreatDoorM14
set_option linter.unusedVariables false
set_option maxHeartbeats 4000000
set_option maxRecDepth 100000
namespace Go.Proofs.YtiidmgchadagbaaGreatDoor
open Go.RowKit D
attribute [local go_sem ↓] Go.wp_at_zero Go.wp_at_succ
structure D.pV (w:World) (rs:List Ru) (n g:Nat) (out:List Nat) (wr:World):Prop where
 map:iG w.heap.size n (aT rs) (xX (aT rs)) wr
 blk:wr.heap[g]? = some (.cells (DR out) 3 (0,0))
 gt:w.heap.size < g
 bel:Below w.heap.size w wr
 lv:Nc rs out
theorem D.pV.later {w:World} {rs:List Ru} {n g:Nat} {out:List Nat} {wr w':World} (h:pV w rs n g out wr) (hb:Below wr.heap.size wr w'):pV w rs n g out w':=
 ⟨h.map.below hb h.map.lt,(hb.block _ (lt_of_block h.blk)).trans h.blk,h.gt,h.bel.trans (hb.mono h.bel.size),h.lv⟩
theorem D.pV.set {w:World} {rs:List Ru} {n g:Nat} {out:List Nat} {wr:World} (h:pV w rs n g out wr) (i v:Nat) (hl:Nc rs (out.set i v)):pV w rs n g (out.set i v) (wr.setCell ⟨g,i,none⟩ (.int .i64 (v:Nat))):=
 ⟨h.map.setCell (by have:=h.gt; dsimp only; omega) _,by rw [← GR]; exact bZ h.blk,h.gt,h.bel.setCell (by have:=h.gt; dsimp only; omega) _,hl⟩
theorem D.pV.at {w:World} {rs:List Ru} {n g:Nat} {out:List Nat} {wr:World} (h:pV w rs n g out wr) {s:ByteArray} (hs:s ∈ bK rs):wr.cell? ⟨g,(aT rs).idxOf s,none⟩=some (.int .i64 (mW rs out s:Nat)):=by
 rw [ak h.blk];exact CJ (by rw [h.lv.len]; exact wC hs)
theorem D.pV.free {w:World} {rs:List Ru} {n g:Nat} {out:List Nat} {wr:World} (h:pV w rs n g out wr) (o:Nat):wr.frozen? ⟨g,o,none⟩=false:=aB h.blk
theorem D.pV.small {w:World} {rs:List Ru} {n g:Nat} {out:List Nat} {wr:World} (h:pV w rs n g out wr) {s:ByteArray} (hs:s ∈ bK rs):mW rs out s < (aT rs).length:=by
 have:=h.lv.lo _ (by rw [h.lv.len]; exact wC hs);rw [h.lv.len] at this;exact this
def D.WY:Value→Nat
 | .bool true=>1
 | _=>0
theorem yg (rs:List Ru) (v:Value) (bs:List Nat) (w:World) (h:dO w [v] rs bs) (hf:rs.length≤8) (hok:rs.all fC=true):
  Calls Tryz.prog 70 #[v] w fun e w'=>Below w.heap.size w w'∧((lY rs=true∧∃ a,e=.returned (.tuple #[.slice none 0 0,.iface 155 (.pointer (some a))])) ∨
   (lY rs=false∧∃ v' bs',e=.returned (.tuple #[v',.nilIface])∧jD w' [v'] (ax rs) bs'∧New w.heap.size w' bs')):=by
 obtain ⟨Ad,cap,rfl,hl,hm⟩:=af h;have hlm:=au (Nat.le_trans hl hm);have hN8:(aT rs).length≤8:=Nat.le_trans (BK rs) hf;have hmk:=fun w'=>run_make_row' (P:=Tryz.prog) 37 3 (.int .i64 0) 8 Tryz.underlying37 AP rfl .i64 .i64 (aT rs).length (by omega) (by omega) w'
 have hmk2:=fun w'=>run_make_row' (P:=Tryz.prog) 37 3 (.int .i64 0) 8 Tryz.underlying37 AP rfl .i64 .i64 rs.length (by omega) (by omega) w'
 simp only [CO] at hmk hmk2;have HMK:=η hmk2;clear hmk2;have HOK:=η hok;have hp1:=CX rs _ bs w h (by omega);clear hl hm hok
 go_enter Tryz.func70,Tryz.ntmps70
 go_wp2_with fail
 refine hp1.mono ?_;rintro e w1 ⟨rfl,⟨n,hM⟩,hB⟩;clear hp1;have hgt:w.heap.size < w1.heap.size:=hM.lt;have HM:=η hM
 have HI0:Hid (pV w rs n w1.heap.size (List.replicate (aT rs).length 0) (w1.alloc (.cells (DR (List.replicate (aT rs).length 0)) 3))):=η
  ⟨hM.below (B:=w1.heap.size) ((Below.refl _ _).alloc (Nat.le_refl _) _) hM.lt,heap_alloc_new _ _,hgt,hB.trans (((Below.refl _ _).alloc (Nat.le_refl _) _).mono hB.size),Nc.zero rs⟩
 clear hM hB
 go_wp2_with (first | (at_len; refine iy _ rfl _ _ rfl Tryz.underlying85 _ _ _ _ rfl HM.out ?_) | go_in)
 clear HM;obtain ⟨g,hg⟩:∃ g,g=w1.heap.size:=⟨_,rfl⟩;rw [← hg] at HI0 ⊢;clear hg;generalize w1.alloc (.cells (DR (List.replicate (aT rs).length 0)) 3)=w2 at *
 go_loopw [6] (fun mv wr=>∃ (m:Bool) (out:List Nat),mv=.bool m∧pV w rs n g out wr∧(m=false→wE rs out rs.length)) (fun mv wr=>2 * ((aT rs).length * (aT rs).length - CP wr g (aT rs).length)+WY mv)
 case atStart=>exact ⟨true,_,rfl,HI0.out,fun h=>by simp at h⟩
 case round=>
  obtain ⟨m,out,rfl,hI,hsat⟩:=hrel;clear HI0;cases m
  ·have HDN:=η (hI.lv.done (hsat rfl))
   have HI:=η hI;clear hsat hI;have hmk2:=HMK.out;have hB9:Below wr.heap.size wr (wr.alloc (.cells (DR (List.replicate rs.length 0)) 3)):=(Below.refl _ _).alloc (Nat.le_refl _) _;have HI5:=η (HI.out.later hB9);have HB5:Hid ((wr.alloc (.cells (DR (List.replicate rs.length 0)) 3)).heap[wr.heap.size]? = some (.cells (DR (List.replicate rs.length 0)) 3 (0,0))):=η (heap_alloc_new _ _);have hg9:g < wr.heap.size:=lt_of_block HI.out.blk;have hw9:w.heap.size≤wr.heap.size:=HI.out.bel.size;clear hB9;obtain ⟨g2,hg2⟩:∃ g2,g2=wr.heap.size:=⟨_,rfl⟩;rw [← hg2] at HB5 hg9 hw9;go_wp2;rw [← hg2];clear hg2 HI hmk2 HMK hmk;generalize wr.alloc (.cells (DR (List.replicate rs.length 0)) 3)=w5 at *
   go_loopw [87] (fun i wr=>∃ (k:Nat) (o2:List Nat),k≤rs.length∧i=.int .i64 k∧pV w rs n g out wr∧wr.heap[g2]? = some (.cells (DR o2) 3 (0,0))∧o2.length=rs.length∧∀ i,i < k→iP o2 i=iP (ax rs) i) (fun i _=>rs.length - (intOf i).toNat)
   case atStart=>exact ⟨0,_,Nat.zero_le _,rfl,HI5.out,HB5.out,by simp,fun i h=>by omega⟩
   case round=>
    obtain ⟨k,o2,hk,rfl,hI,hb2,hl2,hat⟩:=hrel;clear HI5 HB5;by_cases hlt:k < rs.length
    ·obtain ⟨b0,o0,Ae,ce,Af,cf,bk,rfl,_,d0,d1,d2,hel,_⟩:=gq h hlt
     replace d0:=cell_later hI.bel d0;replace d1:=cell_later hI.bel d1;replace d2:=cell_later hI.bel d2;have hk0:(0:Int)≤(k:Int):=by omega
     have hk1:(k:Int) < (rs.length:Int):=by omega
     have hra:dQ rs k=rs[k]:=by unfold dQ; rw [List.getD_eq_getElem?_getD,List.getElem?_eq_getElem hlt]; rfl
     have HEQ:Hid (mW rs out rs[k].head.name=iP (ax rs) k):=η (by rw [← hra]; exact HDN.out.2 k hlt);have hin:rs[k].head.name ∈ bK rs:=head_mem (List.getElem_mem hlt);have HSZ:Hid (rs[k].head.name.size≤maxLen):=η (by obtain ⟨_,_,_,_,_,hs,_⟩:=hel; exact hs);have a2:=hI.at hin;have hxl:=wC hin;have hav:=hI.small hin;have HD1:Hid ((if rs[k].head.name ∈ aT rs then xX (aT rs) rs[k].head.name else 0)=(((aT rs).idxOf rs[k].head.name:Nat):Int)):=η (if_pos (jr.2 hin));have e2:wr.cell? ⟨g2,k,none⟩=some (.int .i64 (iP o2 k:Nat)):=by rw [ak hb2]; exact CJ (by omega)
     have f2:wr.frozen? ⟨g2,k,none⟩=false:=aB hb2;have hA:Below wr.heap.size wr (wr.alloc (.cells #[.string rs[k].head.name,.slice Ae rs[k].head.args.length ce,.slice Af rs[k].body.length cf] 71)):=(Below.refl _ _).alloc (Nat.le_refl _) _;have HLT:=η hlt;have HI1:=η (hI.later hA);have HI9:=η hI;have HB2:=η hb2;have HL2:=η hl2;have HAT:=η hat;have hgl:g < wr.heap.size:=lt_of_block hI.blk;have hgm:g2 < wr.heap.size:=lt_of_block hb2;clear hel hA hI hb2 hl2 hat hin hra;generalize rs[k]=r at *;clear hlt;obtain ⟨⟨nm,args⟩,body⟩:=r;dsimp only at *;obtain ⟨x,hx⟩:∃ x,x=(aT rs).idxOf nm:=⟨_,rfl⟩;rw [← hx] at HD1 a2 hxl;obtain ⟨b,hb⟩:∃ b,b=mW rs out nm:=⟨_,rfl⟩;rw [← hb] at a2 hav HEQ;have hx0:(0:Int)≤(x:Int):=by omega
     have hx1:(x:Int) < ((aT rs).length:Int):=by omega
     clear hx hb
     have HSET:Hid (pV w rs n g out (wr.setCell ⟨g2,k,none⟩ (.int .i64 b))):=η
      ⟨HI9.out.map.setCell (by dsimp only; have:=HI9.out.gt; omega) _,(Below.heap_setCell _ _ _ _ (by dsimp only; omega)).trans HI9.out.blk,HI9.out.gt,HI9.out.bel.setCell (by dsimp only; omega) _,HI9.out.lv⟩
     have HSB:Hid ((wr.setCell ⟨g2,k,none⟩ (.int .i64 b)).heap[g2]? = some (.cells (DR (o2.set k b)) 3 (0,0))):=η (by rw [← GR]; exact bZ HB2.out);have HSE:=η (HSET.out.later ((Below.refl _ _).alloc (Nat.le_refl _) (.cells #[.string nm,.slice Ae args.length ce,.slice Af body.length cf] 71)));have HSF:Hid (((wr.setCell ⟨g2,k,none⟩ (.int .i64 b)).alloc (.cells #[.string nm,.slice Ae args.length ce,.slice Af body.length cf] 71)).heap[g2]? = some (.cells (DR (o2.set k b)) 3 (0,0))):=η ((Below.heap_alloc _ _ _ (by simpa using hgm)).trans HSB.out)
     go_wp2_with (first | (at_lookup; refine tu _ rfl _ _ _ rfl Tryz.underlying85 _ _ _ _ rfl HI1.out.map nm rfl HSZ.out _ HD1.out ?_) | go_in)
     go_roundw
     case rel=>exact ⟨k+1,_,HLT.out,by go_num,HSE.out,HSF.out,by rw [List.length_set]; exact HL2.out,fun i hi=>by
      rw [o6 (by have:=HL2.out; have:=HLT.out; omega)]
      split
      ·rename_i e; subst e; exact HEQ.out
      ·exact HAT.out i (by omega)⟩
     case measure=>have:=HLT.out; simp [intOf]; omega
    ·have he:k=rs.length:=by omega
     have hk1:¬ (k:Int) < (rs.length:Int):=by omega
     have e9:o2=ax rs:=by
      refine List.ext_getElem (by rw [hl2,gy]) fun i h1 h2=>?_
      have:=hat i (by omega);unfold iP at this;simpa [List.getD_eq_getElem?_getD,List.getElem?_eq_getElem h1,List.getElem?_eq_getElem h2] using this
     subst e9;obtain ⟨bs',h5,h6,h7⟩:=tH hb2 (by rw [hl2]; unfold maxLen; omega);have HZ:Hid (Below w.heap.size w wr∧∃ v' bs',v'=.slice (some ⟨g2,0,none⟩) rs.length rs.length∧jD wr [v'] (ax rs) bs'∧New w.heap.size wr bs'):=η ⟨hI.bel,_,_,rfl,by rw [← hl2]; exact h5,⟨h6,fun b hb=>by rw [h7 b hb]; exact ⟨hw9,_,_,hb2⟩⟩⟩;clear hI hb2 hl2 hat h5 h6 h7 he;go_wp2;go_ret2;obtain ⟨q1,v',b',rfl,q2,q3⟩:=HZ.out;exact ⟨q1,Or.inr ⟨HDN.out.1,.slice (some ⟨g2,0,none⟩) rs.length rs.length,rfl,b',q2,q3⟩⟩
  ·clear hsat
   obtain ⟨s0,hs0⟩:∃ s0,s0=out.sum:=⟨_,rfl⟩;have HS0:Hid (CP wr g (aT rs).length=s0):=η (by rw [hs0,← hI.lv.len]; exact EU hI.blk);have HI:=η hI;have HSO:=η hs0;clear hI hs0;go_wp2
   go_loopw [6,26] (fun mv i wr=>∃ (m:Bool) (out:List Nat) (k:Nat),k≤rs.length∧mv=.bool m∧i=.int .i64 k∧pV w rs n g out wr∧(m=false→out.sum=s0∧wE rs out k)∧(m=true→s0 < out.sum)) (fun _ i _=>rs.length - (intOf i).toNat)
   case atStart=>exact ⟨false,out,0,Nat.zero_le _,rfl,rfl,HI.out,fun _=>⟨HSO.out.symm,wE.zero _ _⟩,fun h=>by simp at h⟩
   case round=>
    obtain ⟨m,out,k,hk,rfl,rfl,hI,hs1,hs2⟩:=hrel;clear HI HSO;by_cases hlt:k < rs.length
    ·obtain ⟨b0,o0,Ae,ce,Af,cf,bk,rfl,_,d0,d1,d2,hel,_⟩:=gq h hlt
     replace d0:=cell_later hI.bel d0;replace d1:=cell_later hI.bel d1;replace d2:=cell_later hI.bel d2;have hk0:(0:Int)≤(k:Int):=by omega
     have hk1:(k:Int) < (rs.length:Int):=by omega
     have hA:Below wr.heap.size wr (wr.alloc (.cells #[.string rs[k].head.name,.slice Ae rs[k].head.args.length ce,.slice Af rs[k].body.length cf] 71)):=(Below.refl _ _).alloc (Nat.le_refl _) _;obtain ⟨_,b2,_,hhd,hbd⟩:=gu hel;have HBO:=η hbd;have HLT:=η hlt;have hbl:(rs[k].body.length:Int)≤4:=by have:=(kV (List.all_eq_true.1 HOK.out _ (List.getElem_mem hlt))).1; omega
     have HMEM:=η (List.getElem_mem hlt);have HSN:Hid (∀ out,wE rs out k→(∀ p ∈ rs[k].body,PN rs out rs[k] p)→wE rs out (k+1)):=η fun out=>wE.snoc hlt
     have HSZ:Hid (rs[k].head.name.size≤maxLen):=η (by obtain ⟨_,_,_,_,_,hs,_⟩:=hel; exact hs);have HI1:=η (hI.later hA);have C8:Hid ((wr.alloc (.cells #[.string rs[k].head.name,.slice Ae rs[k].head.args.length ce,.slice Af rs[k].body.length cf] 71)).cell? ⟨wr.heap.size,0,none⟩=some (.string rs[k].head.name)):=η (by go_simp);have hgl:g < wr.heap.size:=lt_of_block hI.blk;have HS1:=η hs1;have HS2:=η hs2;clear hel hA hhd hbd hI hs1 hs2;generalize rs[k]=r at *;clear hlt;obtain ⟨⟨nm,args⟩,body⟩:=r;dsimp only at *;have hin:nm ∈ bK rs:=head_mem HMEM.out;have HD1:Hid ((if nm ∈ aT rs then xX (aT rs) nm else 0)=(((aT rs).idxOf nm:Nat):Int)):=η (if_pos (jr.2 hin));obtain ⟨x,hx⟩:∃ x,x=(aT rs).idxOf nm:=⟨_,rfl⟩;have hxl:x < (aT rs).length:=by rw [hx]; exact wC hin
     rw [← hx] at HD1;have HX:=η hx;have HIN:=η hin;obtain ⟨rb,hrb⟩:∃ rb,rb=wr.heap.size:=⟨_,rfl⟩;rw [← hrb] at C8 hgl;have hrg:rb ≠ g:=by omega
     clear hx hin
     go_wp2_with (first | (at_lookup; refine tu _ rfl _ _ _ rfl Tryz.underlying85 _ _ _ _ rfl HI1.out.map nm rfl HSZ.out _ HD1.out ?_) | go_in)
     rw [← hrb];generalize wr.alloc (.cells #[.string nm,.slice Ae args.length ce,.slice Af body.length cf] 71)=w3 at *;clear hrb
     go_loopw [6,38] (fun mv i wr=>∃ (m:Bool) (out:List Nat) (j:Nat),j≤body.length∧mv=.bool m∧i=.int .i64 j∧pV w rs n g out wr∧(m=false→out.sum=s0∧wE rs out k∧DZ rs out ⟨⟨nm,args⟩,body⟩ j)∧(m=true→s0 < out.sum)∧wr.cell? ⟨rb,0,none⟩=some (.string nm)) (fun _ i _=>body.length - (intOf i).toNat)
     case atStart=>exact ⟨m,out,0,Nat.zero_le _,rfl,rfl,HI1.out,fun e=>⟨(HS1.out e).1,(HS1.out e).2,DZ.zero _ _ _⟩,HS2.out,C8.out⟩
     case round=>
      clear HI1 HS1 HS2 C8;obtain ⟨m3,out,j,hj,rfl,rfl,hI,hs1,hs2,c8⟩:=hrel;by_cases hlt:j < body.length
      ·obtain ⟨b4,o4,Ag,cg,bg,rfl,_,f0,f1,f2,hel,_⟩:=gJ HBO.out hlt
       replace f0:=cell_later hI.bel f0;replace f1:=cell_later hI.bel f1;replace f2:=cell_later hI.bel f2;have hj0:(0:Int)≤(j:Int):=by omega
       have hj1:(j:Int) < (body.length:Int):=by omega
       have HLJ:=η hlt;have hA:Below wr.heap.size wr (wr.alloc (.cells #[.bool body[j].no,.string body[j].atom.name,.slice Ag body[j].atom.args.length cg] 111)):=(Below.refl _ _).alloc (Nat.le_refl _) _;have HPZ:Hid (body[j].atom.name.size≤maxLen):=η (by obtain ⟨_,_,hs,_⟩:=hel; exact hs);have hsp:DZ rs out ⟨⟨nm,args⟩,body⟩ j→PN rs out ⟨⟨nm,args⟩,body⟩ body[j]→DZ rs out ⟨⟨nm,args⟩,body⟩ (j+1):=DZ.snoc (r:=⟨⟨nm,args⟩,body⟩) hlt;have HER:Hid (body[j].atom.name ∈ bK rs→∀ l,l=mW rs out body[j].atom.name+AO body[j]→(aT rs).length≤l→lY rs=true):=η fun hh l hl hN=>hI.lv.err HMEM.out (p:=body[j]) (List.getElem_mem hlt) hh hl hN
       have HST:Hid (body[j].atom.name ∈ bK rs→∀ l,l=mW rs out body[j].atom.name+AO body[j]→mW rs out nm < l→l < (aT rs).length→Nc rs (out.set x l)∧out.sum < (out.set x l).sum):=η fun hh l hl h1 h2=>by
        rw [HX.out]; exact hI.lv.step (r:=⟨⟨nm,args⟩,body⟩) HMEM.out (p:=body[j]) (List.getElem_mem hlt) hh hl h1 h2
       have HI3:=η (hI.later hA);have HI9:=η hI;have C8:=η (cell_later hA c8);have C9:=η c8;have HS3:=η hs1;have HT3:=η hs2;have hg3:g < wr.heap.size:=lt_of_block hI.blk;have a2:wr.cell? ⟨g,x,none⟩=some (.int .i64 (mW rs out nm:Nat)):=by rw [HX.out]; exact hI.at HIN.out
       have hbs:=hI.small HIN.out;have fz:=hI.free x;clear hel hA hI hs1 hs2 c8;generalize body[j]=p at *;clear hlt;obtain ⟨no,⟨pn,pargs⟩⟩:=p;dsimp only at *;obtain ⟨b,hb⟩:∃ b,b=mW rs out nm:=⟨_,rfl⟩;rw [← hb] at a2 hbs;have HBb:=η hb;clear hb;by_cases hL:pn ∈ aT rs
       ·have hin:pn ∈ bK rs:=jr.1 hL
        have HD:Hid (decide (pn ∈ aT rs)=true):=η (decide_eq_true hL);have HV:Hid ((if pn ∈ aT rs then xX (aT rs) pn else 0)=(((aT rs).idxOf pn:Nat):Int)):=η (if_pos hL);obtain ⟨y,hy⟩:∃ y,y=(aT rs).idxOf pn:=⟨_,rfl⟩;have hyl:y < (aT rs).length:=by rw [hy]; exact wC hin
        rw [← hy] at HV;have a1:wr.cell? ⟨g,y,none⟩=some (.int .i64 (mW rs out pn:Nat)):=by rw [hy]; exact HI9.out.at hin
        have has:=HI9.out.small hin;obtain ⟨a,ha⟩:∃ a,a=mW rs out pn:=⟨_,rfl⟩;rw [← ha] at a1 has;have HA:=η ha;replace HER:=η (HER.out hin);replace HST:=η (HST.out hin);have hx0:(0:Int)≤(x:Int):=by omega
        have hx1:(x:Int) < ((aT rs).length:Int):=by omega
        have hy0:(0:Int)≤(y:Int):=by omega
        have hy1:(y:Int) < ((aT rs).length:Int):=by omega
        clear ha hin hL hy;cases no
        ·have HSJ:=η hsp
         by_cases hle:a≤b
         ·have HSS:Hid (mW rs out pn+AO ⟨false,⟨pn,pargs⟩⟩≤mW rs out nm):=η (by simp only [AO]; rw [← HA.out,← HBb.out]; simpa using hle)
          clear hsp HER HST
          go_wp2_with (first | (at_lookup; refine dI _ rfl _ _ _ rfl Tryz.underlying85 _ _ _ _ rfl HI3.out.map pn rfl HPZ.out true HD.out _ HV.out ?_) | go_in)
          go_roundw
          case rel=>exact ⟨m3,out,j+1,HLJ.out,rfl,by go_num,HI3.out,fun e=>⟨(HS3.out e).1,(HS3.out e).2.1,HSJ.out (HS3.out e).2.2 fun _=>HSS.out⟩,HT3.out,C8.out⟩
          case measure=>have:=HLJ.out; simp [intOf]; omega
         ·have hgt9:b < a:=by omega
          have hbig:True:=trivial
          ·have hsm:a < (aT rs).length:=by omega
           obtain ⟨hLs,hSum⟩:=HST.out (a) (by simp only [AO]; rw [HA.out]; rfl) (by rw [← HBb.out]; exact hgt9) hsm;have HLs:=η hLs
           have HSum:Hid (s0 < (out.set x (a)).sum):=η (by
            rw [HX.out] at *;cases m3
            ·have:=(HS3.out rfl).1; omega
            ·have:=HT3.out rfl; omega)
           have HSET:Hid (pV w rs n g (out.set x (a)) ((wr.setCell ⟨g,x,none⟩ (.int .i64 (a))).alloc (.cells #[.bool false,.string pn,.slice Ag pargs.length cg] 111))):=η ((HI9.out.set x (a) hLs).later ((Below.refl _ _).alloc (Nat.le_refl _) _));have HC8:Hid (((wr.setCell ⟨g,x,none⟩ (.int .i64 (a))).alloc (.cells #[.bool false,.string pn,.slice Ag pargs.length cg] 111)).cell? ⟨rb,0,none⟩=some (.string nm)):=η (cell_later ((Below.refl _ _).alloc (Nat.le_refl _) _) (by rw [World.cell?_of_block (w:=wr) (Below.heap_setCell _ _ _ _ hrg)]; exact C9.out));clear hsp HER HST HSJ hLs hSum
           go_wp2_with (first | (at_lookup; refine dI _ rfl _ _ _ rfl Tryz.underlying85 _ _ _ _ rfl HI3.out.map pn rfl HPZ.out true HD.out _ HV.out ?_) | (at_len; refine iy _ rfl _ _ rfl Tryz.underlying85 _ _ _ _ rfl HI3.out.map ?_) | go_in)
           go_roundw
           case rel=>exact ⟨true,_,j+1,HLJ.out,rfl,by go_num,HSET.out,fun e=>by simp at e,fun _=>HSum.out,HC8.out⟩
           case measure=>have:=HLJ.out; simp [intOf]; omega
        ·have HSJ:=η hsp
         by_cases hle:a+1≤b
         ·have HSS:Hid (mW rs out pn+AO ⟨true,⟨pn,pargs⟩⟩≤mW rs out nm):=η (by simp only [AO]; rw [← HA.out,← HBb.out]; simpa using hle)
          clear hsp HER HST
          go_wp2_with (first | (at_lookup; refine dI _ rfl _ _ _ rfl Tryz.underlying85 _ _ _ _ rfl HI3.out.map pn rfl HPZ.out true HD.out _ HV.out ?_) | go_in)
          go_roundw
          case rel=>exact ⟨m3,out,j+1,HLJ.out,rfl,by go_num,HI3.out,fun e=>⟨(HS3.out e).1,(HS3.out e).2.1,HSJ.out (HS3.out e).2.2 fun _=>HSS.out⟩,HT3.out,C8.out⟩
          case measure=>have:=HLJ.out; simp [intOf]; omega
         ·have hgt9:b < a+1:=by omega
          by_cases hbig:(aT rs).length≤a+1
          ·have HER2:=η (HER.out _ (by simp only [AO]; rw [HA.out]; rfl) hbig)
           have c8:=C8.out;have BZ:=HI3.out.bel;clear hsp HER HST HSJ
           go_wp2_with (first | (at_lookup; refine dI _ rfl _ _ _ rfl Tryz.underlying85 _ _ _ _ rfl HI3.out.map pn rfl HPZ.out true HD.out _ HV.out ?_) | (at_len; refine iy _ rfl _ _ rfl Tryz.underlying85 _ _ _ _ rfl HI3.out.map ?_) | go_in)
           go_region;go_wp2;go_ret2;exact ⟨((BZ.alloc (by have:=BZ.size; exact this) _)).drew,.inl ⟨HER2.out,_,rfl⟩⟩
          ·have hsm:a+1 < (aT rs).length:=by omega
           obtain ⟨hLs,hSum⟩:=HST.out (a+1) (by simp only [AO]; rw [HA.out]; rfl) (by rw [← HBb.out]; exact hgt9) hsm;have HLs:=η hLs
           have HSum:Hid (s0 < (out.set x (a+1)).sum):=η (by
            rw [HX.out] at *;cases m3
            ·have:=(HS3.out rfl).1; omega
            ·have:=HT3.out rfl; omega)
           have HSET:Hid (pV w rs n g (out.set x (a+1)) ((wr.setCell ⟨g,x,none⟩ (.int .i64 (a+1))).alloc (.cells #[.bool true,.string pn,.slice Ag pargs.length cg] 111))):=η ((HI9.out.set x (a+1) hLs).later ((Below.refl _ _).alloc (Nat.le_refl _) _));have HC8:Hid (((wr.setCell ⟨g,x,none⟩ (.int .i64 (a+1))).alloc (.cells #[.bool true,.string pn,.slice Ag pargs.length cg] 111)).cell? ⟨rb,0,none⟩=some (.string nm)):=η (cell_later ((Below.refl _ _).alloc (Nat.le_refl _) _) (by rw [World.cell?_of_block (w:=wr) (Below.heap_setCell _ _ _ _ hrg)]; exact C9.out));clear hsp HER HST HSJ hLs hSum
           go_wp2_with (first | (at_lookup; refine dI _ rfl _ _ _ rfl Tryz.underlying85 _ _ _ _ rfl HI3.out.map pn rfl HPZ.out true HD.out _ HV.out ?_) | (at_len; refine iy _ rfl _ _ rfl Tryz.underlying85 _ _ _ _ rfl HI3.out.map ?_) | go_in)
           go_roundw
           case rel=>exact ⟨true,_,j+1,HLJ.out,rfl,by go_num,HSET.out,fun e=>by simp at e,fun _=>HSum.out,HC8.out⟩
           case measure=>have:=HLJ.out; simp [intOf]; omega
       ·have HD:Hid (decide (pn ∈ aT rs)=false):=η (decide_eq_false hL)
        have HV:Hid ((if pn ∈ aT rs then xX (aT rs) pn else 0)=0):=η (if_neg hL);have HSP:=η fun e=>hsp e fun hh=>absurd (jr.2 hh) hL
        clear hL hsp HER HST
        go_wp2_with (first | (at_lookup; refine dI _ rfl _ _ _ rfl Tryz.underlying85 _ _ _ _ rfl HI3.out.map pn rfl HPZ.out false HD.out _ HV.out ?_) | go_in)
        go_roundw
        case rel=>exact ⟨m3,out,j+1,HLJ.out,rfl,by go_num,HI3.out,fun e=>⟨(HS3.out e).1,(HS3.out e).2.1,HSP.out (HS3.out e).2.2⟩,HT3.out,C8.out⟩
        case measure=>have:=HLJ.out; simp [intOf]; omega
      ·have he:j=body.length:=by omega
       have hj1:¬ (j:Int) < (body.length:Int):=by omega
       have HZ:Hid (m3=false→out.sum=s0∧wE rs out (k+1)):=η fun e=>by
        obtain ⟨q1,q2,q3⟩:=hs1 e;refine ⟨q1,HSN.out out q2 fun p hp=>q3 p ?_⟩;rw [he,List.take_of_length_le (Nat.le_refl _)]; exact hp
       have HI3:=η hI;have HT3:=η hs2;clear hs1 hs2 hI he;go_wp2;go_roundw
       case rel=>exact ⟨m3,out,k+1,HLT.out,rfl,by go_num,HI3.out,HZ.out,HT3.out⟩
       case measure=>have:=HLT.out; simp [intOf]; omega
    ·have he:k=rs.length:=by omega
     have hk1:¬ (k:Int) < (rs.length:Int):=by omega
     have hq1:pV w rs n g out wr:=hI;have HQ:Hid (CP wr g (aT rs).length=out.sum∧out.sum≤(aT rs).length * (aT rs).length):=η ⟨by rw [← hI.lv.len]; exact EU hI.blk,hI.lv.Gm⟩;have HI3:=η hI;have HT3:=η hs2;have HS3:Hid (m=false→out.sum=s0∧wE rs out rs.length):=η (by rw [← he]; exact hs1);clear hs1 hs2 hI he hq1;go_wp2;go_roundw
     case rel=>exact ⟨m,out,rfl,HI3.out,fun e=>(HS3.out e).2⟩
     case measure=>
      have q1:=HQ.out;have q2:=HS0.out;have q3:=HT3.out;have q4:=HS3.out;cases m
      ·have:=(q4 rfl).1
       simp [WY]; omega
      ·have:=q3 rfl
       simp [WY]; omega
end Go.Proofs.YtiidmgchadagbaaGreatDoor
