/- Of the proof of FnExactDelta: TouI, FitS. -/
import Derived.Test.YtiidmgchadagbaaGreatDoorM17
import Derived.Test.YtiidmgchadagbaaGreatDoorM16
set_option linter.unusedVariables false
set_option maxHeartbeats 2000000
set_option maxRecDepth 100000
namespace Go.Proofs.YtiidmgchadagbaaGreatDoor
open Go.RowKit D
attribute [local go_sem ↓] Go.wp_at_zero Go.wp_at_succ
theorem Fe:(Tryz.prog.info? 71).map (fun i=>(i.zero,i.size,i.bytes))=some (some (.agg #[.string ⟨#[]⟩,.slice none 0 0,.slice none 0 0]),3,64):=by kernel_rfl
def D.lJ (L:List ByteArray) (p:Pt):Bool:=!p.no && decide (p.atom.name ∈ L)
structure D.tZ (bc mc n:Nat) (L:List ByteArray) (f:ByteArray→Int) (w:World):Prop where
 c:w.heap[bc]? = some (.cells #[.map (some mc)] 85 (0,0))
 m:iG mc n L f w
 f:∀ s ∈ L,1≤f s∧f s≤1000000
theorem D.tZ.grown {bc mc n:Nat} {L:List ByteArray} {f:ByteArray→Int} {w w':World} {row:Option Nat} (h:tZ bc mc n L f w) (hg:w.grownBy w' row) (h1:row ≠ some bc) (h2:row ≠ some mc):tZ bc mc n L f w':=
 ⟨(hg.block _ (lt_of_block h.c) (fun e=>h1 e.symm)).trans h.c,h.m.same (hg.block _ h.m.lt (fun e=>h2 e.symm)),h.f⟩
theorem D.tZ.later {bc mc n:Nat} {L:List ByteArray} {f:ByteArray→Int} {w w':World} (h:tZ bc mc n L f w) (hb:Below w.heap.size w w'):tZ bc mc n L f w':=
 ⟨(hb.block _ (lt_of_block h.c)).trans h.c,h.m.same (hb.block _ h.m.lt),h.f⟩
theorem SX (bc mc n:Nat) (L:List ByteArray) (f:ByteArray→Int) (p:Pt) (v:Value) (w:World) (hC:tZ bc mc n L f w) (hs:p.atom.name.size≤maxLen):
  Calls Tryz.prog 113 #[.agg #[.bool p.no,.string p.atom.name,v],.pointer (some ⟨bc,0,none⟩)] w fun e w'=>e=.returned (.bool (lJ L p))∧Below w.heap.size w w':=by
 have hA:Below w.heap.size w (w.alloc (.cells #[.bool p.no,.string p.atom.name,v] 111)):=(Below.refl _ _).alloc (Nat.le_refl _) _;have HB:=η hA;have hC2:=hC.later hA;have HM:=η hC2.m;have y0:=ak hC2.c (o:=0);have HS:=η hs;have hbc:bc < w.heap.size:=lt_of_block hC.c;obtain ⟨no,nm,args⟩:=p;dsimp only at *
 cases no with
 | true=>
  clear hC hC2 hs
  go_enter Tryz.func113,Tryz.ntmps113
  go_wp2;go_ret;exact ⟨rfl,HB.out⟩
 | false=>
  by_cases hL:nm ∈ L
  ·obtain ⟨z,hz⟩:∃ z,f nm=z:=⟨_,rfl⟩
   have hz1:=hC.f _ hL;rw [hz] at hz1;have HV:=HM.out.JH HS.out (show (if nm ∈ L then f nm else 0)=z by rw [if_pos hL]; exact hz);have hz2:=hz1.1;have HE:Hid (decide (0 < z)=lJ L ⟨false,nm,args⟩):=η (by rw [decide_eq_true (by omega)]; unfold lJ; simp; exact hL);clear hC hC2 hs hL hz hz1 hA
   go_enter Tryz.func113,Tryz.ntmps113
   go_wp2;go_ret;exact ⟨aO HE.out,HB.out⟩
  ·have HV:=HM.out.JH HS.out (show (if nm ∈ L then f nm else 0)=0 by rw [if_neg hL])
   have HE:Hid (false=lJ L ⟨false,nm,args⟩):=η (by unfold lJ; simp; exact hL);clear hC hC2 hs hL hA
   go_enter Tryz.func113,Tryz.ntmps113
   go_wp2;go_ret;exact ⟨aO HE.out,HB.out⟩
def D.Wi (b:Bool) (w:World) (e:Ending) (w':World):Prop:=(∃ z:Int,e=.returned (.int .i64 z)∧decide (0≤z)=b)∧Below w.heap.size w w'
theorem D.SY {α:Type} (q:α→Bool) (ps:List α) (k:Nat) (h:k < ps.length):(ps.take (k+1)).any q=((ps.take k).any q || q ps[k]):=by
 rw [List.take_succ_eq_append_getElem h,List.any_append]; simp
theorem D.U7 {α:Type} (q:α→Bool) (ps:List α) (k:Nat) (h:k < ps.length) (hq:q ps[k]=true):ps.any q=true:=List.any_eq_true.2 ⟨_,List.getElem_mem h,hq⟩
theorem G5 (bc mc n:Nat) (L:List ByteArray) (f:ByteArray→Int) (ps:List Pt) (v:Value) (bs:List Nat) (w:World) (hC:tZ bc mc n L f w) (h:gm w [v] ps bs):
  Calls Tryz.prog 148 #[v,.func (.func 113) #[] #[.pointer (some ⟨bc,0,none⟩)]] w (Wi (ps.any (lJ L)) w):=by
 obtain ⟨Ad,cap,rfl,hl,hm⟩:=af h;have hlm:=au (Nat.le_trans hl hm);have HC:=η hC;have HH:=η h;clear hm hl hC h
 go_enter Tryz.func148,Tryz.ntmps148
 go_wp2
 go_loopw [8] (fun i wr=>∃ k:Nat,k≤ps.length∧i=.int .i64 k∧(ps.take k).any (lJ L)=false∧Below w.heap.size w wr) (fun i _=>ps.length - (intOf i).toNat)
 case atStart=>exact ⟨0,Nat.zero_le _,rfl,rfl,Below.refl _ _⟩
 case round=>
  obtain ⟨k,hk,rfl,hall,hb⟩:=hrel;have HA:=η hall;clear hall;by_cases hlt:k < ps.length
  ·obtain ⟨b,o,Ae,ce,bk,rfl,_,d0,d1,d2,hel,_⟩:=gJ (aY.below HH.out hb) hlt
   have hk0:(0:Int)≤(k:Int):=by omega
   have hk1:(k:Int) < (ps.length:Int):=by omega
   have hnm:ps[k].atom.name.size≤maxLen:=by obtain ⟨_,_,hs,_⟩:=hel; exact hs
   have hcall:=SX bc mc n L f ps[k] (.slice Ae ps[k].atom.args.length ce) wr (HC.out.later hb) hnm;have HSN:=η (SY (lJ L) ps k hlt);have HHT:=η (U7 (lJ L) ps k hlt);have HLT:=η hlt;have HB:=η hb;clear hel hnm hb;generalize lJ L ps[k]=q at *;generalize ps[k]=p at *;obtain ⟨no,nm,args⟩:=p;dsimp only at *;clear hlt
   go_wp2_with fail
   refine hcall.mono ?_;rintro e w' ⟨rfl,hb'⟩;have HB2:=η (HB.out.trans (hb'.mono HB.out.size));clear hcall hb'
   cases q with
   | false=>
    go_wp2;go_roundw
    case rel=>exact ⟨k+1,HLT.out,by go_num,by rw [HSN.out,HA.out]; rfl,HB2.out⟩
    case measure=>have:=HLT.out; simp [intOf]; omega
   | true=>
    go_wp2;go_ret;exact ⟨⟨_,rfl,by rw [HHT.out trivial]; simp⟩,HB2.out⟩
  ·have he:=η (show k=ps.length by omega)
   have hk1:¬ (k:Int) < (ps.length:Int):=by omega
   go_wp2;go_ret;exact ⟨⟨_,rfl,by have:=HA.out; rw [he.out,List.take_of_length_le (Nat.le_refl _)] at this; rw [this]; rfl⟩,hb⟩
theorem zZ (bc mc n:Nat) (L:List ByteArray) (f:ByteArray→Int) (ps:List Pt) (v:Value) (bs:List Nat) (w:World) (hC:tZ bc mc n L f w) (h:gm w [v] ps bs):
  Calls Tryz.prog 112 #[v,.func (.func 113) #[] #[.pointer (some ⟨bc,0,none⟩)]] w fun e w'=>e=.returned (.bool (ps.any (lJ L)))∧Below w.heap.size w w':=by
 have hi:=G5 bc mc n L f ps v bs w hC h;clear h hC
 go_enter Tryz.func112,Tryz.ntmps112
 go_wp2_with fail
 refine hi.mono ?_;rintro e w' ⟨⟨z,rfl,hz⟩,hb⟩;have HZ:=η hz;clear hz;go_wp2;go_ret;exact ⟨aO HZ.out,hb⟩
structure D.yZ (w:World) (v:Value) (L:List Value) (xs:List Ru) (wr:World):Prop where
 coll:∃ bs,cO 3 jK (w.heap.size+1) 71 wr v L xs bs
 bel:Below w.heap.size w wr
theorem D.yZ.below {w wr w':World} {v:Value} {L:List Value} {xs:List Ru} (h:yZ w v L xs wr) (hb:Below wr.heap.size wr w'):yZ w v L xs w':=
 ⟨by obtain ⟨bs,hc⟩:=h.coll; exact ⟨bs,hc.below dY hb⟩,h.bel.trans (hb.mono h.bel.size)⟩
theorem D.zQ {α:Type} (q:α→Bool) (ps:List α) (k:Nat) (h:k < ps.length):(ps.take (k+1)).filter q=if q ps[k]=true then (ps.take k).filter q ++ [ps[k]] else (ps.take k).filter q:=by
 rw [List.take_succ_eq_append_getElem h,List.filter_append]
 cases hq:q ps[k] <;> simp [hq]
theorem JM (mc n:Nat) (L:List ByteArray) (f:ByteArray→Int) (rs:List Ru) (v:Value) (bs:List Nat) (w:World) (h:dO w [v] rs bs) (hM:iG mc n L f w) (hf:∀ s ∈ L,1≤f s∧f s≤1000000) (hl8:rs.length≤1000000):
  Calls Tryz.prog 72 #[v,.map (some mc)] w fun e w'=>Below w.heap.size w w'∧∃ Av cp b2,e=.returned (.slice Av (rs.filter fun r=>r.body.any (lJ L)).length cp)∧dO w' [.slice Av (rs.filter fun r=>r.body.any (lJ L)).length cp] (rs.filter fun r=>r.body.any (lJ L)) b2:=by
 obtain ⟨Ad,cap,rfl,hl,hm⟩:=af h;have hlm:=au (Nat.le_trans hl hm);obtain ⟨i0,hi,hz0,hz1,hz2⟩:=info_parts Fe;have hA0:Below w.heap.size w (w.alloc (.cells #[.map (some mc)] 85)):=(Below.refl _ _).alloc (Nat.le_refl _) _;have HC0:Hid (tZ w.heap.size mc n L f (w.alloc (.cells #[.map (some mc)] 85))):=η ⟨heap_alloc_new _ _,hM.same (hA0.block _ hM.lt),hf⟩;have HV0:Hid (yZ w (.slice none 0 0) [] [] (w.alloc (.cells #[.map (some mc)] 85))):=η ⟨⟨[],cO.nil _⟩,hA0⟩;have HMC:=η hM.lt;have HH:=η h;have HFL:Hid (∀ k,((rs.take k).filter fun r=>r.body.any (lJ L)).length≤1000000):=η fun k=>Nat.le_trans (List.length_filter_le _ _) (by rw [List.length_take]; omega)
 clear hl hm h hM hf
 go_enter Tryz.func72,Tryz.ntmps72
 go_wp2;generalize w.alloc (.cells #[.map (some mc)] 85)=w0 at *
 go_loopw [5,10] (fun v i wr=>∃ (k:Nat) (Av:Option Addr) (cp:Nat) (M:List Value) (xs:List Ru),k≤rs.length∧i=.int .i64 k∧v=.slice Av xs.length cp∧xs=(rs.take k).filter (fun r=>r.body.any (lJ L))∧yZ w (.slice Av xs.length cp) M xs wr∧tZ w.heap.size mc n L f wr) (fun _ i _=>rs.length - (intOf i).toNat)
 case atStart=>exact ⟨0,none,0,[],[],Nat.zero_le _,rfl,rfl,rfl,HV0.out,HC0.out⟩
 case round=>
  obtain ⟨k,Av,cp,M,xs,hk,rfl,rfl,hxs,hV,hC⟩:=hrel;clear HV0 HC0;have HX:=η hxs;have HLX:Hid (xs.length≤1000000):=η (by rw [hxs]; exact HFL.out k);clear hxs;have y0:=ak hC.c (o:=0);have hbc:w.heap.size < wr.heap.size:=lt_of_block hC.c;by_cases hlt:k < rs.length
  ·obtain ⟨b,o,Ae,ce,Af,cf,bk,rfl,_,d0,d1,d2,hel,_⟩:=gq HH.out hlt
   replace d0:=cell_later hV.bel d0;replace d1:=cell_later hV.bel d1;replace d2:=cell_later hV.bel d2;have hk0:(0:Int)≤(k:Int):=by omega
   have hk1:(k:Int) < (rs.length:Int):=by omega
   have hA:Below wr.heap.size wr (wr.alloc (.cells #[.string rs[k].head.name,.slice Ae rs[k].head.args.length ce,.slice Af rs[k].body.length cf] 71)):=(Below.refl _ _).alloc (Nat.le_refl _) _;have hEL:=dY.below (dY.below hel hV.bel) hA;obtain ⟨e1,e2,_,_,hbd⟩:=gu hEL;have hcall:=zZ w.heap.size mc n L f rs[k].body (.slice Af rs[k].body.length cf) e2 _ (hC.later hA) hbd;have HV1:=η (hV.below hA);have HC1:=η (hC.later hA);have HEL:=η hEL;have HNW:=η (heap_alloc_new wr (.cells #[.string rs[k].head.name,.slice Ae rs[k].head.args.length ce,.slice Af rs[k].body.length cf] 71));have HSN:=η (zQ (fun r:Ru=>r.body.any (lJ L)) rs k hlt);have HLT:=η hlt;have HBK:Hid (∀ c ∈ bk,c < w.heap.size):=η (dY.lt hel);clear hel hEL hbd hV hC hA;generalize (rs[k].body.any (lJ L))=q at *;generalize rs[k]=r at *;obtain ⟨⟨nm,args⟩,body⟩:=r;dsimp only at *;clear hlt
   go_wp2_with fail
   refine hcall.mono ?_;rintro e w2 ⟨rfl,hb2⟩;have HV2:=η (HV1.out.below hb2);have HC2:=η (HC1.out.later hb2);have HEL2:=η (dY.below HEL.out hb2);have hsz:wr.heap.size < w2.heap.size:=by have:=hb2.size; simp at this; omega
   have hB2:=(hb2.block wr.heap.size (by simp)).trans HNW.out;have c0:=ak hB2 (o:=0);have c1:=ak hB2 (o:=1);have c2:=ak hB2 (o:=2);clear hcall hb2
   cases q with
   | false=>
    have HX1:Hid (xs=(rs.take (k+1)).filter fun r=>r.body.any (lJ L)):=η (by rw [HSN.out,HX.out]; rfl);go_wp2;go_roundw
    case rel=>exact ⟨k+1,_,_,_,xs,HLT.out,by go_num,rfl,HX1.out,HV2.out,HC2.out⟩
    case measure=>have:=HLT.out; simp [intOf]; omega
   | true=>
    have HX1:Hid (xs ++ [(⟨⟨nm,args⟩,body⟩:Ru)]=(rs.take (k+1)).filter fun r=>r.body.any (lJ L)):=η (by rw [HSN.out,HX.out]; rfl);have hA2:Below w2.heap.size w2 (w2.alloc (.cells #[.string nm,.slice Ae args.length ce,.slice Af body.length cf] 71)):=(Below.refl _ _).alloc (Nat.le_refl _) _;obtain ⟨bs0,hC0⟩:=(HV2.out.below hA2).coll;have HC:=η hC0;have HB:=η (HV2.out.below hA2).bel;have HC3:=η (HC2.out.later hA2);have HR:Hid (aV 3 jK (w2.alloc (.cells #[.string nm,.slice Ae args.length ce,.slice Af body.length cf] 71)) [.string nm,.slice Ae args.length ce,.slice Af body.length cf] [(⟨⟨nm,args⟩,body⟩:Ru)] bk):=η (aV.dB Bg (dY.below HEL2.out hA2));have HL:Hid (Lies (w2.alloc (.cells #[.string nm,.slice Ae args.length ce,.slice Af body.length cf] 71)) (some ⟨w2.heap.size,0,none⟩) [.string nm,.slice Ae args.length ce,.slice Af body.length cf]):=η (aS (heap_alloc_new w2 _));have HF:Hid (∀ c,c < w.heap.size+1→(Value.slice Av xs.length cp).ownBlock ≠ some c):=η fun c hc=>aJ hC0.own hc
    have HMB:Hid (mc < w.heap.size+1):=η (by have:=HMC.out; omega);have hbase:w.heap.size+1≤(w2.alloc (.cells #[.string nm,.slice Ae args.length ce,.slice Af body.length cf] 71)).heap.size:=by simp; omega
    have HBA:=η hbase;clear hC0 hA2 hbase d0 d1 d2
    go_wp2_with (at_builtin; refine iH rfl _ _ _ rfl (w.heap.size+1) 71 i0 (.agg #[.string ⟨#[]⟩,.slice none 0 0,.slice none 0 0]) 3 64 Tryz.underlying29 hi hz0 hz1 hz2 rfl (by omega) dY (.slice Av xs.length cp) xs.length _ _ _ rfl HC.out rfl (some ⟨w2.heap.size,0,none⟩) 1 1 _ [⟨⟨nm,args⟩,body⟩] _ rfl HR.out rfl HL.out (fun c hc=>HF.out c (by have:=HBK.out c hc; omega)) (by have:=HLX.out; unfold maxLen; omega) (by have:=HLX.out; omega) w w.heap.size HB.out (Nat.le_succ _) HBA.out ?_; intro A2 cp2 w3 hC3 hB3 hS3 hg3)
    have HV3:Hid (yZ w (.slice A2 (xs ++ [(⟨⟨nm,args⟩,body⟩:Ru)]).length cp2) (M ++ [.string nm,.slice Ae args.length ce,.slice Af body.length cf]) (xs ++ [(⟨⟨nm,args⟩,body⟩:Ru)]) w3):=η ⟨⟨_,by rw [List.length_append]; exact hC3⟩,hB3⟩;have HC4:=η (HC3.out.grown hg3 (HF.out _ (Nat.lt_succ_self _)) (HF.out _ HMB.out));have hlx:xs.length+1=(xs ++ [(⟨⟨nm,args⟩,body⟩:Ru)]).length:=by simp
    rw [hlx];clear hC3 hB3 hS3 hg3 HC HB HR HL HF hlx;go_roundw
    case rel=>exact ⟨k+1,_,_,_,_,HLT.out,by go_num,rfl,HX1.out,HV3.out,HC4.out⟩
    case measure=>have:=HLT.out; simp [intOf]; omega
  ·have he:k=rs.length:=by omega
   have hk1:¬ (k:Int) < (rs.length:Int):=by omega
   have HX2:Hid (xs=rs.filter fun r=>r.body.any (lJ L)):=η (by rw [HX.out,List.take_of_length_le (Nat.le_of_eq he.symm)]);have HV:=η hV;clear hV hC HX HLX HFL;go_wp2;go_ret;rw [← HX2.out];obtain ⟨bs0,hc0⟩:=HV.out.coll;obtain ⟨b2,hs2,_⟩:=hc0.slice;exact ⟨HV.out.bel,_,_,rfl,b2,hs2⟩
def D.Qb (az:List A) (x:A):Bool:=az.all fun a=>!clash a x
def D.uf (az:List A) (xs:List A):Bool:=xs.all (Qb az)
def D.jE (rs:List Ru) (xs:List A):Bool:=decide (fO rs=0) && bH xs && uf (aQ rs) xs
theorem D.JO (az xs:List A) (k:Nat) (h:k < xs.length) (h0:uf az (xs.take k)=true):uf az (xs.take (k+1))=Qb az xs[k]:=by
 unfold uf at *;rw [List.take_succ_eq_append_getElem h,List.all_append,h0]; simp
theorem D.Ox (az xs:List A) (k:Nat) (h:k < xs.length) (h0:Qb az xs[k]=false):uf az xs=false:=List.all_eq_false.2 ⟨_,List.getElem_mem h,by simp [h0]⟩
theorem Qc (rs:List Ru) (ys:List A) (v v2:Value) (bs b9:List Nat) (w:World) (h:dO w [v] rs bs) (h2:aI w [v2] ys b9) (hn:(aQ rs).length≤1000000):
  Calls Tryz.prog 57 #[v,v2] w fun e w'=>e=.returned (.bool (uf (aQ rs) ys))∧Below w.heap.size w w':=by
 obtain ⟨Ad,cap,rfl,hl,hm⟩:=af h;obtain ⟨Ay,cy,rfl,hly,hmy⟩:=af h2;have hlm:=au (Nat.le_trans hl hm);have hlmy:=au (Nat.le_trans hly hmy);have c1:=zK rs _ bs w h hn;generalize aQ rs=xs at *;clear hl hm h hly hmy
 go_enter Tryz.func57,Tryz.ntmps57
 go_wp2_with fail
 refine c1.mono ?_;rintro e w1 ⟨hB,v1,b2,rfl,hx⟩;obtain ⟨A1,cap1,rfl,hl1,hm1⟩:=af hx;have hlm1:=au (Nat.le_trans hl1 hm1);have h3:=ai.below h2 hB;clear c1 hl1 hm1 h2;go_wp2
 go_loopw [6] (fun i wr=>∃ k:Nat,k≤ys.length∧i=.int .i64 k∧uf xs (ys.take k)=true∧Below w1.heap.size w1 wr) (fun i _=>ys.length - (intOf i).toNat)
 case atStart=>exact ⟨0,Nat.zero_le _,rfl,rfl,Below.refl _ _⟩
 case round=>
  obtain ⟨k,hk,rfl,hall,hb⟩:=hrel;have HA:=η hall;have HB:=η hb;clear hall hb;by_cases hlt:k < ys.length
  ·have hk0:(0:Int)≤(k:Int):=by omega
   have hk1:(k:Int) < (ys.length:Int):=by omega
   have HS:=η (JO xs ys k hlt HA.out);have HBAD:=η (Ox xs ys k hlt);go_wp2
   go_loopw [7] (fun i wr=>∃ j:Nat,j≤xs.length∧i=.int .i64 j∧(∀ i,(hi:i < xs.length)→i < j→clash xs[i] ys[k]=false)∧Below w1.heap.size w1 wr) (fun i _=>xs.length - (intOf i).toNat)
   case atStart=>exact ⟨0,Nat.zero_le _,rfl,fun i _ h=>by omega,HB.out⟩
   case round=>
    obtain ⟨j,hj,rfl,hin,hb⟩:=hrel;have HI:=η hin;have HB2:=η hb;clear hin;by_cases hjl:j < xs.length
    ·have hj0:(0:Int)≤(j:Int):=by omega
     have hj2:(j:Int) < (xs.length:Int):=by omega
     obtain ⟨b,o,Ae,ce,_,rfl,_,d0,d1,_,_⟩:=dG (ai.below h3 hb) hlt;obtain ⟨b',o',Af,cf,_,rfl,_,f0,f1,_,_⟩:=dG (ai.below hx hb) hjl;have HBAD2:Hid (clash xs[j] ys[k]=true→uf xs ys=false):=η fun h=>HBAD.out (List.all_eq_false.2 ⟨_,List.getElem_mem hjl,by simp [h]⟩)
     have HOKJ:Hid (clash xs[j] ys[k]=false→∀ i,(hi:i < xs.length)→i < j+1→clash xs[i] ys[k]=false):=η fun h i h9 hi=>by
      by_cases e:i=j
      ·subst e; exact h
      ·exact HI.out i h9 (by omega)
     have HC:Hid (clash xs[j] ys[k]=(decide (xs[j].name=ys[k].name) && decide (xs[j].args.length ≠ ys[k].args.length))):=η rfl;clear hx hb h3 HBAD HS;generalize ys[k]=y at *;generalize xs[j]=x at *;obtain ⟨xn,xa⟩:=x;obtain ⟨yn,ya⟩:=y;dsimp only at *;cases hs:(xn.toList == yn.toList)
     ·have HZ:=η (HOKJ.out (by rw [HC.out,← pF,hs]; rfl))
      clear HOKJ HBAD2 HC HI HA HB;go_wp2
      go_quiet (fail)
      go_wp2;go_roundw
      case rel=>exact ⟨j+1,hjl,by go_num,HZ.out,below_drewN HB2.out _⟩
      case measure=>simp [intOf]; omega
     ·by_cases hle:xa.length=ya.length
      ·have HZ:=η (HOKJ.out (by rw [HC.out,hle]; simp))
       have hd:(xa.length:Int)=(ya.length:Int):=by omega
       clear HOKJ HBAD2 HC HI HA HB;go_wp2
       go_quiet (fail)
       go_wp2;go_roundw
       case rel=>exact ⟨j+1,hjl,by go_num,HZ.out,below_drewN HB2.out _⟩
       case measure=>simp [intOf]; omega
      ·have HZ:=η (HBAD2.out (by rw [HC.out,← pF,hs]; simpa using hle))
       have hd:¬ (xa.length:Int)=(ya.length:Int):=by omega
       have HBW:=η hB;clear HOKJ HBAD2 HC HI HA HB;go_wp2
       go_quiet (fail)
       go_wp2;go_ret;exact ⟨aO HZ.out.symm,HBW.out.trans ((below_drewN HB2.out _).mono HBW.out.size)⟩
    ·have he:j=xs.length:=by omega
     have hj1:¬ (j:Int) < (xs.length:Int):=by omega
     have HZ:Hid (uf xs (ys.take (k+1))=true):=η (HS.out.trans (List.all_eq_true.2 fun a ha=>by
      obtain ⟨i,hi,rfl⟩:=List.mem_iff_getElem.1 ha
      rw [HI.out i hi (by omega)]; rfl))
     clear HI HA HB he HS HBAD;go_wp2;go_roundw
     case rel=>exact ⟨k+1,hlt,by go_num,HZ.out,HB2.out⟩
     case measure=>simp [intOf]; omega
  ·have he:k=ys.length:=by omega
   have hk1:¬ (k:Int) < (ys.length:Int):=by omega
   have HZ:Hid (uf xs ys=true):=η (by have:=HA.out; rw [he,List.take_of_length_le (Nat.le_refl _)] at this; exact this);clear HA hx h3;go_wp2;go_ret;exact ⟨aO HZ.out.symm,hB.trans (HB.out.mono hB.size)⟩
end Go.Proofs.YtiidmgchadagbaaGreatDoor
