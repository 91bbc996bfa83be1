/- Of the proof of FnExactDelta: AtomsS, Facts2, CmpD, MarkA, MarkRs. -/
import Derived.Test.YtiidmgchadagbaaGreatDoorM10
set_option linter.unusedVariables false
set_option maxHeartbeats 2000000
set_option maxRecDepth 100000
namespace Go.Proofs.YtiidmgchadagbaaGreatDoor
open Go.RowKit D
attribute [local go_sem ↓] Go.wp_at_zero Go.wp_at_succ
theorem Pz:(Tryz.prog.info? 68).map (fun i=>(i.zero,i.size,i.bytes))=some (some (.agg #[.string ⟨#[]⟩,.slice none 0 0]),2,40):=by kernel_rfl
structure D.zJ (w:World) (v:Value) (L:List Value) (xs:List A) (wr:World):Prop where
 coll:∃ bs,cO 2 aU w.heap.size 68 wr v L xs bs
 bel:Below w.heap.size w wr
theorem D.zJ.below {w wr w':World} {v:Value} {L:List Value} {xs:List A} (h:zJ w v L xs wr) (hb:Below wr.heap.size wr w'):zJ w v L xs w':=
 ⟨by obtain ⟨bs,hc⟩:=h.coll; exact ⟨bs,hc.below aj hb⟩,h.bel.trans (hb.mono h.bel.size)⟩
theorem zK (rs:List Ru) (v:Value) (bs:List Nat) (w:World) (h:dO w [v] rs bs) (hn:(aQ rs).length≤1000000):
  Calls Tryz.prog 93 #[v] w fun e w'=>Below w.heap.size w w'∧∃ v' b2,e=.returned v'∧aI w' [v'] (aQ rs) b2:=by
 obtain ⟨Ad,cap,rfl,hl,hm⟩:=af h;have hlm:=au (Nat.le_trans hl hm);obtain ⟨i0,hi,hz0,hz1,hz2⟩:=info_parts Pz
 have HN:Hid (∀ k,(aQ (rs.take k)).length≤1000000):=η fun k=>by
  have h1:aQ rs=aQ (rs.take k) ++ aQ (rs.drop k):=by unfold aQ; rw [← List.flatMap_append,List.take_append_drop]
  rw [h1,List.length_append] at hn; omega
 have HV0:Hid (zJ w (.slice (some ⟨w.heap.size,0,none⟩) 0 0) [] [] (w.alloc (.cells #[] 68))):=η ⟨⟨[],cO.empty (heap_alloc_new _ _) (Nat.le_refl _)⟩,(Below.refl _ _).alloc (Nat.le_refl _) _⟩;clear hl hm hn
 go_enter Tryz.func93,Tryz.ntmps93
 go_wp2;generalize w.alloc (.cells #[] 68)=w0 at *
 go_loopw [3,4] (fun v i wr=>∃ (k:Nat) (Av:Option Addr) (cp:Nat) (L:List Value) (xs:List A),k≤rs.length∧i=.int .i64 k∧v=.slice Av xs.length cp∧xs=aQ (rs.take k)∧zJ w (.slice Av xs.length cp) L xs wr) (fun _ i _=>rs.length - (intOf i).toNat)
 case atStart=>exact ⟨0,_,0,[],[],Nat.zero_le _,rfl,rfl,rfl,HV0.out⟩
 case round=>
  obtain ⟨k,Av,cp,L,xs,hk,rfl,rfl,hxs,hV⟩:=hrel;clear HV0;have HX:=η hxs;have HLX:Hid (xs.length≤1000000):=η (by rw [hxs]; exact HN.out k);clear hxs;by_cases hlt:k < rs.length
  ·obtain ⟨b,o,Ae,ce,Af,cf,bk,rfl,_,d0,d1,d2,hel,_⟩:=gq h hlt
   have e2:=cell_later hV.bel d2;replace d0:=cell_later hV.bel d0;replace d1:=cell_later hV.bel d1;have D2:=η d2;have hk0:(0:Int)≤(k:Int):=by omega
   have hk1:(k:Int) < (rs.length:Int):=by omega
   have HLN:Hid ((aQ (rs.take k) ++ [rs[k].head] ++ fJ rs[k].body).length≤1000000):=η (by rw [← pR rs k hlt]; exact HN.out (k+1));obtain ⟨b1,b2,_,hhd,hbd⟩:=gu hel;have HBO:=η hbd;have hbl:(rs[k].body.length:Int)≤1000000:=by have:=HLN.out; rw [List.length_append,mr] at this; omega
   have hA:Below wr.heap.size wr (wr.alloc (.cells #[.string rs[k].head.name,.slice Ae rs[k].head.args.length ce] 68)):=(Below.refl _ _).alloc (Nat.le_refl _) _;obtain ⟨bs0,hC0⟩:=(hV.below hA).coll;have HC:=η hC0;have HB:=η (hV.below hA).bel;have HR:Hid (aV 2 aU (wr.alloc (.cells #[.string rs[k].head.name,.slice Ae rs[k].head.args.length ce] 68)) [.string rs[k].head.name,.slice Ae rs[k].head.args.length ce] [rs[k].head] b1):=η (aV.dB dP (aj.below (aj.below hhd hV.bel) hA));have HL:Hid (Lies (wr.alloc (.cells #[.string rs[k].head.name,.slice Ae rs[k].head.args.length ce] 68)) (some ⟨wr.heap.size,0,none⟩) [.string rs[k].head.name,.slice Ae rs[k].head.args.length ce]):=η (aS (heap_alloc_new wr (.cells #[.string rs[k].head.name,.slice Ae rs[k].head.args.length ce] 68)));have HF:Hid (∀ c ∈ b1,(Value.slice Av xs.length cp).ownBlock ≠ some c):=η fun c hc=>aJ hC0.own (aj.lt hhd c hc)
   have HLT:=η hlt;have HSN:=η (pR rs k hlt);clear h hel hhd hbd hV hA hC0 d2;generalize rs[k]=r at *;clear hlt;obtain ⟨⟨nm,args⟩,body⟩:=r;dsimp only at *
   go_wp2_with (at_builtin; refine iH rfl _ _ _ rfl w.heap.size 68 i0 (.agg #[.string ⟨#[]⟩,.slice none 0 0]) 2 40 Tryz.underlying26 hi hz0 hz1 hz2 rfl (by omega) aj (.slice Av xs.length cp) xs.length _ _ _ rfl HC.out rfl (some ⟨wr.heap.size,0,none⟩) 1 1 _ [⟨nm,args⟩] _ rfl HR.out rfl HL.out HF.out (by have:=HLX.out; unfold maxLen; omega) (by have:=HLX.out; omega) w w.heap.size HB.out (Nat.le_refl _) HB.out.size ?_; intro A2 cp2 w2 hC3 hB3 hS3 _)
   have HV1:Hid (zJ w (.slice A2 (xs ++ [(⟨nm,args⟩:A)]).length cp2) (L ++ [.string nm,.slice Ae args.length ce]) (xs ++ [(⟨nm,args⟩:A)]) w2):=η ⟨⟨_,by rw [List.length_append]; exact hC3⟩,hB3⟩;have HX1:Hid (xs ++ [(⟨nm,args⟩:A)]=aQ (rs.take k) ++ [(⟨nm,args⟩:A)]):=η (by rw [HX.out]);have hlx:xs.length+1=(xs ++ [(⟨nm,args⟩:A)]).length:=by simp
   rw [hlx];clear hC3 hB3 hS3 HC HB HR HL HF d0 d1 HX hlx e2;generalize xs ++ [(⟨nm,args⟩:A)]=ys at *;generalize L ++ [.string nm,.slice Ae args.length ce]=M at *;clear HLX;go_wp2
   go_loopw [3,5] (fun v i wr=>∃ (j:Nat) (Av:Option Addr) (cp:Nat) (M:List Value) (zs:List A),j≤body.length∧i=.int .i64 j∧v=.slice Av zs.length cp∧zs=ys ++ fJ (body.take j)∧zJ w (.slice Av zs.length cp) M zs wr) (fun _ i _=>body.length - (intOf i).toNat)
   case atStart=>exact ⟨0,_,_,_,ys,Nat.zero_le _,rfl,rfl,by simp [fJ],HV1.out⟩
   case round=>
    obtain ⟨j,Aw,cq,M2,zs,hj,rfl,rfl,hzs,hV⟩:=hrel;clear HV1;have HZ:=η hzs
    have HLZ:Hid (zs.length+1≤1000001):=η (by
     have h1:=HLN.out;rw [← HX1.out,List.length_append,mr] at h1
     rw [hzs,List.length_append,mr,List.length_take]; omega)
    clear hzs;have e2:=cell_later hV.bel D2.out;by_cases hlt:j < body.length
    ·obtain ⟨b4,o4,Ag,cg,bg,rfl,_,f0,f1,f2,hel,_⟩:=gJ HBO.out hlt
     replace f0:=cell_later hV.bel f0;replace f1:=cell_later hV.bel f1;replace f2:=cell_later hV.bel f2;have hj0:(0:Int)≤(j:Int):=by omega
     have hj1:(j:Int) < (body.length:Int):=by omega
     have hhd:=gK hel;have hA:Below wr.heap.size wr (wr.alloc (.cells #[.string body[j].atom.name,.slice Ag body[j].atom.args.length cg] 68)):=(Below.refl _ _).alloc (Nat.le_refl _) _;obtain ⟨bs0,hC0⟩:=(hV.below hA).coll;have HC:=η hC0;have HB:=η (hV.below hA).bel;have HR:Hid (aV 2 aU (wr.alloc (.cells #[.string body[j].atom.name,.slice Ag body[j].atom.args.length cg] 68)) [.string body[j].atom.name,.slice Ag body[j].atom.args.length cg] [body[j].atom] bg):=η (aV.dB dP (aj.below (aj.below hhd hV.bel) hA));have HL:Hid (Lies (wr.alloc (.cells #[.string body[j].atom.name,.slice Ag body[j].atom.args.length cg] 68)) (some ⟨wr.heap.size,0,none⟩) [.string body[j].atom.name,.slice Ag body[j].atom.args.length cg]):=η (aS (heap_alloc_new wr (.cells #[.string body[j].atom.name,.slice Ag body[j].atom.args.length cg] 68)));have HF:Hid (∀ c ∈ bg,(Value.slice Aw zs.length cq).ownBlock ≠ some c):=η fun c hc=>aJ hC0.own (aj.lt hhd c hc)
     have HLJ:=η hlt;have HSP:=η (sV body j hlt);clear hel hhd hV hA hC0;generalize body[j]=p at *;clear hlt;obtain ⟨no,⟨pn,pargs⟩⟩:=p;dsimp only at *
     go_wp2_with (at_builtin; refine iH rfl _ _ _ rfl w.heap.size 68 i0 (.agg #[.string ⟨#[]⟩,.slice none 0 0]) 2 40 Tryz.underlying26 hi hz0 hz1 hz2 rfl (by omega) aj (.slice Aw zs.length cq) zs.length _ _ _ rfl HC.out rfl (some ⟨wr.heap.size,0,none⟩) 1 1 _ [⟨pn,pargs⟩] _ rfl HR.out rfl HL.out HF.out (by have:=HLZ.out; unfold maxLen; omega) (by have:=HLZ.out; omega) w w.heap.size HB.out (Nat.le_refl _) HB.out.size ?_; intro A2 cp2 w2 hC3 hB3 hS3 _)
     have HV2:Hid (zJ w (.slice A2 (zs ++ [(⟨pn,pargs⟩:A)]).length cp2) (M2 ++ [.string pn,.slice Ag pargs.length cg]) (zs ++ [(⟨pn,pargs⟩:A)]) w2):=η ⟨⟨_,by rw [List.length_append]; exact hC3⟩,hB3⟩;clear hC3 hB3 hS3 HC HB HR HL HF f0 f1 f2 e2;go_wp2;go_roundw
     case rel=>exact ⟨j+1,A2,cp2,_,zs ++ [(⟨pn,pargs⟩:A)],HLJ.out,by go_num,by simp,by rw [HSP.out,HZ.out,List.append_assoc],HV2.out⟩
     case measure=>have:=HLJ.out; simp [intOf]; omega
    ·have he:j=body.length:=by omega
     have hj1:¬ (j:Int) < (body.length:Int):=by omega
     have HE:Hid (zs=aQ (rs.take (k+1))):=η (by rw [HSN.out,HZ.out,HX1.out,he,List.take_of_length_le (Nat.le_refl _)]);have HV:=η hV;clear hV he;go_wp2;go_roundw
     case rel=>exact ⟨k+1,Aw,cq,M2,zs,HLT.out,by go_num,rfl,HE.out,HV.out⟩
     case measure=>have:=HLT.out; simp [intOf]; omega
  ·have he:k=rs.length:=by omega
   have hk1:¬ (k:Int) < (rs.length:Int):=by omega
   obtain ⟨bs0,hC0⟩:=hV.coll;obtain ⟨b2,hs2,_⟩:=hC0.slice;have hx:xs=aQ rs:=by rw [HX.out,he,List.take_of_length_le (Nat.le_refl _)]
   have HZ:Hid (Below w.heap.size w wr∧∃ b2,aI wr [.slice Av xs.length cp] (aQ rs) b2):=η ⟨hV.bel,b2,by rw [← hx]; exact hs2⟩;clear h hV he hx hs2 hC0 HX;go_wp2;go_ret;obtain ⟨q1,q2,q3⟩:=HZ.out;exact ⟨q1,_,rfl,q2,q3⟩
theorem iw (Ad:Option Addr) (n cap:Nat) (w:World):
  Calls Tryz.prog 119 #[.slice Ad n cap] w fun e w'=>e=.returned (.agg #[.slice Ad n cap,.func (.func 65) #[] #[]])∧Below w.heap.size w w':=by
 go_enter Tryz.func119,Tryz.ntmps119
 go_wp2;exact bodyPost_ret (v:=.agg #[.slice Ad n cap,.func (.func 65) #[] #[]]) (by simp [results,Tryz.results119,go_sem]) rfl ⟨rfl,by repeat (first | exact Below.refl _ _ | (refine Below.setCell ?_ (by first | (simp; done) | (simp; omega)) _) | (refine Below.alloc ?_ (by first | (simp; done) | (simp; omega)) _))⟩
theorem Jj (xs:List A) (v:Value) (bs:List Nat) (w:World) (h:aI w [v] xs bs):
  Calls Tryz.prog 120 #[.agg #[v,.func (.func 65) #[] #[]]] w fun e w'=>e=.returned (.bool (ig xs))∧Below w.heap.size w w':=by
 obtain ⟨Ad,cap,rfl,hl,hm⟩:=af h;have hlm:=au (Nat.le_trans hl hm);clear hm;have hA0:Below w.heap.size w (w.alloc (.cells #[.slice Ad xs.length cap,.func (.func 65) #[] #[]] 169)):=(Below.refl _ _).alloc (Nat.le_refl _) _
 go_enter Tryz.func120,Tryz.ntmps120
 go_wp2
 go_loopw [3] (fun i wr=>∃ k:Nat,0 < k∧(k≤xs.length∨k=1)∧i=.int .i64 k∧AY xs k∧Below w.heap.size w wr∧wr.cell? ⟨w.heap.size,0,none⟩=some (.slice Ad xs.length cap)∧wr.cell? ⟨w.heap.size,1,none⟩=some (.func (.func 65) #[] #[])∧w.heap.size < wr.heap.size) (fun i _=>xs.length+1 - (intOf i).toNat)
 case atStart=>exact ⟨1,Nat.one_pos,.inr rfl,rfl,OQ _,hA0,by go_simp,by go_simp,by simp⟩
 case round=>
  obtain ⟨k,hp0,hk,rfl,hall,hb,s0,s1,hgt⟩:=hrel;have HA:=η hall;have HK:=η hk;clear hall hA0 hk;by_cases hlt:k < xs.length
  ·have hk0:(0:Int)≤(k:Int):=by omega
   have hk1:(k:Int) < (xs.length:Int):=by omega
   obtain ⟨j,hkj⟩:∃ j,k=j+1:=⟨k - 1,by omega⟩;have hlj:j < xs.length:=by omega
   have HS:Hid (bQ xs[j] xs[k] < 0→AY xs (k+1)):=by subst hkj; exact η (fun hc=>Ls (xs:=xs) (k:=j) HA.out hlt hc)
   have HB:Hid (¬ bQ xs[j] xs[k] < 0→ig xs=false):=by subst hkj; exact η (fun hc=>UG xs j hlt hc)
   have hw1:IntKind.i64.wrap ((k:Int) - 1)=(j:Int):=(IntWalk.i64_in _ ⟨by omega,by omega⟩).trans (by omega);have hK:=η hkj;have hx1:(0:Int)≤(j:Int):=by omega
   have hx2:(j:Int) < (xs.length:Int):=by omega
   clear HA hkj;obtain ⟨b,o,Ae,ce,bk,Af,cf,bm,rfl,c0,c1,hel,d0,d1,hem⟩:=Eo (ai.below h hb) hlj hlt;have hD:Below wr.heap.size wr wr.drew:=Below.drew (Below.refl _ _);have hcm:=uZ xs[j] xs[k] _ _ _ _ bk bm wr.drew (aj.below hel hD) (aj.below hem hD);clear h hel hem;by_cases hc:bQ xs[j] xs[k] < 0
   ·have hc':¬ 0≤bQ xs[j] xs[k]:=by omega
    have HC:=η (HS.out hc);clear hc;go_wp2
    go_region_held3 (fun w'=>w'.cell? ⟨b,o+j * 2,none⟩=some (.string xs[j].name)∧w'.cell? ⟨b,o+j * 2+1,none⟩=some (.slice Ae xs[j].args.length ce)∧w'.cell? ⟨b,o+k * 2,none⟩=some (.string xs[k].name)∧w'.cell? ⟨b,o+k * 2+1,none⟩=some (.slice Af xs[k].args.length cf)∧w'.cell? ⟨w.heap.size,0,none⟩=some (.slice (some ⟨b,o,none⟩) xs.length cap)∧w'.cell? ⟨w.heap.size,1,none⟩=some (.func (.func 65) #[] #[]))
     (first | go_keep | exact ⟨y0,y1,y2,y3,y4,y5⟩)
     (first
      | (go_at_call 65; refine hcm.mono ?_; rintro e w2 ⟨rfl,hb2⟩; have y0:=cell_later hb2 c0; have y1:=cell_later hb2 c1; have y2:=cell_later hb2 d0; have y3:=cell_later hb2 d1; have y4:=cell_later hb2 s0; have y5:=cell_later hb2 s1; have B2:=hD.trans hb2))
    go_wp2;go_roundw
    case rel=>exact ⟨k+1,Nat.succ_pos _,.inl (by omega),by go_num,HC.out,hb.trans (B2.mono hb.size),y4,y5,Nat.lt_of_lt_of_le hgt B2.size⟩
    case measure=>simp [intOf]; omega
   ·have hc':0≤bQ xs[j] xs[k]:=by omega
    have HC:=η (HB.out hc);clear hc;go_wp2
    go_region_held3 (fun w'=>w'.cell? ⟨b,o+j * 2,none⟩=some (.string xs[j].name)∧w'.cell? ⟨b,o+j * 2+1,none⟩=some (.slice Ae xs[j].args.length ce)∧w'.cell? ⟨b,o+k * 2,none⟩=some (.string xs[k].name)∧w'.cell? ⟨b,o+k * 2+1,none⟩=some (.slice Af xs[k].args.length cf)∧w'.cell? ⟨w.heap.size,0,none⟩=some (.slice (some ⟨b,o,none⟩) xs.length cap)∧w'.cell? ⟨w.heap.size,1,none⟩=some (.func (.func 65) #[] #[]))
     (first | go_keep | exact ⟨y0,y1,y2,y3,y4,y5⟩)
     (first
      | (go_at_call 65; refine hcm.mono ?_; rintro e w2 ⟨rfl,hb2⟩; have y0:=cell_later hb2 c0; have y1:=cell_later hb2 c1; have y2:=cell_later hb2 d0; have y3:=cell_later hb2 d1; have y4:=cell_later hb2 s0; have y5:=cell_later hb2 s1; have B2:=hD.trans hb2))
    go_wp2;go_ret;exact ⟨aO HC.out.symm,hb.trans (B2.mono hb.size)⟩
  ·have HE:Hid (ig xs=true):=η (UI fun j hj hjk=>HA.out j hj (by have:=HK.out; omega))
   go_wp2;go_ret;exact ⟨aO HE.out.symm,hb⟩
structure D.Grew (w w':World):Prop where
 bel:Below w.heap.size w w'
 dr:w.drawn≤w'.drawn
theorem D.Grew.refl (w:World):Grew w w:=⟨Below.refl _ _,Nat.le_refl _⟩
theorem D.Grew.trans {a b c:World} (h:Grew a b) (k:Grew b c):Grew a c:=⟨h.bel.trans (k.bel.mono h.bel.size),Nat.le_trans h.dr k.dr⟩
theorem D.Grew.alloc {w w':World} (h:Grew w w') (o:Obj):Grew w (w'.alloc o):=⟨h.bel.alloc h.bel.size _,h.dr⟩
theorem D.Grew.is {w w':World} (h:Grew w w'):∃ q os',w'=Go.Sort.grow (w.drewN q) os':=by
 refine ⟨w'.drawn - w.drawn,w'.heap.extract w.heap.size w'.heap.size,?_⟩;have e1:=h.bel.os;have e2:=h.bel.tape;have e3:=h.bel.output;have e4:w'.drawn=w.drawn+(w'.drawn - w.drawn):=by have:=h.dr; omega
 have e5:w'.heap=w.heap ++ w'.heap.extract w.heap.size w'.heap.size:=by
  have hs:=h.bel.size;apply Array.ext
  ·simp; omega
  ·intro i h1 h2
   by_cases hi:i < w.heap.size
   ·rw [Array.getElem_append_left hi]
    have:=h.bel.block i hi;rw [Array.getElem?_eq_getElem h1,Array.getElem?_eq_getElem hi] at this;exact Option.some.inj this
   ·rw [Array.getElem_append_right (by omega)]
    simp
    congr 1
    omega
 obtain ⟨hp,tp,dn,os,out⟩:=w;obtain ⟨hp',tp',dn',os',out'⟩:=w';simp only [Go.Sort.grow,World.drewN] at *;subst e1 e2 e3;rw [← e4,← e5]
theorem Jk (t u:T) (w:World):
  Calls Tryz.prog 104 #[.agg #[.bool t.var,.string t.name],.agg #[.bool u.var,.string u.name]] w fun e w'=>e=.returned (.int .i64 (fZ t.name u.name))∧Grew w w':=by
 go_enter Tryz.func104,Tryz.ntmps104
 go_wp2_with (go_at_call 102; refine (kU _ _ _).mono ?_; rintro e w' ⟨rfl,rfl⟩)
 go_ret;exact ⟨rfl,((Grew.refl _).alloc _).alloc _⟩
theorem yS (ts us:List T) (v1 v2:Value) (b1 b2:List Nat) (w:World) (h1:eY w [v1] ts b1) (h2:eY w [v2] us b2):
  Calls Tryz.prog 103 #[v1,v2,.func (.func 104) #[] #[]] w
   fun e w'=>e=.returned (.int .i64 (lm ts us))∧Grew w w':=by
 obtain ⟨Ad,cap,rfl,hl,hm⟩:=af h1;obtain ⟨Ad2,cap2,rfl,hl2,hm2⟩:=af h2;have hlm:=au (Nat.le_trans hl hm);have hlm2:=au (Nat.le_trans hl2 hm2);clear hm hm2
 go_enter Tryz.func103,Tryz.ntmps103
 go_wp2
 go_loopw [13] (fun i wr=>∃ k:Nat,k≤ts.length∧k≤us.length∧i=.int .i64 k∧lm ts us=lm (ts.drop k) (us.drop k)∧Grew w wr) (fun i _=>ts.length - (intOf i).toNat)
 case atStart=>exact ⟨0,Nat.zero_le _,Nat.zero_le _,rfl,rfl,Grew.refl _⟩
 case round=>
  obtain ⟨k,hk,hk2,rfl,hc,hb⟩:=hrel;have HC:=η hc;clear hc;by_cases hlt:k < ts.length
  ·obtain ⟨b,o,rfl,_,c0,c1,_⟩:=dV (aH.below h1 hb.bel) hlt
   have hA:Grew wr (wr.alloc (.cells #[.bool ts[k].var,.string ts[k].name] 109)):=(Grew.refl _).alloc _;by_cases hlt2:k < us.length
   ·obtain ⟨b',o',rfl,_,d0,d1,_⟩:=dV (aH.below h2 (hb.trans hA).bel) hlt2
    have HS:=η (vP hlt hlt2);clear h1 h2
    go_wp2_with fail
    refine (Jk ts[k] us[k] _).mono ?_;rintro e w' ⟨rfl,hb'⟩;have B':Grew w w':=((hb.alloc _).alloc _).trans hb';by_cases hz:fZ ts[k].name us[k].name=0
    ·have hz':(fZ ts[k].name us[k].name == 0)=true:=by simp [hz]
     have HZ:=η hz;clear hz hA;go_wp2;go_roundw
     case rel=>exact ⟨k+1,by omega,by omega,by go_num,by rw [HC.out,HS.out,if_pos HZ.out],B'⟩
     case measure=>simp [intOf]; omega
    ·have hz':(fZ ts[k].name us[k].name == 0)=false:=by simp [hz]
     have HZ:=η hz;clear hz hA;go_wp2;go_ret;exact ⟨eF (by rw [HC.out,HS.out,if_neg HZ.out]),B'⟩
   ·clear h1 h2
    have HS:=η (vS hlt (Nat.le_of_not_lt hlt2));go_wp2;go_ret;exact ⟨eF (by rw [HC.out,HS.out]),hb.trans hA⟩
  ·have he:ts.length≤k:=by omega
   by_cases hlt2:k < us.length
   ·have HS:=η (vT he hlt2)
    have hx:ts.length < us.length:=by omega
    go_wp2;go_ret;exact ⟨eF (by rw [HC.out,HS.out]),hb⟩
   ·have HS:=η (vU he (Nat.le_of_not_lt hlt2))
    have hx:¬ ts.length < us.length:=by omega
    go_wp2;go_ret;exact ⟨eF (by rw [HC.out,HS.out]),hb⟩
theorem Ce (a b:A) (c0 c1 d0 d1:Value) (b1 b2:List Nat) (w:World) (h1:aU w [c0,c1] a b1) (h2:aU w [d0,d1] b b2):
  Calls Tryz.prog 65 #[.agg #[c0,c1],.agg #[d0,d1]] w fun e w'=>e=.returned (.int .i64 (bQ a b))∧Grew w w':=by
 obtain ⟨Ad,cap,rfl,rfl⟩:=bJ h1;obtain ⟨Ae,cape,rfl,rfl⟩:=bJ h2;have hq:=fun w' (hb:Grew w w')=>yS a.args b.args (.slice Ad a.args.length cap) (.slice Ae b.args.length cape) b1 b2 w' (eH (aj.below h1 hb.bel)) (eH (aj.below h2 hb.bel))
 have hc:bQ a b=if fZ a.name b.name=0 then lm a.args b.args else fZ a.name b.name:=rfl
 have HC:=η hc;clear h1 h2 hc;have hA:=((Grew.refl w).alloc (.cells #[.string a.name,.slice Ad a.args.length cap] 68)).alloc (.cells #[.string b.name,.slice Ae b.args.length cape] 68);by_cases hz:fZ a.name b.name=0
 ·have hz':(fZ a.name b.name != 0)=false:=by simp [hz]
  have HZ:=η hz;clear hz
  go_enter Tryz.func65,Tryz.ntmps65
  go_wp2_with (go_at_call 102; refine (kU _ _ _).mono ?_; rintro e w' ⟨rfl,rfl⟩)
  refine (hq _ hA).mono ?_;rintro e w' ⟨rfl,hb'⟩;go_wp2;go_ret;exact ⟨eF (by rw [HC.out,if_pos HZ.out]),hA.trans hb'⟩
 ·have hz':(fZ a.name b.name != 0)=true:=by simp [hz]
  have HZ:=η hz;clear hz
  go_enter Tryz.func65,Tryz.ntmps65
  go_wp2_with (go_at_call 102; refine (kU _ _ _).mono ?_; rintro e w' ⟨rfl,rfl⟩)
  go_ret;exact ⟨eF (by rw [HC.out,if_neg HZ.out]),hA⟩
theorem pU (ts:List A) (v:Value) (bs:List Nat) (k B:Nat) (w:World) (h:aI w [v] ts bs) (hN:New B w bs) (hk:k+bI jf ts≤1000000000000):
  Calls Tryz.prog 15 #[v,.int .i64 k] w (Marked aI [v] (pI ts k) bs (k+bI jf ts) B w):=by
 obtain ⟨Ad,cap,rfl,hl,hm⟩:=af h;have hlen:ts.length≤1000000000000:=Nat.le_trans (wZ jf IG ts) (by omega);clear hm
 go_enter Tryz.func15,Tryz.ntmps15
 go_wp2
 go_loopw [1,5] (fun q j wr=>∃ (i:Nat) (ys:List A),i≤ts.length∧j=.int .i64 i∧q=.int .i64 (k+bI jf (ts.take i):Nat)∧ys=kN WC jf ts k i∧aI wr [.slice Ad ts.length cap] ys bs∧New B wr bs∧bU bs w wr) (fun _ j _=>ts.length - (intOf j).toNat)
 case atStart=>exact ⟨0,ts,Nat.zero_le _,rfl,rfl,rfl,h,hN,bU.refl _ _⟩
 case round=>
  obtain ⟨i,ys,hi,rfl,rfl,hy,hT,hNr,hK⟩:=hrel;clear h hN;by_cases hlt:i < ts.length
  ·have HLT:=η hlt
   have hle:ys.length=ts.length:=by rw [hy,kF]
   have hey:ys[i]'(by omega)=ts[i]:=by subst hy; exact uI hlt
   have HS:=η (oV (mk:=WC) (cnt:=jf) (k:=k) hlt);have hsn:=jG jf ts i hlt;have hle2:=mg jf ts i hlt;have HY:=η hy;clear hy;obtain ⟨b,o,cs,bk,rfl,hb,hbk,hnd,hsub,hcs,hcell,hat,hput⟩:=oU aj hT hNr.nodup (k:=i) (by omega);rw [hey] at hat;obtain ⟨s,rfl,_,ht⟩:=hat;obtain ⟨u0,c0⟩:∃ u,wr.cell? ⟨b,o+i * 2,none⟩=some u:=⟨_,hcell 0 _ rfl⟩;have c1:wr.cell? ⟨b,o+i * 2+1,none⟩=some s:=by have:=hcell 1 _ rfl; rwa [← Nat.add_assoc] at this
   have f0:=(hNr.VO b hb).frozen (o+i * 2);have hbl:=hNr.lt hb;generalize ts[i]=a at *;have hca:jf a=1+2 * a.args.length:=rfl;have HP:=η hput;have HL:=η hle;have HN:=η hNr;have HSN:=η hsn;clear hcell hput hT hcs hle hNr hey hsn;obtain ⟨q,hq⟩:∃ q,q=k+bI jf (ts.take i):=⟨_,rfl⟩;rw [← hq] at HS ⊢;have hq9:q+1+2 * a.args.length≤1000000000000:=by omega
   have hq1:(q:Int)+1≤1000000000000:=by omega
   have HQ:=η hq;have HC:=η hca;clear hq hle2 hca
   go_wp2_with fail
   refine (jX q _ (by omega)).mono ?_;rintro e w2 ⟨rfl,hb2⟩;have g0:w2.cell? ⟨b,o+i * 2,none⟩=some u0:=cell_later hb2 c0;have g1:w2.cell? ⟨b,o+i * 2+1,none⟩=some s:=cell_later hb2 c1;have f2:w2.frozen? ⟨b,o+i * 2,none⟩=false:=(hb2.frozen (p:=⟨b,o+i * 2,none⟩) hbl).trans f0;have g3:(w2.setCell ⟨b,o+i * 2,none⟩ (.string (aW q))).cell? ⟨b,o+i * 2+1,none⟩=some s:=dK g1 (by omega);have g4:(w2.setCell ⟨b,o+i * 2,none⟩ (.string (aW q))).cell? ⟨b,o+i * 2,none⟩=some (.string (aW q)):=World.cell?_setCell_same' _ _ _ (by rw [g0]; rfl);have hk2:bU bs wr (w2.setCell ⟨b,o+i * 2,none⟩ (.string (aW q))):=(bU.of_below hb2).setCell hb _;have hN2:=(HN.out.below hb2).set ⟨b,o+i * 2,none⟩ (.string (aW q));have ht2:eY (w2.setCell ⟨b,o+i * 2,none⟩ (.string (aW q))) [s] a.args bk:=aH.keep (aH.below ht hb2) fun c hc=>Below.heap_setCell _ _ _ _ fun e=>hbk (by rw [← (show c=b from e)]; exact hc)
   have hmt:=pK a.args s bk (q+1) B _ ht2 (hN2.sub hnd hsub) hq9;have hrest:∀ p v,wr.cell? ⟨b,o+p,none⟩=some v→(p < i * 2∨i * 2+2≤p)→(w2.setCell ⟨b,o+i * 2,none⟩ (.string (aW q))).cell? ⟨b,o+p,none⟩=some v:=fun p v hv hp=>dK (cell_later hb2 hv) (by omega)
   have hblk:∀ c ∈ bs,c ≠ b→(w2.setCell ⟨b,o+i * 2,none⟩ (.string (aW q))).heap[c]? = wr.heap[c]?:=fun c hc hne=>by rw [Below.heap_setCell _ _ _ _ hne,hb2.block c (HN.out.lt hc)]
   have HR:=η hrest;have HB:=η hblk;obtain ⟨Ae,ce,rfl,_⟩:=af ht;clear hrest hblk ht ht2 c0 c1 f0
   go_wp2_with fail
   generalize hw3:w2.setCell ⟨b,o+i * 2,none⟩ (.string (aW q))=w3 at *;clear hw3;refine hmt.mono ?_;rintro e w4 ⟨rfl,hR4,hN4,hK4⟩
   have R:=HP.out w4 [.string (aW q),.slice Ae a.args.length ce] (WC a q) rfl
    (fun j v hv=>by
     match j,hv with
     | 0,hv=>
      simp only [List.getElem?_cons_zero,Option.some.injEq] at hv;subst hv;rw [Nat.add_zero];exact hK4.cell hbk g4
     | 1,hv=>
      simp only [List.getElem?_cons_succ,List.getElem?_cons_zero,Option.some.injEq] at hv;subst hv;rw [← Nat.add_assoc];exact hK4.cell hbk g3
     | j+2,hv=>simp at hv)
    (fun p v hv hp=>hK4.cell hbk (HR.out p v hv hp))
    (fun c hc hne hnb=>by rw [hK4.block c (hN2.lt hc) hnb,HB.out c hc hne])
    ⟨_,rfl,l9 (k:=q) (by omega),hR4⟩
   rw [HY.out,HS.out] at R;have hN5:New B w4 bs:=hN2.mix hN4 hK4;have hK5:bU bs w w4:=hK.trans (hk2.trans (hK4.mono hsub));clear HP HN HR HB hmt g0 g1 f2 g3 g4 hK4 hN4 hN2 hk2 hR4 HY HS
   go_wp2_with fail
   go_roundw
   case rel=>exact ⟨i+1,_,HLT.out,by go_num,by have:=HQ.out; have:=HSN.out; have:=HC.out; go_num,rfl,R,hN5,hK5⟩
   case measure=>have:=HLT.out; simp [intOf]; omega
  ·have he:i=ts.length:=by omega
   subst he;have HY:Hid (ys=pI ts k):=η (by rw [hy,qL]; rfl);have HT:Hid (ts.take ts.length=ts):=η (List.take_of_length_le (Nat.le_refl _));clear hy;go_wp2;go_ret;exact ⟨by rw [HT.out]; rfl,by rw [← HY.out]; exact hT,hNr,hK⟩
theorem vk (ts:List A) (v:Value) (bs:List Nat) (k:Nat) (w:World) (h:aI w [v] (pI ts k) bs) (hk:k+bI jf ts≤1000000000000):
  Calls Tryz.prog 16 #[v,.int .i64 k] w (Held (k+bI jf ts) w):=by
 obtain ⟨Ad,cap,rfl,hl,hm⟩:=af h;have hzl:=uY ts k;rw [hzl] at h hl ⊢;have hlen:ts.length≤1000000000000:=Nat.le_trans (wZ jf IG ts) (by omega);clear hm hl
 go_enter Tryz.func16,Tryz.ntmps16
 go_wp2
 go_loopw [1,5] (fun q j wr=>∃ i:Nat,i≤ts.length∧j=.int .i64 i∧q=.int .i64 (k+bI jf (ts.take i):Nat)∧Below w.heap.size w wr) (fun _ j _=>ts.length - (intOf j).toNat)
 case atStart=>exact ⟨0,Nat.zero_le _,rfl,rfl,Below.refl _ _⟩
 case round=>
  obtain ⟨i,hi,rfl,rfl,hb⟩:=hrel;by_cases hlt:i < ts.length
  ·have HLT:=η hlt
   obtain ⟨b,o,Ae,ce,bk,rfl,_,c0,c1,hel,_⟩:=dG (ai.below h hb) (k:=i) (by rw [hzl]; exact hlt);rw [O6 hlt] at c0 c1 hel;have hsn:=jG jf ts i hlt;have hle2:=mg jf ts i hlt;clear h hzl;have hlt':(i:Int) < (ts.length:Int):=by omega
   have hk0:(0:Int)≤(i:Int):=by omega
   generalize ts[i]=a at *;obtain ⟨q,hq⟩:∃ q,q=k+bI jf (ts.take i):=⟨_,rfl⟩;rw [← hq] at c0 c1 hel ⊢;have hca:jf a=1+2 * a.args.length:=rfl;have hq1:q+1+2 * a.args.length≤1000000000000:=by omega
   have d0:(0:Int)≤(q:Int)+1:=by omega
   have d1:(0:Int)≤(q:Int)+1+2 * (a.args.length:Int):=by omega
   have HQ:=η hq;have HSN:=η hsn;have HC:=η hca;have ht:=eH hel;dsimp only [WC] at c0 c1 ht;rw [uX] at c1 ht;clear hq hsn hle2 hca hel;have hD:Below wr.heap.size wr wr.drew:=Below.drew (Below.refl _ _);go_wp2
   go_region_held3 (fun w'=>w'.cell? ⟨b,o+i * 2,none⟩=some (.string (aW q))) (first | go_keep | exact cell_later hw2 c0)
    (first | (go_at_call 39; refine (jX q _ (by omega)).mono ?_; rintro e w2 ⟨rfl,hw2⟩))
   have hB2:=hD.trans hw2;have B2:=hb.trans (hB2.mono hb.size);have e1:=cell_later hB2 c1;have hh:=DW a.args _ bk (q+1) w2 (aH.below ht hB2) hq1;clear ht c0 c1
   go_wp2_with fail
   refine hh.mono ?_;rintro e w4 ⟨rfl,hb4⟩;clear hh;have B4:=B2.trans (hb4.mono B2.size)
   go_wp2_with fail
   go_roundw
   case rel=>exact ⟨i+1,HLT.out,by go_num,by have:=HQ.out; have:=HSN.out; have:=HC.out; go_num,B4⟩
   case measure=>have:=HLT.out; simp [intOf]; omega
  ·have he:i=ts.length:=by omega
   subst he;have HT:Hid (ts.take ts.length=ts):=η (List.take_of_length_le (Nat.le_refl _));go_wp2;go_ret;exact ⟨by rw [HT.out]; rfl,hb⟩
def D.mO (r:Ru):Nat:=1+2 * r.head.args.length+bI qM r.body
def D.UZ (r:Ru) (k:Nat):Ru:=⟨⟨aW k,nY r.head.args (k+1)⟩,LP r.body (k+1+2 * r.head.args.length)⟩
def D.SA:List Ru→Nat→List Ru:=jO UZ mO
theorem D.PD (r:Ru):1≤mO r:=by unfold mO; omega
theorem DY (ts:List Ru) (v:Value) (bs:List Nat) (k B:Nat) (w:World) (h:dO w [v] ts bs) (hN:New B w bs) (hk:k+bI mO ts≤1000000000000):
  Calls Tryz.prog 14 #[v,.int .i64 k] w (Marked dO [v] (SA ts k) bs (k+bI mO ts) B w):=by
 obtain ⟨Ad,cap,rfl,hl,hm⟩:=af h;have hlen:ts.length≤1000000000000:=Nat.le_trans (wZ mO PD ts) (by omega);clear hm
 go_enter Tryz.func14,Tryz.ntmps14
 go_wp2
 go_loopw [1,5] (fun q j wr=>∃ (i:Nat) (ys:List Ru),i≤ts.length∧j=.int .i64 i∧q=.int .i64 (k+bI mO (ts.take i):Nat)∧ys=kN UZ mO ts k i∧dO wr [.slice Ad ts.length cap] ys bs∧New B wr bs∧bU bs w wr) (fun _ j _=>ts.length - (intOf j).toNat)
 case atStart=>exact ⟨0,ts,Nat.zero_le _,rfl,rfl,rfl,h,hN,bU.refl _ _⟩
 case round=>
  obtain ⟨i,ys,hi,rfl,rfl,hy,hT,hNr,hK⟩:=hrel;clear h hN;by_cases hlt:i < ts.length
  ·have HLT:=η hlt
   have hle:ys.length=ts.length:=by rw [hy,kF]
   have hey:ys[i]'(by omega)=ts[i]:=by subst hy; exact uI hlt
   have HS:=η (oV (mk:=UZ) (cnt:=mO) (k:=k) hlt);have hsn:=jG mO ts i hlt;have hle2:=mg mO ts i hlt;have HY:=η hy;clear hy;obtain ⟨b,o,cs,bk,rfl,hb,hbk,hnd,hsub,hcs,hcell,hat,hput⟩:=oU dY hT hNr.nodup (k:=i) (by omega);rw [hey] at hat;obtain ⟨s1,s2,b1,b2,rfl,_,rfl,ht,hp⟩:=hat;obtain ⟨u0,c0⟩:∃ u,wr.cell? ⟨b,o+i * 3,none⟩=some u:=⟨_,hcell 0 _ rfl⟩;have c1:wr.cell? ⟨b,o+i * 3+1,none⟩=some s1:=by have:=hcell 1 _ rfl; rwa [← Nat.add_assoc] at this
   have c2:wr.cell? ⟨b,o+i * 3+2,none⟩=some s2:=by have:=hcell 2 _ rfl; rwa [← Nat.add_assoc] at this
   have hWb:=hNr.VO b hb;have f0:=hWb.frozen (o+i * 3);have hbl:=hNr.lt hb;generalize ts[i]=a at *;have hca:mO a=1+2 * a.head.args.length+bI qM a.body:=rfl;have HP:=η hput;have HL:=η hle;have HN:=η hNr;have HSN:=η hsn;clear hcell hput hT hcs hle hNr hey hsn hWb;obtain ⟨q,hq⟩:∃ q,q=k+bI mO (ts.take i):=⟨_,rfl⟩;rw [← hq] at HS ⊢;have hq9:q+1+2 * a.head.args.length+bI qM a.body≤1000000000000:=by omega
   have hq1:(q:Int)+1≤1000000000000:=by omega
   have hq2:q≤1000000000000:=by omega
   have HQ:=η hq;have HC:=η hca;have hb1:b ∉ b1:=fun h=>hbk (List.mem_append_left _ h)
   have hb2':b ∉ b2:=fun h=>hbk (List.mem_append_right _ h)
   have hs1:∀ c ∈ b1,c ∈ bs:=fun c h=>hsub c (List.mem_append_left _ h)
   have hs2:∀ c ∈ b2,c ∈ bs:=fun c h=>hsub c (List.mem_append_right _ h)
   have hnd1:=(List.nodup_append.1 hnd).1;have hnd2:=(List.nodup_append.1 hnd).2.1;have hpar:=(List.nodup_append.1 hnd).2.2;clear hq hle2 hca
   go_wp2_with fail
   refine (jX q _ (by omega)).mono ?_;rintro e w2 ⟨rfl,hb2⟩;have hN2:New B w2 bs:=HN.out.below hb2;have g0:w2.cell? ⟨b,o+i * 3,none⟩=some u0:=cell_later hb2 c0;have g1:w2.cell? ⟨b,o+i * 3+1,none⟩=some s1:=cell_later hb2 c1;have g2:w2.cell? ⟨b,o+i * 3+2,none⟩=some s2:=cell_later hb2 c2;have f2:w2.frozen? ⟨b,o+i * 3,none⟩=false:=(hb2.frozen (p:=⟨b,o+i * 3,none⟩) hbl).trans f0;have HB2:=η hb2;have hk2:bU bs wr (w2.setCell ⟨b,o+i * 3,none⟩ (.string (aW q))):=(bU.of_below hb2).setCell hb _;have hN3:New B (w2.setCell ⟨b,o+i * 3,none⟩ (.string (aW q))) bs:=hN2.set _ _;have hrest:∀ p v,wr.cell? ⟨b,o+p,none⟩=some v→(p < i * 3∨i * 3+3≤p)→(w2.setCell ⟨b,o+i * 3,none⟩ (.string (aW q))).cell? ⟨b,o+p,none⟩=some v:=fun p v hv hp=>dK (cell_later hb2 hv) (by omega)
   have hblk:∀ c ∈ bs,c ≠ b→(w2.setCell ⟨b,o+i * 3,none⟩ (.string (aW q))).heap[c]? = wr.heap[c]?:=fun c hc hne=>by rw [Below.heap_setCell _ _ _ _ hne,hb2.block c (HN.out.lt hc)]
   have g3:(w2.setCell ⟨b,o+i * 3,none⟩ (.string (aW q))).cell? ⟨b,o+i * 3+1,none⟩=some s1:=dK g1 (by omega);have g4:(w2.setCell ⟨b,o+i * 3,none⟩ (.string (aW q))).cell? ⟨b,o+i * 3+2,none⟩=some s2:=dK g2 (by omega);have g5:(w2.setCell ⟨b,o+i * 3,none⟩ (.string (aW q))).cell? ⟨b,o+i * 3,none⟩=some (.string (aW q)):=World.cell?_setCell_same' _ _ _ (by rw [g0]; rfl);have ht3:eY (w2.setCell ⟨b,o+i * 3,none⟩ (.string (aW q))) [s1] a.head.args b1:=aH.keep ht fun c hc=>hblk c (hs1 c hc) fun e=>hb1 (by rw [← e]; exact hc)
   have hp3:gm (w2.setCell ⟨b,o+i * 3,none⟩ (.string (aW q))) [s2] a.body b2:=aY.keep hp fun c hc=>hblk c (hs2 c hc) fun e=>hb2' (by rw [← e]; exact hc)
   obtain ⟨Ae,ce,rfl,_⟩:=af ht;obtain ⟨Af,cf,rfl,_⟩:=af hp;have HR:=η hrest;have HB:=η hblk;have HT3:=η ht3;have HP3:=η hp3;clear hrest hblk hN2 ht hp ht3 hp3 c0 c1 c2 f0
   go_wp2_with fail
   generalize hw3:w2.setCell ⟨b,o+i * 3,none⟩ (.string (aW q))=w3 at *;clear hw3 g0 g1 g2 f2;refine (pK a.head.args _ b1 (q+1) B _ HT3.out (hN3.sub hnd1 hs1) (by omega)).mono ?_;rintro e w4 ⟨rfl,hR4,hN4,hK4⟩;have j0:=hK4.cell (p:=⟨b,o+i * 3,none⟩) hb1 g5;have j1:=hK4.cell (p:=⟨b,o+i * 3+1,none⟩) hb1 g3;have j2:=hK4.cell (p:=⟨b,o+i * 3+2,none⟩) hb1 g4;have hp4:gm w4 [.slice Af a.body.length cf] a.body b2:=aY.keep HP3.out fun c hc=>hK4.block c (hN3.lt (hs2 c hc)) fun h=>hpar c h c hc rfl
   have hN5:New B w4 bs:=hN3.mix hN4 hK4;have HK4:=η hK4;have HR4:=η hR4;have HN4:=η hN4;have HP4:=η hp4;clear hK4 hR4 hN4 hp4 g3 g4 g5;have hqq:(q:Int)+1+2 * (a.head.args.length:Int)≤1000000000000:=by omega
   go_wp2_with fail
   have hcast:(((q+1+2 * a.head.args.length:Nat)):Int)=(q:Int)+1+2 * (a.head.args.length:Int):=by omega
   refine (DX a.body _ b2 (q+1+2 * a.head.args.length) B _ HP4.out (hN5.sub hnd2 hs2) (by omega)).mono ?_;rintro e w5 ⟨rfl,hR6,hN6,hK6⟩;have hR5:eY w5 [.slice Ae a.head.args.length ce] (nY a.head.args (q+1)) b1:=aH.keep HR4.out fun c hc=>hK6.block c (hN5.lt (hs1 c hc)) fun h=>hpar c hc c h rfl
   have R:=HP.out w5 [.string (aW q),.slice Ae a.head.args.length ce,.slice Af a.body.length cf] (UZ a q) rfl
    (fun j v hv=>by
     match j,hv with
     | 0,hv=>
      simp only [List.getElem?_cons_zero,Option.some.injEq] at hv;subst hv;rw [Nat.add_zero];exact hK6.cell hb2' j0
     | 1,hv=>
      simp only [List.getElem?_cons_succ,List.getElem?_cons_zero,Option.some.injEq] at hv;subst hv;rw [← Nat.add_assoc];exact hK6.cell hb2' j1
     | 2,hv=>
      simp only [List.getElem?_cons_succ,List.getElem?_cons_zero,Option.some.injEq] at hv;subst hv;rw [← Nat.add_assoc];exact hK6.cell hb2' j2
     | j+3,hv=>simp at hv)
    (fun p v hv hp=>hK6.cell hb2' (HK4.out.cell hb1 (HR.out p v hv hp)))
    (fun c hc hne hnb=>by rw [hK6.block c (hN5.lt hc) fun h=>hnb (List.mem_append_right _ h),HK4.out.block c (hN3.lt hc) fun h=>hnb (List.mem_append_left _ h),HB.out c hc hne])
    ⟨_,_,b1,b2,rfl,l9 (k:=q) (by omega),rfl,hR5,hR6⟩
   rw [HY.out,HS.out] at R;have hN7:New B w5 bs:=hN5.mix hN6 hK6;have hK7:bU bs w w5:=hK.trans (hk2.trans ((HK4.out.mono hs1).trans (hK6.mono hs2)));clear HP HN HR HB hK6 hN6 hN5 hk2 hR6 hR5 HY HS HT3 HP3 HK4 HR4 HN4 HP4 j0 j1 j2 hcast
   go_wp2_with fail
   go_roundw
   case rel=>exact ⟨i+1,_,HLT.out,by go_num,by have:=HQ.out; have:=HSN.out; have:=HC.out; go_num,rfl,R,hN7,hK7⟩
   case measure=>have:=HLT.out; simp [intOf]; omega
  ·have he:i=ts.length:=by omega
   subst he;have HY:Hid (ys=SA ts k):=η (by rw [hy,qL]; rfl);have HT:Hid (ts.take ts.length=ts):=η (List.take_of_length_le (Nat.le_refl _));clear hy;go_wp2;go_ret;exact ⟨by rw [HT.out]; rfl,by rw [← HY.out]; exact hT,hNr,hK⟩
theorem D.Jl (xs:List Ru):bI mO xs≤3 * vI xs:=by
 unfold vI
 induction xs with
 | nil=>simp [bI]
 | cons x xs ih=>
  have h0:=RG x.body;have h1:mO x≤3+3 * rP x:=by unfold mO rP jm; omega
  simp only [bI,List.map_cons,List.sum_cons,List.length_cons] at *;omega
end Go.Proofs.YtiidmgchadagbaaGreatDoor
