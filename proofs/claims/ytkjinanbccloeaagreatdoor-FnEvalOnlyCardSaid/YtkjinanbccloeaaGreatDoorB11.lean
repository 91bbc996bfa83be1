/- Of the proof of FnEvalOnly: AtomsS, Facts2, CmpD, Draw2, FsH. -/
import Derived.Test.YtkjinanbccloeaaGreatDoorB10
import Derived.Test.YtkjinanbccloeaaGreatDoorB09
set_option linter.unusedVariables false
set_option maxHeartbeats 8000000
set_option maxRecDepth 100000
namespace Go.Proofs.YtkjinanbccloeaaGreatDoor
open Go.RowKit D
attribute [local go_sem ↓] Go.wp_at_zero Go.wp_at_succ
theorem PD:(Tryz.prog.info? 33).map (fun i=>(i.zero,i.size,i.bytes))=some (some (.agg #[.string ⟨#[]⟩,.slice none 0 0]),2,40):=by kernel_rfl
structure D.y8 (w:World) (v:Value) (L:List Value) (xs:List A) (wr:World):Prop where
 coll:∃ bs,aZ 2 aG w.heap.size 33 wr v L xs bs
 bel:Below w.heap.size w wr
theorem D.y8.below {w wr w':World} {v:Value} {L:List Value} {xs:List A} (h:y8 w v L xs wr) (y:Below wr.heap.size wr w'):y8 w v L xs w':=
 ⟨by obtain ⟨bs,hc⟩:=h.coll; exact ⟨bs,hc.below aj y⟩,h.bel.trans (y.mono h.bel.size)⟩
theorem y9 (rs:List Ru) (v:Value) (bs:List Nat) (w:World) (h:dS w [v] rs bs) (hn:(aF rs).length≤1000000):
  Calls Tryz.prog 169 #[v] w fun e w'=>Below w.heap.size w w'∧∃ v' b2,e=.returned v'∧aU w' [v'] (aF rs) b2:=by
 obtain ⟨Ad,cap,rfl,hl,hm⟩:=ak h;have b3:=aA (τ hl hm);obtain ⟨i0,hi,a9,aa,ab⟩:=info_parts PD
 have HN:Hid (∀ k,(aF (rs.take k)).length≤1000000):=η fun k=>by
  have h1:aF rs=aF (rs.take k) ++ aF (rs.drop k):=by unfold aF; rw [← List.flatMap_append,List.take_append_drop]
  rw [h1,χ] at hn; omega
 have ac:Hid (y8 w (.slice (some ⟨w.heap.size,0,none⟩) 0 0) [] [] (w.alloc (.cells #[] 33))):=η ⟨⟨[],aZ.empty (ω _ _) ν⟩,ζ⟩;clear hl hm hn
 go_enter Tryz.func169,Tryz.ntmps169
 go_wp2;generalize w.alloc (.cells #[] 33)=w0 at *
 go_loopw [3,4] (fun v i wr=>∃ (k:Nat) (Av:Option Addr) (cp:Nat) (L:List Value) (xs:List A),k≤rs.length∧i=.int .i64 k∧v=.slice Av xs.length cp∧xs=aF (rs.take k)∧y8 w (.slice Av xs.length cp) L xs wr) (fun _ i _=>rs.length - (intOf i).toNat)
 case atStart=>exact ⟨0,_,0,[],[],ε,rfl,rfl,rfl,ac.out⟩
 case round=>
  obtain ⟨k,Av,cp,L,xs,hk,rfl,rfl,a5,I⟩:=hrel;clear ac;have HX:=η a5;have a6:Hid (xs.length≤1000000):=η (by rw [a5]; exact HN.out k);clear a5;by_cases J:k < rs.length
  ·obtain ⟨b,o,Ae,ce,Af,cf,bk,rfl,_,d0,d1,d2,a1,_⟩:=gy h J
   have e2:=ξ I.bel d2;replace d0:=ξ I.bel d0;replace d1:=ξ I.bel d1;have D2:=η d2;have b5:(0:Int)≤(k:Int):=by omega
   have az:(k:Int) < (rs.length:Int):=by omega
   have ae:Hid ((aF (rs.take k) ++ [rs[k].head] ++ eG rs[k].body).length≤1000000):=η (by rw [← oI rs k J]; exact HN.out (k+1));obtain ⟨b1,b2,_,a0,af⟩:=iO a1;have aD:=η af;have b6:(rs[k].body.length:Int)≤1000000:=by have:=ae.out; rw [χ,lu] at this; omega
   have hA:Below wr.heap.size wr (wr.alloc (.cells #[.string rs[k].head.name,.slice Ae rs[k].head.args.length ce] 33)):=ζ;obtain ⟨ag,U⟩:=(I.below hA).coll;have HC:=η U;have HB:=η (I.below hA).bel;have HR:Hid (aQ 2 aG (wr.alloc (.cells #[.string rs[k].head.name,.slice Ae rs[k].head.args.length ce] 33)) [.string rs[k].head.name,.slice Ae rs[k].head.args.length ce] [rs[k].head] b1):=η (aQ.dh eU (aj.below (aj.below a0 I.bel) hA));have HL:Hid (Lies (wr.alloc (.cells #[.string rs[k].head.name,.slice Ae rs[k].head.args.length ce] 33)) (some ⟨wr.heap.size,0,none⟩) [.string rs[k].head.name,.slice Ae rs[k].head.args.length ce]):=η (aS (ω wr (.cells #[.string rs[k].head.name,.slice Ae rs[k].head.args.length ce] 33)));have HF:Hid (∀ c ∈ b1,(Value.slice Av xs.length cp).ownBlock ≠ some c):=η fun c hc=>aP U.own (aj.lt a0 c hc)
   have am:=η J;have aE:=η (oI rs k J);clear h a1 a0 af I hA U d2;generalize rs[k]=r at *;clear J;obtain ⟨⟨nm,args⟩,body⟩:=r;dsimp only at *
   go_wp2_with (at_builtin; refine bW rfl _ _ _ rfl w.heap.size 33 i0 (.agg #[.string ⟨#[]⟩,.slice none 0 0]) 2 40 Tryz.underlying24 hi a9 aa ab rfl (by omega) aj (.slice Av xs.length cp) xs.length _ _ _ rfl HC.out rfl (some ⟨wr.heap.size,0,none⟩) 1 1 _ [⟨nm,args⟩] _ rfl HR.out rfl HL.out HF.out (by have:=a6.out; unfold maxLen; omega) (by have:=a6.out; omega) w w.heap.size HB.out ν HB.out.size ?_; intro A2 a4 w2 a2 a3 a7 _)
   have ao:Hid (y8 w (.slice A2 (xs ++ [(⟨nm,args⟩:A)]).length a4) (L ++ [.string nm,.slice Ae args.length ce]) (xs ++ [(⟨nm,args⟩:A)]) w2):=η ⟨⟨_,by rw [χ]; exact a2⟩,a3⟩;have ap:Hid (xs ++ [(⟨nm,args⟩:A)]=aF (rs.take k) ++ [(⟨nm,args⟩:A)]):=η (by rw [HX.out]);have aq:xs.length+1=(xs ++ [(⟨nm,args⟩:A)]).length:=by simp
   rw [aq];clear a2 a3 a7 HC HB HR HL HF d0 d1 HX aq e2;generalize xs ++ [(⟨nm,args⟩:A)]=ys at *;generalize L ++ [.string nm,.slice Ae args.length ce]=M at *;clear a6;go_wp2
   go_loopw [3,5] (fun v i wr=>∃ (j:Nat) (Av:Option Addr) (cp:Nat) (M:List Value) (zs:List A),j≤body.length∧i=.int .i64 j∧v=.slice Av zs.length cp∧zs=ys ++ eG (body.take j)∧y8 w (.slice Av zs.length cp) M zs wr) (fun _ i _=>body.length - (intOf i).toNat)
   case atStart=>exact ⟨0,_,_,_,ys,ε,rfl,rfl,by simp [eG],ao.out⟩
   case round=>
    obtain ⟨j,Aw,cq,M2,zs,hj,rfl,rfl,a8,I⟩:=hrel;clear ao;have HZ:=η a8
    have ar:Hid (zs.length+1≤1000001):=η (by
     have h1:=ae.out;rw [← ap.out,χ,lu] at h1
     rw [a8,χ,lu,List.length_take]; omega)
    clear a8;have e2:=ξ I.bel D2.out;by_cases J:j < body.length
    ·obtain ⟨b4,o4,Ag,cg,bg,rfl,_,f0,f1,f2,a1,_⟩:=iH aD.out J
     replace f0:=ξ I.bel f0;replace f1:=ξ I.bel f1;replace f2:=ξ I.bel f2;have b7:(0:Int)≤(j:Int):=by omega
     have aL:(j:Int) < (body.length:Int):=by omega
     have a0:=iV a1;have hA:Below wr.heap.size wr (wr.alloc (.cells #[.string body[j].atom.name,.slice Ag body[j].atom.args.length cg] 33)):=ζ;obtain ⟨ag,U⟩:=(I.below hA).coll;have HC:=η U;have HB:=η (I.below hA).bel;have HR:Hid (aQ 2 aG (wr.alloc (.cells #[.string body[j].atom.name,.slice Ag body[j].atom.args.length cg] 33)) [.string body[j].atom.name,.slice Ag body[j].atom.args.length cg] [body[j].atom] bg):=η (aQ.dh eU (aj.below (aj.below a0 I.bel) hA));have HL:Hid (Lies (wr.alloc (.cells #[.string body[j].atom.name,.slice Ag body[j].atom.args.length cg] 33)) (some ⟨wr.heap.size,0,none⟩) [.string body[j].atom.name,.slice Ag body[j].atom.args.length cg]):=η (aS (ω wr (.cells #[.string body[j].atom.name,.slice Ag body[j].atom.args.length cg] 33)));have HF:Hid (∀ c ∈ bg,(Value.slice Aw zs.length cq).ownBlock ≠ some c):=η fun c hc=>aP U.own (aj.lt a0 c hc)
     have av:=η J;have aM:=η (qU body j J);clear a1 a0 I hA U;generalize body[j]=p at *;clear J;obtain ⟨no,⟨pn,y⟩⟩:=p;dsimp only at *
     go_wp2_with (at_builtin; refine bW rfl _ _ _ rfl w.heap.size 33 i0 (.agg #[.string ⟨#[]⟩,.slice none 0 0]) 2 40 Tryz.underlying24 hi a9 aa ab rfl (by omega) aj (.slice Aw zs.length cq) zs.length _ _ _ rfl HC.out rfl (some ⟨wr.heap.size,0,none⟩) 1 1 _ [⟨pn,y⟩] _ rfl HR.out rfl HL.out HF.out (by have:=ar.out; unfold maxLen; omega) (by have:=ar.out; omega) w w.heap.size HB.out ν HB.out.size ?_; intro A2 a4 w2 a2 a3 a7 _)
     have aR:Hid (y8 w (.slice A2 (zs ++ [(⟨pn,y⟩:A)]).length a4) (M2 ++ [.string pn,.slice Ag y.length cg]) (zs ++ [(⟨pn,y⟩:A)]) w2):=η ⟨⟨_,by rw [χ]; exact a2⟩,a3⟩;clear a2 a3 a7 HC HB HR HL HF f0 f1 f2 e2;go_wp2;go_roundw
     case rel=>exact ⟨j+1,A2,a4,_,zs ++ [(⟨pn,y⟩:A)],av.out,by go_num,by simp,by rw [aM.out,HZ.out,List.append_assoc],aR.out⟩
     case measure=>have:=av.out; simp [intOf]; omega
    ·have he:j=body.length:=by omega
     have aL:¬ (j:Int) < (body.length:Int):=by omega
     have HE:Hid (zs=aF (rs.take (k+1))):=η (by rw [aE.out,HZ.out,ap.out,he,ϕ ν]);have HV:=η I;clear I he;go_wp2;go_roundw
     case rel=>exact ⟨k+1,Aw,cq,M2,zs,am.out,by go_num,rfl,HE.out,HV.out⟩
     case measure=>have:=am.out; simp [intOf]; omega
  ·have he:k=rs.length:=by omega
   have az:¬ (k:Int) < (rs.length:Int):=by omega
   obtain ⟨ag,U⟩:=I.coll;obtain ⟨b2,aw,_⟩:=U.slice;have hx:xs=aF rs:=by rw [HX.out,he,ϕ ν]
   have HZ:Hid (Below w.heap.size w wr∧∃ b2,aU wr [.slice Av xs.length cp] (aF rs) b2):=η ⟨I.bel,b2,by rw [← hx]; exact aw⟩;clear h I he hx aw U HX;go_wp2;go_ret;obtain ⟨q1,q2,q3⟩:=HZ.out;exact ⟨q1,_,rfl,q2,q3⟩
theorem zH (y:Option Addr) (n cap:Nat) (w:World):
  Calls Tryz.prog 66 #[.slice y n cap] w fun e w'=>e=.returned (.agg #[.slice y n cap,.func (.func 64) #[] #[]])∧Below w.heap.size w w':=by
 go_enter Tryz.func66,Tryz.ntmps66
 go_wp2;exact bodyPost_ret (v:=.agg #[.slice y n cap,.func (.func 64) #[] #[]]) (by simp [results,Tryz.results66,go_sem]) rfl ⟨rfl,by repeat (first | exact ϑ | (refine Below.setCell ?_ (by first | (simp; done) | (simp; omega)) _) | (refine Below.alloc ?_ (by first | (simp; done) | (simp; omega)) _))⟩
theorem Jz (xs:List A) (v:Value) (bs:List Nat) (w:World) (h:aU w [v] xs bs):
  Calls Tryz.prog 67 #[.agg #[v,.func (.func 64) #[] #[]]] w fun e w'=>e=.returned (.bool (fK xs))∧Below w.heap.size w w':=by
 obtain ⟨Ad,cap,rfl,hl,hm⟩:=ak h;have a7:=aA (τ hl hm);clear hm;have a0:Below w.heap.size w (w.alloc (.cells #[.slice Ad xs.length cap,.func (.func 64) #[] #[]] 112)):=ζ
 go_enter Tryz.func67,Tryz.ntmps67
 go_wp2
 go_loopw [3] (fun i wr=>∃ k:Nat,0 < k∧(k≤xs.length∨k=1)∧i=.int .i64 k∧AL xs k∧Below w.heap.size w wr∧wr.cell? ⟨w.heap.size,0,none⟩=some (.slice Ad xs.length cap)∧wr.cell? ⟨w.heap.size,1,none⟩=some (.func (.func 64) #[] #[])∧w.heap.size < wr.heap.size) (fun i _=>xs.length+1 - (intOf i).toNat)
 case atStart=>exact ⟨1,Nat.one_pos,.inr rfl,rfl,O0 _,a0,by go_simp,by go_simp,by simp⟩
 case round=>
  obtain ⟨k,a8,hk,rfl,J,hb,s0,s1,a4⟩:=hrel;have HA:=η J;have HK:=η hk;clear J a0 hk;by_cases U:k < xs.length
  ·have a9:(0:Int)≤(k:Int):=by omega
   have aa:(k:Int) < (xs.length:Int):=by omega
   obtain ⟨j,I⟩:∃ j,k=j+1:=⟨k - 1,by omega⟩;have a5:j < xs.length:=by omega
   have HS:Hid (dD xs[j] xs[k] < 0→AL xs (k+1)):=by subst I; exact η (fun hc=>L8 (xs:=xs) (k:=j) HA.out U hc)
   have HB:Hid (¬ dD xs[j] xs[k] < 0→fK xs=false):=by subst I; exact η (fun hc=>Vb xs j U hc)
   have ab:IntKind.i64.wrap ((k:Int) - 1)=(j:Int):=(IntWalk.i64_in _ ⟨by omega,by omega⟩).trans (by omega);have hK:=η I;have ac:(0:Int)≤(j:Int):=by omega
   have ae:(j:Int) < (xs.length:Int):=by omega
   clear HA I;obtain ⟨b,o,Ae,ce,bk,Af,cf,bm,rfl,c0,c1,a1,d0,d1,a2⟩:=EQ (au.below h hb) a5 U;have hD:Below wr.heap.size wr wr.drew:=Below.drew ϑ;have a3:=Et xs[j] xs[k] _ _ _ _ bk bm wr.drew (aj.below a1 hD) (aj.below a2 hD);clear h a1 a2;by_cases hc:dD xs[j] xs[k] < 0
   ·have a6:¬ 0≤dD xs[j] xs[k]:=by omega
    have HC:=η (HS.out hc);clear hc;go_wp2
    go_region_held3 (fun w'=>w'.cell? ⟨b,o+j * 2,none⟩=some (.string xs[j].name)∧w'.cell? ⟨b,o+j * 2+1,none⟩=some (.slice Ae xs[j].args.length ce)∧w'.cell? ⟨b,o+k * 2,none⟩=some (.string xs[k].name)∧w'.cell? ⟨b,o+k * 2+1,none⟩=some (.slice Af xs[k].args.length cf)∧w'.cell? ⟨w.heap.size,0,none⟩=some (.slice (some ⟨b,o,none⟩) xs.length cap)∧w'.cell? ⟨w.heap.size,1,none⟩=some (.func (.func 64) #[] #[]))
     (first | go_keep | exact ⟨y0,y1,y2,y3,y4,y5⟩)
     (first
      | (go_at_call 64; refine a3.mono ?_; rintro e w2 ⟨rfl,y⟩; have y0:=ξ y c0; have y1:=ξ y c1; have y2:=ξ y d0; have y3:=ξ y d1; have y4:=ξ y s0; have y5:=ξ y s1; have B2:=hD.trans y))
    go_wp2;go_roundw
    case rel=>exact ⟨k+1,Nat.succ_pos _,.inl (by omega),by go_num,HC.out,hb.trans (B2.mono hb.size),y4,y5,κ a4 B2.size⟩
    case measure=>simp [intOf]; omega
   ·have a6:0≤dD xs[j] xs[k]:=by omega
    have HC:=η (HB.out hc);clear hc;go_wp2
    go_region_held3 (fun w'=>w'.cell? ⟨b,o+j * 2,none⟩=some (.string xs[j].name)∧w'.cell? ⟨b,o+j * 2+1,none⟩=some (.slice Ae xs[j].args.length ce)∧w'.cell? ⟨b,o+k * 2,none⟩=some (.string xs[k].name)∧w'.cell? ⟨b,o+k * 2+1,none⟩=some (.slice Af xs[k].args.length cf)∧w'.cell? ⟨w.heap.size,0,none⟩=some (.slice (some ⟨b,o,none⟩) xs.length cap)∧w'.cell? ⟨w.heap.size,1,none⟩=some (.func (.func 64) #[] #[]))
     (first | go_keep | exact ⟨y0,y1,y2,y3,y4,y5⟩)
     (first
      | (go_at_call 64; refine a3.mono ?_; rintro e w2 ⟨rfl,y⟩; have y0:=ξ y c0; have y1:=ξ y c1; have y2:=ξ y d0; have y3:=ξ y d1; have y4:=ξ y s0; have y5:=ξ y s1; have B2:=hD.trans y))
    go_wp2;go_ret;exact ⟨aJ HC.out.symm,hb.trans (B2.mono hb.size)⟩
  ·have HE:Hid (fK xs=true):=η (Ve fun j hj af=>HA.out j hj (by have:=HK.out; omega))
   go_wp2;go_ret;exact ⟨aJ HE.out.symm,hb⟩
structure D.Grew (w w':World):Prop where
 bel:Below w.heap.size w w'
 dr:w.drawn≤w'.drawn
theorem D.Grew.refl (w:World):Grew w w:=⟨ϑ,ν⟩
theorem D.Grew.trans {a b c:World} (h:Grew a b) (k:Grew b c):Grew a c:=⟨h.bel.trans (k.bel.mono h.bel.size),τ h.dr k.dr⟩
theorem D.Grew.alloc {w w':World} (h:Grew w w') (o:Obj):Grew w (w'.alloc o):=⟨h.bel.alloc h.bel.size _,h.dr⟩
theorem D.Grew.is {w w':World} (h:Grew w w'):∃ q y,w'=Go.Sort.grow (w.drewN q) y:=by
 refine ⟨w'.drawn - w.drawn,w'.heap.extract w.heap.size w'.heap.size,?_⟩;have U:=h.bel.os;have e2:=h.bel.tape;have e3:=h.bel.output;have e4:w'.drawn=w.drawn+(w'.drawn - w.drawn):=by have:=h.dr; omega
 have e5:w'.heap=w.heap ++ w'.heap.extract w.heap.size w'.heap.size:=by
  have hs:=h.bel.size;apply Array.ext
  ·simp; omega
  ·intro i h1 h2
   by_cases I:i < w.heap.size
   ·rw [Array.getElem_append_left I]
    have:=h.bel.block i I;rw [Array.getElem?_eq_getElem h1,Array.getElem?_eq_getElem I] at this;exact Option.some.inj this
   ·rw [Array.getElem_append_right (by omega)]
    simp
    congr 1
    omega
 obtain ⟨hp,tp,dn,os,out⟩:=w;obtain ⟨a0,a1,a2,y,J⟩:=w';simp only [Go.Sort.grow,World.drewN] at *;subst U e2 e3;rw [← e4,← e5]
theorem JA (t u:T) (w:World):
  Calls Tryz.prog 126 #[.agg #[.bool t.var,.string t.name],.agg #[.bool u.var,.string u.name]] w fun e w'=>e=.returned (.int .i64 (fA t.name u.name))∧Grew w w':=by
 go_enter Tryz.func126,Tryz.ntmps126
 go_wp2_with (go_at_call 124; refine (kE _ _ _).mono ?_; rintro e w' ⟨rfl,rfl⟩)
 go_ret;exact ⟨rfl,((Grew.refl _).alloc _).alloc _⟩
theorem xZ (I us:List T) (v1 v2:Value) (b1 b2:List Nat) (w:World) (h1:eP w [v1] I b1) (h2:eP w [v2] us b2):
  Calls Tryz.prog 125 #[v1,v2,.func (.func 126) #[] #[]] w
   fun e w'=>e=.returned (.int .i64 (kL I us))∧Grew w w':=by
 obtain ⟨Ad,cap,rfl,hl,hm⟩:=ak h1;obtain ⟨a5,cap2,rfl,a1,a0⟩:=ak h2;have a6:=aA (τ hl hm);have a4:=aA (τ a1 a0);clear hm a0
 go_enter Tryz.func125,Tryz.ntmps125
 go_wp2
 go_loopw [13] (fun i wr=>∃ k:Nat,k≤I.length∧k≤us.length∧i=.int .i64 k∧kL I us=kL (I.drop k) (us.drop k)∧Grew w wr) (fun i _=>I.length - (intOf i).toNat)
 case atStart=>exact ⟨0,ε,ε,rfl,rfl,Grew.refl _⟩
 case round=>
  obtain ⟨k,hk,a7,rfl,hc,hb⟩:=hrel;have HC:=η hc;clear hc;by_cases U:k < I.length
  ·obtain ⟨b,o,rfl,_,c0,c1,_⟩:=dY (aN.below h1 hb.bel) U
   have hA:Grew wr (wr.alloc (.cells #[.bool I[k].var,.string I[k].name] 91)):=(Grew.refl _).alloc _;by_cases y:k < us.length
   ·obtain ⟨b',o',rfl,_,d0,d1,_⟩:=dY (aN.below h2 (hb.trans hA).bel) y
    have J:=η (uo U y);clear h1 h2
    go_wp2_with fail
    refine (JA I[k] us[k] _).mono ?_;rintro e w' ⟨rfl,a2⟩;have B':Grew w w':=((hb.alloc _).alloc _).trans a2;by_cases hz:fA I[k].name us[k].name=0
    ·have a3:(fA I[k].name us[k].name == 0)=true:=by simp [hz]
     have HZ:=η hz;clear hz hA;go_wp2;go_roundw
     case rel=>exact ⟨k+1,by omega,by omega,by go_num,by rw [HC.out,J.out,if_pos HZ.out],B'⟩
     case measure=>simp [intOf]; omega
    ·have a3:(fA I[k].name us[k].name == 0)=false:=by simp [hz]
     have HZ:=η hz;clear hz hA;go_wp2;go_ret;exact ⟨dO (by rw [HC.out,J.out,if_neg HZ.out]),B'⟩
   ·clear h1 h2
    have J:=η (uq U (Nat.le_of_not_lt y));go_wp2;go_ret;exact ⟨dO (by rw [HC.out,J.out]),hb.trans hA⟩
  ·have he:I.length≤k:=by omega
   by_cases y:k < us.length
   ·have J:=η (uw he y)
    have hx:I.length < us.length:=by omega
    go_wp2;go_ret;exact ⟨dO (by rw [HC.out,J.out]),hb⟩
   ·have J:=η (uy he (Nat.le_of_not_lt y))
    have hx:¬ I.length < us.length:=by omega
    go_wp2;go_ret;exact ⟨dO (by rw [HC.out,J.out]),hb⟩
theorem nJ (a b:A) (c0 c1 d0 d1:Value) (b1 b2:List Nat) (w:World) (h1:aG w [c0,c1] a b1) (J:aG w [d0,d1] b b2):
  Calls Tryz.prog 64 #[.agg #[c0,c1],.agg #[d0,d1]] w fun e w'=>e=.returned (.int .i64 (dD a b))∧Grew w w':=by
 obtain ⟨Ad,cap,rfl,rfl⟩:=aY h1;obtain ⟨Ae,y,rfl,rfl⟩:=aY J;have hq:=fun w' (hb:Grew w w')=>xZ a.args b.args (.slice Ad a.args.length cap) (.slice Ae b.args.length y) b1 b2 w' (dm (aj.below h1 hb.bel)) (dm (aj.below J hb.bel))
 have hc:dD a b=if fA a.name b.name=0 then kL a.args b.args else fA a.name b.name:=rfl
 have HC:=η hc;clear h1 J hc;have U:=((Grew.refl w).alloc (.cells #[.string a.name,.slice Ad a.args.length cap] 33)).alloc (.cells #[.string b.name,.slice Ae b.args.length y] 33);by_cases I:fA a.name b.name=0
 ·have a0:(fA a.name b.name != 0)=false:=by simp [I]
  have HZ:=η I;clear I
  go_enter Tryz.func64,Tryz.ntmps64
  go_wp2_with (go_at_call 124; refine (kE _ _ _).mono ?_; rintro e w' ⟨rfl,rfl⟩)
  refine (hq _ U).mono ?_;rintro e w' ⟨rfl,a1⟩;go_wp2;go_ret;exact ⟨dO (by rw [HC.out,if_pos HZ.out]),U.trans a1⟩
 ·have a0:(fA a.name b.name != 0)=true:=by simp [I]
  have HZ:=η I;clear I
  go_enter Tryz.func64,Tryz.ntmps64
  go_wp2_with (go_at_call 124; refine (kE _ _ _).mono ?_; rintro e w' ⟨rfl,rfl⟩)
  go_ret;exact ⟨dO (by rw [HC.out,if_neg HZ.out]),U⟩
theorem SS (g p:Nat) (y:List ByteArray) (n b:Nat) (w:World) (h:kH g p w) (J:w.heap[b]? = some (.cells (y.map Value.string).toArray 9 (0,0))) (U:g ≠ b) (hp:p≤1000000) (hn:y.length=n) (h1:1≤n) (h2:n≤100) (I:∀ s ∈ y,Sm s):
  Calls Tryz.prog 159 #[.pointer (some ⟨g,0,none⟩),.slice (some ⟨b,0,none⟩) n n] w (Word g p w):=by
 subst hn;refine (RN g p _ y _ _ h (tK (cap:=y.length) J ν (by unfold maxLen; omega) (fun s hm=>Sm.max (I s hm))) hp h1 (by omega) (by split <;> simp <;> omega)).mono ?_;rintro e w' ⟨s,rfl,hm,hR,hG⟩;exact ⟨s,rfl,I s hm,hR,aH.dM hG⟩
theorem JB {k g p' p0 q I B:Nat} {w wr:World} {nm:ByteArray} {v:Value} {L:List Value} {xs:List T} {x y:Value} (J:wr.heap[I]? = some (.cells #[x,y] 33 (0,0))) (h0:w.heap.size≤I) (hC:aZ 2 jb B 91 wr v L xs []) (hB:w.heap.size≤B)
  (hR:kH g p' wr) (hK:aH [g] w wr) (hg:g < w.heap.size) (hn:Sm nm) (hx:xs.length≤k) (hp:p'≤p0+q):Jm k g p0 q w (.returned (.agg #[.string nm,v])) ((wr.setCell ⟨I,0,none⟩ (.string nm)).setCell ⟨I,1,none⟩ v):=by
 have U:Below w.heap.size wr ((wr.setCell ⟨I,0,none⟩ (.string nm)).setCell ⟨I,1,none⟩ v):=(ϑ.setCell h0 _).setCell h0 _;have b0:=AU (u:=.string nm) J;have c1:=(hC.mono hB).lZ (o:=0) (u:=.string nm) bD (iQ hC.own J (by decide)) (by simp);exact ⟨⟨nm,xs⟩,v,L,p',rfl,hn,hx,c1.lZ bD (iQ c1.own b0 (by decide)) (by simp),hR.fM U hg,hp,hK.fM U ν⟩
theorem D.aH.blk {bs:List Nat} {w w':World} {b:Nat} {cs:Array Value} {t:TypeId} (h:aH bs w w') (y:w.heap[b]? = some (.cells cs t (0,0))) (I:b ∉ bs):w'.heap[b]? = some (.cells cs t (0,0)):=(h.block b (ψ y) I).trans y
theorem WL {g b:Nat} {W X y:World} {cs:Array Value} {t:TypeId} (I:W.grownBy y (some g)) (J:X.heap[b]? = some (.cells cs t (0,0))) (U:g ≠ b):W=X.drew→y.heap[b]? = some (.cells cs t (0,0)):=by
 rintro rfl;exact (aH.dM I).blk J (by simp; omega)
def JC (w:World) (b:Nat):Nat:=match w.cell? ⟨b,1,none⟩ with
 | some (.slice _ l _)=>l
 | _=>0
theorem JD {w:World} {b l c:Nat} {A:Option Addr} (h:w.cell? ⟨b,1,none⟩=some (.slice A l c)):JC w b=l:=by unfold JC; rw [h]
theorem jo.Vt {g p:Nat} {w:World} {I J:Nat} {nm:ByteArray} {v:Value} {L:List Value} {xs:List T} {wr:World} (h:jo g p w I J nm v L xs wr):∃ x y,wr.cell? ⟨I,0,none⟩=some x∧wr.cell? ⟨I,1,none⟩=some y:=by
 obtain ⟨x,y,hr⟩:=h.r0;exact ⟨x,y,ai hr,ai hr⟩
theorem jo.start {g p B:Nat} {w wr:World} {J:Nat} {nm:ByteArray} {v:Value} {L:List Value} {xs:List T} {x y:Value} (I:wr.heap[J]? = some (.cells #[x,y] 33 (0,0))) (h0:w.heap.size≤J) (hC:aZ 2 jb B 91 wr v L xs []) (hB:w.heap.size≤B)
  (hR:kH g p wr) (hK:aH [g] w wr) (hg:g < w.heap.size) (a0:∀ t ∈ xs,Sm t.name):jo g p w J wr.heap.size nm v L xs (wr.alloc (.cells #[.string nm,v] 33)):=by
 have U:Below wr.heap.size wr (wr.alloc (.cells #[.string nm,v] 33)):=ζ;have hl:=ψ I;exact ⟨⟨x,y,(U.block J hl).trans I⟩,ω wr _,h0,hK.size,by omega,(hC.mono hB).below bD U,hR.below U,hK.fM U hK.size,hg,a0⟩
theorem wu (g p:Nat) (w:World) (h:kH g p w) (hp:p≤800000):
  Calls Tryz.prog 139 #[.pointer (some ⟨g,0,none⟩)] w (Jo 4 g p 20 w):=by
 obtain ⟨i0,hi,aq,ar,av⟩:=info_parts Fv;have hA:Below w.heap.size w (w.alloc (.cells #[.string ⟨#[]⟩,.slice none 0 0] 33)):=ζ;have ho:=pW g p [⟨#[101]⟩,⟨#[112]⟩,⟨#[116]⟩,⟨#[113]⟩,⟨#[122]⟩,⟨#[104]⟩] 6 (w.alloc (.cells #[.string ⟨#[]⟩,.slice none 0 0] 33)) (h.below hA) (by omega) rfl (by decide) (by decide) (by decide);rw [World.size_alloc] at ho;have hg:=h.lt;have J:=η (ω w (.cells #[.string ⟨#[]⟩,.slice none 0 0] 33));have aw:=η hp;clear h hp
 go_enter Tryz.func139,Tryz.ntmps139
 go_wp2_with fail
 refine ho.mono ?_;rintro e w1 ⟨s,rfl,hs,hR,hK⟩;replace J:=η (hK.blk J.out (by simp; omega));have HK:=η ((aH.of_below hA (bs:=[g])).trans hK);have az:=mX s true g (p+1) w1 hR (by have:=aw.out; omega) hs;clear ho hK hR hA
 go_wp2_with fail
 refine az.mono ?_;rintro e w2 ⟨a,v,L,p',rfl,aD,hx,hC,aE,b8,ae,aL⟩;replace J:=η (ae.blk J.out (by simp; omega));have y:=η (jo.start (nm:=a.name) J.out ν hC HK.out.size aE (HK.out.trans ae) hg aL);have HP:Hid (p'≤p+7∧p≤800000):=η (by have:=aw.out; omega);have HN:=η aD;have HX:=η hx;obtain ⟨Av,cv,rfl⟩:=fE hC.own;have aM:=pick_any g p' 16 _ y.out.rdr (by have:=HP.out; omega) (by omega) (by omega);clear az hC aE ae aD hx b8 hs HK J aL
 go_wp2_with fail
 refine aM.mono ?_;rintro e w3 ⟨j,rfl,hj,aR,U⟩;replace y:=η (y.out.call aR (aH.dM U));have b9:w2.heap.size < w3.heap.size:=lt_of_cell y.out.cell0;clear aM aR U;by_cases bc:j=0
 ·subst bc
  have ho:=pW g (p'+1) [⟨#[]⟩,⟨#[110,111,116]⟩,⟨#[65]⟩,⟨#[97,98,99,100,101,102,103,104,105]⟩] 4 w3 y.out.rdr (by have:=HP.out; omega) rfl (by decide) (by decide) (by decide)
  go_wp2_with fail
  refine ho.mono ?_;rintro e w4 ⟨s4,rfl,b1,a0,b2⟩;replace y:=η (y.out.call a0 b2);have q0:=y.out.cell0;have q1:=y.out.cell1;have g0:=y.out.tq 0;have g1:=y.out.tq 1;replace y:=η (y.out.name s4);have bp:=y.out.cell1;have bq:=y.out.cell0;have f0:=y.out.tN 0;have f1:=y.out.tN 1;have z0:=y.out.Vt;obtain ⟨zx,zy,z0,z1⟩:=z0;have HD:=η (y.out.done (k:=4) (q:=20) (p0:=p) b1 (by have:=HX.out; omega) (by have:=HP.out; omega));clear ho a0 b2 b1;go_wp2;refine bodyPost_ret (v:=.agg #[.string s4,.slice Av a.args.length cv]) (by simp [results,Tryz.results139,go_sem,z0,z1]) rfl HD.out
 ·have bl:((j:Int) == 0)=false:=beq_eq_false_iff_ne.2 (by omega)
  by_cases bf:j=1
  ·subst bf
   have a1:=y;have br:=a1.out.cell0;have bt:=a1.out.cell1;replace y:=η y.out.drew;have q0:=y.out.cell0;have q1:=y.out.cell1;have q2:=y.out.tq 1;have bu:a.args.length≤3:=HX.out;have af:Hid (a.args.length+1≤maxLen):=η (by unfold maxLen; omega);have ag:Hid ((a.args.length+1) * 24≤140737488355328):=η (by omega);have b3:Hid (g ≠ w3.heap.size):=η (by have:=a1.out.kept.size; omega);have bg:=η (ω w3 (.cells #[.string ⟨#[]⟩,.string ⟨#[120]⟩,.string ⟨#[88]⟩,.string ⟨#[88,121,49]⟩,.string ⟨#[88,89]⟩,.string ⟨#[65,98,99,100,101,102,103,104]⟩,.string ⟨#[65,98,99,100,101,102,103,104,105]⟩] 9));go_wp2
   go_region_law
    (first
     | (have bv:=HT; refine aT (by rfl) (.tmp 20) (.tmp 28) _ (by rfl) w.heap.size 91 i0 (.agg #[.bool false,.string ⟨#[]⟩]) 2 24 Tryz.underlying31 hi aq ar av rfl (Θ 1) bD (.slice Av a.args.length cv) a.args.length L a.args [] (by rfl) (HT.out _).1 rfl (some ⟨w5.heap.size,0,none⟩) 1 1 _ [⟨_,s5⟩] _ (by rfl) (HT.out _).2.1 rfl (HT.out _).2.2.1 (fun b hb=>by simp at hb) af.out ag.out w5 w.heap.size (HT.out _).2.2.2.1 ν (HT.out _).2.2.2.2.1 ?_; intro A3 c3 w6 a5 a6 am U; have J:=η (y.out.app a5 a6 U (HT.out false).2.2.2.2.2); replace q0:=J.out.1; replace q1:=J.out.2.1; replace q2:=J.out.2.2.1; clear a5 a6 am U)
     | (go_simp; go_at_call 47; refine Calls.mono (pick_any g (p'+1) 2 _ (by first | with_reducible exact y.out.rdr | exact (a1.out.alloc (.cells #[.string ⟨#[]⟩,.string ⟨#[120]⟩,.string ⟨#[88]⟩,.string ⟨#[88,121,49]⟩,.string ⟨#[88,89]⟩,.string ⟨#[65,98,99,100,101,102,103,104]⟩,.string ⟨#[65,98,99,100,101,102,103,104,105]⟩] 9)).drew.rdr) (by have:=HP.out; omega) (by omega) (by omega)) ?_; rintro e w4 ⟨j2,rfl,ab,a0,a4⟩; have HQ:=η (WL a4 bg.out b3.out); have b4:=η (jo.call (p:=p'+1) (by first | with_reducible exact y.out | exact (a1.out.alloc (.cells #[.string ⟨#[]⟩,.string ⟨#[120]⟩,.string ⟨#[88]⟩,.string ⟨#[88,121,49]⟩,.string ⟨#[88,89]⟩,.string ⟨#[65,98,99,100,101,102,103,104]⟩,.string ⟨#[65,98,99,100,101,102,103,104,105]⟩] 9)).drew) a0 (aH.dM a4)); clear y; have y:=b4; clear b4; replace q0:=y.out.cell0; replace q1:=y.out.cell1; replace q2:=y.out.tq 1; have bh:w2.heap.size < w4.heap.size:=lt_of_cell q1; clear a0 a4)
     | (have ao:=HQ.out (by with_reducible rfl); go_simp; go_at_call 159; refine (SS g _ [⟨#[]⟩,⟨#[120]⟩,⟨#[88]⟩,⟨#[88,121,49]⟩,⟨#[88,89]⟩,⟨#[65,98,99,100,101,102,103,104]⟩,⟨#[65,98,99,100,101,102,103,104,105]⟩] 7 _ w4 y.out.rdr ao b3.out (by have:=HP.out; omega) rfl (by decide) (by decide) (by decide)).mono ?_; rintro e w5 ⟨s5,rfl,a7,a8,a9⟩; (try clear ao); replace y:=η (y.out.call a8 a9); replace q0:=y.out.cell0; replace q1:=y.out.cell1; replace q2:=y.out.tq 1; have bi:w2.heap.size < w5.heap.size:=lt_of_cell q1; have HT:=η (fun b=>y.out.lit b s5 a7); clear a8 a9 a7)
     | (go_simp; go_at_call 159; refine (pW g _ [⟨#[]⟩,⟨#[120]⟩,⟨#[88]⟩,⟨#[88,121,49]⟩,⟨#[88,89]⟩,⟨#[65,98,99,100,101,102,103,104]⟩,⟨#[65,98,99,100,101,102,103,104,105]⟩] 7 w4 y.out.rdr (by have:=HP.out; omega) rfl (by decide) (by decide) (by decide)).mono ?_; rintro e w5 ⟨s5,rfl,a7,a8,a9⟩; (try clear ao); replace y:=η (y.out.call a8 a9); replace q0:=y.out.cell0; replace q1:=y.out.cell1; replace q2:=y.out.tq 1; have bi:w2.heap.size < w5.heap.size:=lt_of_cell q1; have HT:=η (fun b=>y.out.lit b s5 a7); clear a8 a9 a7))
   all_goals
    have I:=η J.out.2.2.2;clear y HT J q0 q1 q2;have q0:=I.out.cell0;have q1:=I.out.cell1;have f0:=I.out.tN 0;have f1:=I.out.tN 1;have z0:=I.out.Vt;obtain ⟨zx,zy,z0,z1⟩:=z0;have HD:=η (I.out.done (k:=4) (q:=20) (p0:=p) HN.out (by have:=HX.out; simp; omega) (by have:=HP.out; omega));go_wp2;refine bodyPost_ret (v:=.agg #[.string a.name,.slice A3 (a.args.length+1) c3]) (by simp [results,Tryz.results139,go_sem,z0,z1]) rfl HD.out
  ·have bn:((j:Int) == 1)=false:=beq_eq_false_iff_ne.2 (by omega)
   by_cases ab:j=2
   ·subst ab
    have b5:Hid (∃ (xs:List T) (a2:Option Addr) (a3:Nat) (L':List Value) (p2:Nat),xs.length≤4∧p2≤p+8+xs.length∧jo g p2 w w.heap.size w2.heap.size a.name (.slice a2 xs.length a3) L' xs w3):=η ⟨a.args,Av,cv,L,p'+1,by have:=HX.out; omega,by have:=HP.out; omega,y.out⟩;clear y b9;go_wp2
    go_loopw [] (fun wr=>∃ (xs:List T) (a2:Option Addr) (a3:Nat) (L':List Value) (p2:Nat),xs.length≤4∧p2≤p+8+xs.length∧jo g p2 w w.heap.size w2.heap.size a.name (.slice a2 xs.length a3) L' xs wr) (fun wr=>5 - JC wr w2.heap.size)
    case atStart=>exact b5.out
    case round=>
     obtain ⟨xs,a2,a3,L',p2,b6,ac,hI⟩:=hrel;have y:=η hI.drew;have a1:=η hI;have aa:Hid (xs.length≤4∧p2≤p+8+xs.length∧p≤800000):=η ⟨b6,ac,HP.out.2⟩;have af:Hid (xs.length+1≤maxLen):=η (by unfold maxLen; omega);have ag:Hid ((xs.length+1) * 24≤140737488355328):=η (by omega);clear hI b5 b6 ac;have q1:=y.out.cell1;go_wp2
     go_region_held3 (fun w'=>w'.cell? ⟨w2.heap.size,1,none⟩=some (.slice a2 xs.length a3)) (first | exact q1 | go_keep)
      (first
       | (go_at_call 47; refine (pick_any g _ 2 _ y.out.rdr (by have:=aa.out; omega) (by omega) (by omega)).mono ?_; rintro e w4 ⟨j2,rfl,ab,a0,a4⟩; have bw:IntKind.i64.wrap (3+(j2:Int))=3+(j2:Int):=(by simp only [IntKind.wrap,IntKind.bits,IntKind.signed]; simp; omega); replace y:=η (y.out.call a0 (aH.dM a4)); replace q1:=y.out.cell1; clear a0 a4))
     have q0:=y.out.cell0;have bh:w2.heap.size < w4.heap.size:=lt_of_cell q1;by_cases ap:xs.length < 3+j2
     ·have b7:(xs.length:Int) < 3+(j2:Int):=by omega
      have HT:=η (y.out.lit false ⟨#[97]⟩ (by decide));have bj:=η ap;have HJ:=η ab;have g1:=y.out.tq 1;clear ap
      go_wp2_with (at_builtin; refine bW rfl _ _ _ rfl w.heap.size 91 i0 (.agg #[.bool false,.string ⟨#[]⟩]) 2 24 Tryz.underlying31 hi aq ar av rfl (Θ 1) bD (.slice a2 xs.length a3) xs.length L' xs [] rfl HT.out.1 rfl (some ⟨w4.heap.size,0,none⟩) 1 1 _ [⟨false,⟨#[97]⟩⟩] _ rfl HT.out.2.1 rfl HT.out.2.2.1 (fun b hb=>by simp at hb) af.out ag.out w4 w.heap.size HT.out.2.2.2.1 ν HT.out.2.2.2.2.1 ?_; intro A3 c3 w6 a5 a6 am U; have J:=η (y.out.app a5 a6 U HT.out.2.2.2.2.2); replace q0:=J.out.1; replace q1:=J.out.2.1; have q2:=J.out.2.2.1; clear a5 a6 am U)
      have I:=η J.out.2.2.2;have HM:Hid (JC wr w2.heap.size=xs.length):=η (JD a1.out.cell1);have bk:Hid (JC (w6.setCell ⟨w2.heap.size,1,none⟩ (.slice A3 (xs.length+1) c3)) w2.heap.size=xs.length+1):=η (JD I.out.cell1);clear y HT J q0 q1 q2;go_roundw
      case rel=>exact ⟨xs ++ [⟨false,⟨#[97]⟩⟩],A3,c3,L' ++ [.bool false,.string ⟨#[97]⟩],p2+1,by have:=bj.out; have:=HJ.out; simp; omega,by have:=aa.out; simp; omega,by simpa using I.out⟩
      case measure=>have:=HM.out; have:=bk.out; have:=aa.out; omega
     ·have b7:¬ (xs.length:Int) < 3+(j2:Int):=by omega
      have f0:=y.out.tN 0;have f1:=y.out.tN 1;have z0:=y.out.Vt;obtain ⟨zx,zy,z0,z1⟩:=z0;have HD:=η (y.out.done (k:=4) (q:=20) (p0:=p) HN.out aa.out.1 (by have:=aa.out; omega));clear ap;go_wp2;refine bodyPost_ret (v:=.agg #[.string a.name,.slice a2 xs.length a3]) (by simp [results,Tryz.results139,go_sem,z0,z1]) rfl HD.out
   ·have bo:((j:Int) == 2)=false:=beq_eq_false_iff_ne.2 (by omega)
    have q0:=y.out.cell0;have q1:=y.out.cell1;have f0:=y.out.tN 0;have f1:=y.out.tN 1;have z0:=y.out.Vt;obtain ⟨zx,zy,z0,z1⟩:=z0;have HD:=η (y.out.done (k:=4) (q:=20) (p0:=p) HN.out (by have:=HX.out; simp; omega) (by have:=HP.out; omega));go_wp2;refine bodyPost_ret (v:=.agg #[.string a.name,.slice Av a.args.length cv]) (by simp [results,Tryz.results139,go_sem,z0,z1]) rfl HD.out
theorem CP (g p:Nat) (w:World) (h:kH g p w) (y:p≤800000):
 Calls Tryz.prog 139 #[.pointer (some ⟨g,0,none⟩)] w (Jm 4 g p 20 w):=(wu g p w h y).mono fun _ _ h=>h.weak
theorem D.JE {xs:List A} {a:A} (h:∀ j (h:j < xs.length),xs[j] ≠ a):a ∉ xs:=by
 intro hm;obtain ⟨j,y,rfl⟩:=List.mem_iff_getElem.1 hm;exact h j y rfl
theorem FD (xs:List A) (a:A) (v c0 c1:Value) (b1 b2:List Nat) (w:World) (h:aU w [v] xs b1) (h2:aG w [c0,c1] a b2):
  Calls Tryz.prog 16 #[v,.agg #[c0,c1]] w (RP (a ∈ xs) w):=by
 obtain ⟨Ad,cap,rfl,hl,hm⟩:=ak h;obtain ⟨Aa,ca,rfl,rfl⟩:=aY h2;have a5:=aA (τ hl hm);have hA:Below w.heap.size w (w.alloc (.cells #[.string a.name,.slice Aa a.args.length ca] 33)):=ζ;have x0:(w.alloc (.cells #[.string a.name,.slice Aa a.args.length ca] 33)).cell? ⟨w.heap.size,0,none⟩=some (.string a.name):=by go_simp
 have x1:(w.alloc (.cells #[.string a.name,.slice Aa a.args.length ca] 33)).cell? ⟨w.heap.size,1,none⟩=some (.slice Aa a.args.length ca):=by go_simp
 have I:=η (ι hA (ι x0 x1));clear hl hm hA x0 x1
 go_enter Tryz.func16,Tryz.ntmps16
 go_wp2
 go_loopw [5] (fun i wr=>∃ k:Nat,k≤xs.length∧i=.int .i64 k∧(∀ j (h1:j < xs.length),j < k→xs[j] ≠ a)∧Below w.heap.size w wr∧wr.cell? ⟨w.heap.size,0,none⟩=some (.string a.name)∧wr.cell? ⟨w.heap.size,1,none⟩=some (.slice Aa a.args.length ca)) (fun i _=>xs.length - (intOf i).toNat)
 case atStart=>exact ⟨0,ε,rfl,fun j _ h=>by omega,I.out.1,I.out.2.1,I.out.2.2⟩
 case round=>
  obtain ⟨k,hk,rfl,U,hb,x0,x1⟩:=hrel;have HA:=η U;clear U I;by_cases a0:k < xs.length
  ·obtain ⟨bb,o,A1,p1,a3,rfl,_,e0,e1,a1,_⟩:=dJ (au.below h hb) a0
   have a6:(0:Int)≤(k:Int):=by omega
   have a7:(k:Int) < (xs.length:Int):=by omega
   have a2:=η a0
   have HU:Hid (xs[k] ≠ a→∀ j (h1:j < xs.length),j < k+1→xs[j] ≠ a):=η (fun e j h1 hj=>by
    by_cases a4:j=k
    ·subst a4; exact e
    ·exact HA.out j h1 (by omega))
   have HV:Hid (xs[k]=a→a ∈ xs):=η (fun e=>e ▸ δ _);have hf:=BO xs[k] a _ _ _ _ a3 b2 _ (aj.below a1 (ϑ.drew)) (aj.below h2 (hb.drew));generalize xs[k]=t at *;clear h h2 a0 a1;go_wp2
   go_region_held3 (fun w'=>w'.cell? ⟨bb,o+k * 2,none⟩=some (.string t.name)∧w'.cell? ⟨bb,o+k * 2+1,none⟩=some (.slice A1 t.args.length p1)∧w'.cell? ⟨w.heap.size,0,none⟩=some (.string a.name)∧w'.cell? ⟨w.heap.size,1,none⟩=some (.slice Aa a.args.length ca)) (first | go_keep | exact ⟨q0,q1,q2,q3⟩)
    (first | (go_at_call 57; refine hf.mono ?_; rintro e w' ⟨r,rfl,hr,y⟩; have HR:=η hr; clear hr; have q0:=ξ y e0; have q1:=ξ y e1; have q2:=ξ y x0; have q3:=ξ y x1))
   have J:Hid (Below w.heap.size w w'∧w'.cell? ⟨w.heap.size,0,none⟩=some (.string a.name)∧w'.cell? ⟨w.heap.size,1,none⟩=some (.slice Aa a.args.length ca)):=η ⟨hb.trans ((ϑ.drew.trans y).mono hb.size),q2,q3⟩;cases r
   ·have HW:=η (HU.out (fun e=>by have:=HR.out.2 e; cases this))
    go_wp2;go_roundw
    case rel=>exact ⟨k+1,a2.out,by go_num,HW.out,J.out.1,J.out.2.1,J.out.2.2⟩
    case measure=>have:=a2.out; simp [intOf]; omega
   ·have HW:=η (HV.out (HR.out.1 rfl))
    go_wp2;go_ret;exact ⟨true,rfl,by simpa using HW.out,J.out.1⟩
  ·have he:k=xs.length:=by omega
   have HW:Hid (a ∉ xs):=η (JE fun j hj=>HA.out j hj (by omega));subst he;clear h h2;go_wp2;go_ret;exact ⟨false,rfl,by simpa using HW.out,hb⟩
end Go.Proofs.YtkjinanbccloeaaGreatDoor
