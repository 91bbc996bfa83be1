/- Of the proof of FnDelta: TouI, FitS. -/
import Derived.Test.YtkjinanbccloeaaGreatDoorA17
import Derived.Test.YtkjinanbccloeaaGreatDoorA15
set_option linter.unusedVariables false
set_option maxHeartbeats 2000000
set_option maxRecDepth 100000
namespace Go.Proofs.YtkjinanbccloeaaGreatDoor
open Go.RowKit D
attribute [local go_sem ↓] Go.wp_at_zero Go.wp_at_succ
theorem Gt:(Tryz.prog.info? 40).map (fun i=>(i.zero,i.size,i.bytes))=some (some (.agg #[.string ⟨#[]⟩,.slice none 0 0,.slice none 0 0]),3,64):=by kernel_rfl
def D.lY (L:List ByteArray) (p:Pt):Bool:=!p.no && decide (p.atom.name ∈ L)
structure D.um (bc mc n:Nat) (L:List ByteArray) (f:ByteArray→Int) (w:World):Prop where
 c:w.heap[bc]? = some (.cells #[.map (some mc)] 116 (0,0))
 m:iI mc n L f w
 f:∀ s ∈ L,1≤f s∧f s≤1000000
theorem D.um.grown {y mc n:Nat} {L:List ByteArray} {f:ByteArray→Int} {w w':World} {row:Option Nat} (h:um y mc n L f w) (I:w.grownBy w' row) (h1:row ≠ some y) (J:row ≠ some mc):um y mc n L f w':=
 ⟨(I.block _ (ψ h.c) (fun e=>h1 e.symm)).trans h.c,h.m.same (I.block _ h.m.lt (fun e=>J e.symm)),h.f⟩
theorem D.um.later {y mc n:Nat} {L:List ByteArray} {f:ByteArray→Int} {w w':World} (h:um y mc n L f w) (hb:Below w.heap.size w w'):um y mc n L f w':=
 ⟨(hb.block _ (ψ h.c)).trans h.c,h.m.same (hb.block _ h.m.lt),h.f⟩
theorem Uz (bc mc n:Nat) (L:List ByteArray) (f:ByteArray→Int) (p:Pt) (v:Value) (w:World) (U:um bc mc n L f w) (hs:p.atom.name.size≤maxLen):
  Calls Tryz.prog 195 #[.agg #[.bool p.no,.string p.atom.name,v],.pointer (some ⟨bc,0,none⟩)] w fun e w'=>e=.returned (.bool (lY L p))∧Below w.heap.size w w':=by
 have hA:Below w.heap.size w (w.alloc (.cells #[.bool p.no,.string p.atom.name,v] 42)):=ζ;have HB:=η hA;have y:=U.later hA;have HM:=η y.m;have y0:=ai y.c (o:=0);have HS:=η hs;have a0:bc < w.heap.size:=ψ U.c;obtain ⟨no,nm,args⟩:=p;dsimp only at *
 cases no with
 | true=>
  clear U y hs
  go_enter Tryz.func195,Tryz.ntmps195
  go_wp2;go_ret;exact ⟨rfl,HB.out⟩
 | false=>
  by_cases I:nm ∈ L
  ·obtain ⟨z,hz⟩:∃ z,f nm=z:=⟨_,rfl⟩
   have J:=U.f _ I;rw [hz] at J;have HV:=HM.out.Lc HS.out (show (if nm ∈ L then f nm else 0)=z by rw [if_pos I]; exact hz);have a1:=J.1;have HE:Hid (decide (0 < z)=lY L ⟨false,nm,args⟩):=η (by rw [decide_eq_true (by omega)]; unfold lY; simp; exact I);clear U y hs I hz J hA
   go_enter Tryz.func195,Tryz.ntmps195
   go_wp2;go_ret;exact ⟨aG HE.out,HB.out⟩
  ·have HV:=HM.out.Lc HS.out (show (if nm ∈ L then f nm else 0)=0 by rw [if_neg I])
   have HE:Hid (false=lY L ⟨false,nm,args⟩):=η (by unfold lY; simp; exact I);clear U y hs I hA
   go_enter Tryz.func195,Tryz.ntmps195
   go_wp2;go_ret;exact ⟨aG HE.out,HB.out⟩
def D.XJ (b:Bool) (w:World) (e:Ending) (w':World):Prop:=(∃ z:Int,e=.returned (.int .i64 z)∧decide (0≤z)=b)∧Below w.heap.size w w'
theorem D.UA {α:Type} (q:α→Bool) (ps:List α) (k:Nat) (h:k < ps.length):(ps.take (k+1)).any q=((ps.take k).any q || q ps[k]):=by
 rw [ρ h,List.any_append]; simp
theorem D.Wy {α:Type} (q:α→Bool) (ps:List α) (k:Nat) (h:k < ps.length) (hq:q ps[k]=true):ps.any q=true:=List.any_eq_true.2 ⟨_,δ h,hq⟩
theorem Iu (bc mc n:Nat) (L:List ByteArray) (f:ByteArray→Int) (ps:List Pt) (v:Value) (bs:List Nat) (w:World) (hC:um bc mc n L f w) (h:iY w [v] ps bs):
  Calls Tryz.prog 252 #[v,.func (.func 195) #[] #[.pointer (some ⟨bc,0,none⟩)]] w (XJ (ps.any (lY L)) w):=by
 obtain ⟨Ad,cap,rfl,hl,hm⟩:=aj h;have a7:=aA (τ hl hm);have HC:=η hC;have HH:=η h;clear hm hl hC h
 go_enter Tryz.func252,Tryz.ntmps252
 go_wp2
 go_loopw [8] (fun i wr=>∃ k:Nat,k≤ps.length∧i=.int .i64 k∧(ps.take k).any (lY L)=false∧Below w.heap.size w wr) (fun i _=>ps.length - (intOf i).toNat)
 case atStart=>exact ⟨0,ε,rfl,rfl,ϑ⟩
 case round=>
  obtain ⟨k,hk,rfl,J,hb⟩:=hrel;have HA:=η J;clear J;by_cases y:k < ps.length
  ·obtain ⟨b,o,Ae,ce,bk,rfl,_,d0,d1,d2,U,_⟩:=jd (dJ.below HH.out hb) y
   have a8:(0:Int)≤(k:Int):=by omega
   have a4:(k:Int) < (ps.length:Int):=by omega
   have a0:ps[k].atom.name.size≤maxLen:=by obtain ⟨_,_,hs,_⟩:=U; exact hs
   have I:=Uz bc mc n L f ps[k] (.slice Ae ps[k].atom.args.length ce) wr (HC.out.later hb) a0;have a5:=η (UA (lY L) ps k y);have a6:=η (Wy (lY L) ps k y);have a1:=η y;have HB:=η hb;clear U a0 hb;generalize lY L ps[k]=q at *;generalize ps[k]=p at *;obtain ⟨no,nm,args⟩:=p;dsimp only at *;clear y
   go_wp2_with fail
   refine I.mono ?_;rintro e w' ⟨rfl,a2⟩;have a3:=η (HB.out.trans (a2.mono HB.out.size));clear I a2
   cases q with
   | false=>
    go_wp2;go_roundw
    case rel=>exact ⟨k+1,a1.out,by go_num,by rw [a5.out,HA.out]; rfl,a3.out⟩
    case measure=>have:=a1.out; simp [intOf]; omega
   | true=>
    go_wp2;go_ret;exact ⟨⟨_,rfl,by rw [a6.out trivial]; simp⟩,a3.out⟩
  ·have he:=η (show k=ps.length by omega)
   have a4:¬ (k:Int) < (ps.length:Int):=by omega
   go_wp2;go_ret;exact ⟨⟨_,rfl,by have:=HA.out; rw [he.out,ϕ ν] at this; rw [this]; rfl⟩,hb⟩
theorem BV (y mc n:Nat) (L:List ByteArray) (f:ByteArray→Int) (ps:List Pt) (v:Value) (bs:List Nat) (w:World) (I:um y mc n L f w) (h:iY w [v] ps bs):
  Calls Tryz.prog 194 #[v,.func (.func 195) #[] #[.pointer (some ⟨y,0,none⟩)]] w fun e w'=>e=.returned (.bool (ps.any (lY L)))∧Below w.heap.size w w':=by
 have U:=Iu y mc n L f ps v bs w I h;clear h I
 go_enter Tryz.func194,Tryz.ntmps194
 go_wp2_with fail
 refine U.mono ?_;rintro e w' ⟨⟨z,rfl,J⟩,hb⟩;have HZ:=η J;clear J;go_wp2;go_ret;exact ⟨aG HZ.out,hb⟩
structure D.zJ (w:World) (v:Value) (L:List Value) (xs:List Ru) (wr:World):Prop where
 coll:∃ bs,aY 3 gY (w.heap.size+1) 40 wr v L xs bs
 bel:Below w.heap.size w wr
theorem D.zJ.below {w wr w':World} {v:Value} {L:List Value} {xs:List Ru} (h:zJ w v L xs wr) (hb:Below wr.heap.size wr w'):zJ w v L xs w':=
 ⟨by obtain ⟨bs,hc⟩:=h.coll; exact ⟨bs,hc.below aX hb⟩,h.bel.trans (hb.mono h.bel.size)⟩
theorem D.BF {α:Type} (q:α→Bool) (ps:List α) (k:Nat) (h:k < ps.length):(ps.take (k+1)).filter q=if q ps[k]=true then (ps.take k).filter q ++ [ps[k]] else (ps.take k).filter q:=by
 rw [ρ h,List.filter_append]
 cases hq:q ps[k] <;> simp [hq]
theorem Ls (mc n:Nat) (L:List ByteArray) (f:ByteArray→Int) (rs:List Ru) (v:Value) (bs:List Nat) (w:World) (h:eu w [v] rs bs) (hM:iI mc n L f w) (hf:∀ s ∈ L,1≤f s∧f s≤1000000) (bn:rs.length≤1000000):
  Calls Tryz.prog 135 #[v,.map (some mc)] w fun e w'=>Below w.heap.size w w'∧∃ Av cp b2,e=.returned (.slice Av (rs.filter fun r=>r.body.any (lY L)).length cp)∧eu w' [.slice Av (rs.filter fun r=>r.body.any (lY L)).length cp] (rs.filter fun r=>r.body.any (lY L)) b2:=by
 obtain ⟨Ad,cap,rfl,hl,hm⟩:=aj h;have bo:=aA (τ hl hm);obtain ⟨i0,hi,az,aD,aE⟩:=info_parts Gt;have aa:Below w.heap.size w (w.alloc (.cells #[.map (some mc)] 116)):=ζ;have ab:Hid (um w.heap.size mc n L f (w.alloc (.cells #[.map (some mc)] 116))):=η ⟨ω _ _,hM.same (aa.block _ hM.lt),hf⟩;have ac:Hid (zJ w (.slice none 0 0) [] [] (w.alloc (.cells #[.map (some mc)] 116))):=η ⟨⟨[],aY.nil _⟩,aa⟩;have aL:=η hM.lt;have HH:=η h;have ae:Hid (∀ k,((rs.take k).filter fun r=>r.body.any (lY L)).length≤1000000):=η fun k=>τ (List.length_filter_le _ _) (by rw [List.length_take]; omega)
 clear hl hm h hM hf
 go_enter Tryz.func135,Tryz.ntmps135
 go_wp2;generalize w.alloc (.cells #[.map (some mc)] 116)=w0 at *
 go_loopw [5,10] (fun v i wr=>∃ (k:Nat) (Av:Option Addr) (cp:Nat) (M:List Value) (xs:List Ru),k≤rs.length∧i=.int .i64 k∧v=.slice Av xs.length cp∧xs=(rs.take k).filter (fun r=>r.body.any (lY L))∧zJ w (.slice Av xs.length cp) M xs wr∧um w.heap.size mc n L f wr) (fun _ i _=>rs.length - (intOf i).toNat)
 case atStart=>exact ⟨0,none,0,[],[],ε,rfl,rfl,rfl,ac.out,ab.out⟩
 case round=>
  obtain ⟨k,Av,cp,M,xs,hk,rfl,rfl,a2,hV,hC⟩:=hrel;clear ac ab;have HX:=η a2;have a3:Hid (xs.length≤1000000):=η (by rw [a2]; exact ae.out k);clear a2;have y0:=ai hC.c (o:=0);have bp:w.heap.size < wr.heap.size:=ψ hC.c;by_cases a0:k < rs.length
  ·obtain ⟨b,o,Ae,ce,Af,cf,bk,rfl,_,d0,d1,d2,a4,_⟩:=iP HH.out a0
   replace d0:=ξ hV.bel d0;replace d1:=ξ hV.bel d1;replace d2:=ξ hV.bel d2;have bq:(0:Int)≤(k:Int):=by omega
   have aM:(k:Int) < (rs.length:Int):=by omega
   have hA:Below wr.heap.size wr (wr.alloc (.cells #[.string rs[k].head.name,.slice Ae rs[k].head.args.length ce,.slice Af rs[k].body.length cf] 40)):=ζ;have a5:=aX.below (aX.below a4 hV.bel) hA;obtain ⟨e1,e2,_,_,af⟩:=jm a5;have I:=BV w.heap.size mc n L f rs[k].body (.slice Af rs[k].body.length cf) e2 _ (hC.later hA) af;have aR:=η (hV.below hA);have b1:=η (hC.later hA);have b3:=η a5;have b4:=η (ω wr (.cells #[.string rs[k].head.name,.slice Ae rs[k].head.args.length ce,.slice Af rs[k].body.length cf] 40));have ag:=η (BF (fun r:Ru=>r.body.any (lY L)) rs k a0);have a1:=η a0;have b5:Hid (∀ c ∈ bk,c < w.heap.size):=η (aX.lt a4);clear a4 a5 af hV hC hA;generalize (rs[k].body.any (lY L))=q at *;generalize rs[k]=r at *;obtain ⟨⟨nm,args⟩,body⟩:=r;dsimp only at *;clear a0
   go_wp2_with fail
   refine I.mono ?_;rintro e w2 ⟨rfl,y⟩;have a6:=η (aR.out.below y);have am:=η (b1.out.later y);have ao:=η (aX.below b3.out y);have br:wr.heap.size < w2.heap.size:=by have:=y.size; simp at this; omega
   have a7:=(y.block wr.heap.size (by simp)).trans b4.out;have c0:=ai a7 (o:=0);have c1:=ai a7 (o:=1);have c2:=ai a7 (o:=2);clear I y
   cases q with
   | false=>
    have a8:Hid (xs=(rs.take (k+1)).filter fun r=>r.body.any (lY L)):=η (by rw [ag.out,HX.out]; rfl);go_wp2;go_roundw
    case rel=>exact ⟨k+1,_,_,_,xs,a1.out,by go_num,rfl,a8.out,a6.out,am.out⟩
    case measure=>have:=a1.out; simp [intOf]; omega
   | true=>
    have a8:Hid (xs ++ [(⟨⟨nm,args⟩,body⟩:Ru)]=(rs.take (k+1)).filter fun r=>r.body.any (lY L)):=η (by rw [ag.out,HX.out]; rfl);have J:Below w2.heap.size w2 (w2.alloc (.cells #[.string nm,.slice Ae args.length ce,.slice Af body.length cf] 40)):=ζ;obtain ⟨b6,a9⟩:=(a6.out.below J).coll;have HC:=η a9;have HB:=η (a6.out.below J).bel;have b7:=η (am.out.later J);have HR:Hid (aT 3 gY (w2.alloc (.cells #[.string nm,.slice Ae args.length ce,.slice Af body.length cf] 40)) [.string nm,.slice Ae args.length ce,.slice Af body.length cf] [(⟨⟨nm,args⟩,body⟩:Ru)] bk):=η (aT.dH oI (aX.below ao.out J));have HL:Hid (Lies (w2.alloc (.cells #[.string nm,.slice Ae args.length ce,.slice Af body.length cf] 40)) (some ⟨w2.heap.size,0,none⟩) [.string nm,.slice Ae args.length ce,.slice Af body.length cf]):=η (aS (ω w2 _));have HF:Hid (∀ c,c < w.heap.size+1→(Value.slice Av xs.length cp).ownBlock ≠ some c):=η fun c hc=>aO a9.own hc
    have b8:Hid (mc < w.heap.size+1):=η (by have:=aL.out; omega);have U:w.heap.size+1≤(w2.alloc (.cells #[.string nm,.slice Ae args.length ce,.slice Af body.length cf] 40)).heap.size:=by simp; omega
    have b9:=η U;clear a9 J U d0 d1 d2
    go_wp2_with (at_builtin; refine cO rfl _ _ _ rfl (w.heap.size+1) 40 i0 (.agg #[.string ⟨#[]⟩,.slice none 0 0,.slice none 0 0]) 3 64 Tryz.underlying23 hi az aD aE rfl (by omega) aX (.slice Av xs.length cp) xs.length _ _ _ rfl HC.out rfl (some ⟨w2.heap.size,0,none⟩) 1 1 _ [⟨⟨nm,args⟩,body⟩] _ rfl HR.out rfl HL.out (fun c hc=>HF.out c (by have:=b5.out c hc; omega)) (by have:=a3.out; unfold maxLen; omega) (by have:=a3.out; omega) w w.heap.size HB.out (Nat.le_succ _) b9.out ?_; intro A2 bc w3 aq ar bf av)
    have bg:Hid (zJ w (.slice A2 (xs ++ [(⟨⟨nm,args⟩,body⟩:Ru)]).length bc) (M ++ [.string nm,.slice Ae args.length ce,.slice Af body.length cf]) (xs ++ [(⟨⟨nm,args⟩,body⟩:Ru)]) w3):=η ⟨⟨_,by rw [χ]; exact aq⟩,ar⟩;have bh:=η (b7.out.grown av (HF.out _ (Nat.lt_succ_self _)) (HF.out _ b8.out));have aw:xs.length+1=(xs ++ [(⟨⟨nm,args⟩,body⟩:Ru)]).length:=by simp
    rw [aw];clear aq ar bf av HC HB HR HL HF aw;go_roundw
    case rel=>exact ⟨k+1,_,_,_,_,a1.out,by go_num,rfl,a8.out,bg.out,bh.out⟩
    case measure=>have:=a1.out; simp [intOf]; omega
  ·have he:k=rs.length:=by omega
   have aM:¬ (k:Int) < (rs.length:Int):=by omega
   have bi:Hid (xs=rs.filter fun r=>r.body.any (lY L)):=η (by rw [HX.out,ϕ (Nat.le_of_eq he.symm)]);have HV:=η hV;clear hV hC HX a3 ae;go_wp2;go_ret;rw [← bi.out];obtain ⟨b6,bj⟩:=HV.out.coll;obtain ⟨b2,bl,_⟩:=bj.slice;exact ⟨HV.out.bel,_,_,rfl,b2,bl⟩
def D.Rf (y:List A) (x:A):Bool:=y.all fun a=>!clash a x
def D.rG (y:List A) (xs:List A):Bool:=xs.all (Rf y)
def D.jO (rs:List Ru) (xs:List A):Bool:=decide (fH rs=0) && aU xs && rG (aI rs) xs
theorem D.LC (y xs:List A) (k:Nat) (h:k < xs.length) (h0:rG y (xs.take k)=true):rG y (xs.take (k+1))=Rf y xs[k]:=by
 unfold rG at *;rw [ρ h,List.all_append,h0]; simp
theorem D.PI (y xs:List A) (k:Nat) (h:k < xs.length) (h0:Rf y xs[k]=false):rG y xs=false:=List.all_eq_false.2 ⟨_,δ h,by simp [h0]⟩
theorem Rh (rs:List Ru) (ys:List A) (v v2:Value) (bs b9:List Nat) (w:World) (h:eu w [v] rs bs) (h2:aB w [v2] ys b9) (hn:(aI rs).length≤1000000):
  Calls Tryz.prog 107 #[v,v2] w fun e w'=>e=.returned (.bool (rG (aI rs) ys))∧Below w.heap.size w w':=by
 obtain ⟨Ad,cap,rfl,hl,hm⟩:=aj h;obtain ⟨Ay,cy,rfl,a4,a5⟩:=aj h2;have af:=aA (τ hl hm);have ab:=aA (τ a4 a5);have c1:=Bf rs _ bs w h hn;generalize aI rs=xs at *;clear hl hm h a4 a5
 go_enter Tryz.func107,Tryz.ntmps107
 go_wp2_with fail
 refine c1.mono ?_;rintro e w1 ⟨hB,v1,b2,rfl,hx⟩;obtain ⟨A1,ac,rfl,a6,a7⟩:=aj hx;have ae:=aA (τ a6 a7);have h3:=ak.below h2 hB;clear c1 a6 a7 h2;go_wp2
 go_loopw [6] (fun i wr=>∃ k:Nat,k≤ys.length∧i=.int .i64 k∧rG xs (ys.take k)=true∧Below w1.heap.size w1 wr) (fun i _=>ys.length - (intOf i).toNat)
 case atStart=>exact ⟨0,ε,rfl,rfl,ϑ⟩
 case round=>
  obtain ⟨k,hk,rfl,a3,hb⟩:=hrel;have HA:=η a3;have HB:=η hb;clear a3 hb;by_cases a0:k < ys.length
  ·have ag:(0:Int)≤(k:Int):=by omega
   have aa:(k:Int) < (ys.length:Int):=by omega
   have HS:=η (LC xs ys k a0 HA.out);have U:=η (PI xs ys k a0);go_wp2
   go_loopw [7] (fun i wr=>∃ j:Nat,j≤xs.length∧i=.int .i64 j∧(∀ i,(hi:i < xs.length)→i < j→clash xs[i] ys[k]=false)∧Below w1.heap.size w1 wr) (fun i _=>xs.length - (intOf i).toNat)
   case atStart=>exact ⟨0,ε,rfl,fun i _ h=>by omega,HB.out⟩
   case round=>
    obtain ⟨j,hj,rfl,hin,hb⟩:=hrel;have HI:=η hin;have a1:=η hb;clear hin;by_cases a2:j < xs.length
    ·have am:(0:Int)≤(j:Int):=by omega
     have ao:(j:Int) < (xs.length:Int):=by omega
     obtain ⟨b,o,Ae,ce,_,rfl,_,d0,d1,_,_⟩:=dU (ak.below h3 hb) a0;obtain ⟨b',o',Af,cf,_,rfl,_,f0,f1,_,_⟩:=dU (ak.below hx hb) a2;have I:Hid (clash xs[j] ys[k]=true→rG xs ys=false):=η fun h=>U.out (List.all_eq_false.2 ⟨_,δ a2,by simp [h]⟩)
     have J:Hid (clash xs[j] ys[k]=false→∀ i,(hi:i < xs.length)→i < j+1→clash xs[i] ys[k]=false):=η fun h i h9 hi=>by
      by_cases e:i=j
      ·subst e; exact h
      ·exact HI.out i h9 (by omega)
     have HC:Hid (clash xs[j] ys[k]=(decide (xs[j].name=ys[k].name) && decide (xs[j].args.length ≠ ys[k].args.length))):=η rfl;clear hx hb h3 U HS;generalize ys[k]=y at *;generalize xs[j]=x at *;obtain ⟨xn,xa⟩:=x;obtain ⟨yn,ya⟩:=y;dsimp only at *;cases hs:(xn.toList == yn.toList)
     ·have HZ:=η (J.out (by rw [HC.out,← pK,hs]; rfl))
      clear J I HC HI HA HB;go_wp2
      go_quiet (fail)
      go_wp2;go_roundw
      case rel=>exact ⟨j+1,a2,by go_num,HZ.out,below_drewN a1.out _⟩
      case measure=>simp [intOf]; omega
     ·by_cases a8:xa.length=ya.length
      ·have HZ:=η (J.out (by rw [HC.out,a8]; simp))
       have hd:(xa.length:Int)=(ya.length:Int):=by omega
       clear J I HC HI HA HB;go_wp2
       go_quiet (fail)
       go_wp2;go_roundw
       case rel=>exact ⟨j+1,a2,by go_num,HZ.out,below_drewN a1.out _⟩
       case measure=>simp [intOf]; omega
      ·have HZ:=η (I.out (by rw [HC.out,← pK,hs]; simpa using a8))
       have hd:¬ (xa.length:Int)=(ya.length:Int):=by omega
       have a9:=η hB;clear J I HC HI HA HB;go_wp2
       go_quiet (fail)
       go_wp2;go_ret;exact ⟨aG HZ.out.symm,a9.out.trans ((below_drewN a1.out _).mono a9.out.size)⟩
    ·have he:j=xs.length:=by omega
     have aq:¬ (j:Int) < (xs.length:Int):=by omega
     have HZ:Hid (rG xs (ys.take (k+1))=true):=η (HS.out.trans (List.all_eq_true.2 fun a ha=>by
      obtain ⟨i,hi,rfl⟩:=List.mem_iff_getElem.1 ha
      rw [HI.out i hi (by omega)]; rfl))
     clear HI HA HB he HS U;go_wp2;go_roundw
     case rel=>exact ⟨k+1,a0,by go_num,HZ.out,a1.out⟩
     case measure=>simp [intOf]; omega
  ·have he:k=ys.length:=by omega
   have aa:¬ (k:Int) < (ys.length:Int):=by omega
   have HZ:Hid (rG xs ys=true):=η (by have:=HA.out; rw [he,ϕ ν] at this; exact this);clear HA hx h3;go_wp2;go_ret;exact ⟨aG HZ.out.symm,hB.trans (HB.out.mono hB.size)⟩
end Go.Proofs.YtkjinanbccloeaaGreatDoor
