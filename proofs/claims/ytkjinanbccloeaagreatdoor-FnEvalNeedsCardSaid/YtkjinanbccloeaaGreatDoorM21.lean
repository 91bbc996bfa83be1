/- Of the proof of FnEvalNeeds: TouI, FitS. -/
import Derived.Test.YtkjinanbccloeaaGreatDoorM17
import Derived.Test.YtkjinanbccloeaaGreatDoorM16
set_option linter.unusedVariables false
set_option maxHeartbeats 2000000
set_option maxRecDepth 100000
namespace Go.Proofs.YtkjinanbccloeaaGreatDoor
open Go.RowKit D
attribute [local go_sem ↓] Go.wp_at_zero Go.wp_at_succ
theorem E8:(Tryz.prog.info? 40).map (fun i=>(i.zero,i.size,i.bytes))=some (some (.agg #[.string ⟨#[]⟩,.slice none 0 0,.slice none 0 0]),3,64):=by kernel_rfl
def D.kQ (L:List ByteArray) (p:Pt):Bool:=!p.no && decide (p.atom.name ∈ L)
structure D.rD (bc mc n:Nat) (L:List ByteArray) (f:ByteArray→Int) (w:World):Prop where
 c:w.heap[bc]? = some (.cells #[.map (some mc)] 116 (0,0))
 m:eU mc n L f w
 f:∀ s ∈ L,1≤f s∧f s≤1000000
theorem D.rD.grown {y mc n:Nat} {L:List ByteArray} {f:ByteArray→Int} {w w':World} {row:Option Nat} (h:rD y mc n L f w) (I:w.grownBy w' row) (h1:row ≠ some y) (J:row ≠ some mc):rD y mc n L f w':=
 ⟨(I.block _ (ψ h.c) (fun e=>h1 e.symm)).trans h.c,h.m.same (I.block _ h.m.lt (fun e=>J e.symm)),h.f⟩
theorem D.rD.later {y mc n:Nat} {L:List ByteArray} {f:ByteArray→Int} {w w':World} (h:rD y mc n L f w) (I:Below w.heap.size w w'):rD y mc n L f w':=
 ⟨(I.block _ (ψ h.c)).trans h.c,h.m.same (I.block _ h.m.lt),h.f⟩
theorem Rz (bc mc n:Nat) (L:List ByteArray) (f:ByteArray→Int) (p:Pt) (v:Value) (w:World) (U:rD bc mc n L f w) (hs:p.atom.name.size≤maxLen):
  Calls Tryz.prog 195 #[.agg #[.bool p.no,.string p.atom.name,v],.pointer (some ⟨bc,0,none⟩)] w fun e w'=>e=.returned (.bool (kQ L p))∧Below w.heap.size w w':=by
 have hA:Below w.heap.size w (w.alloc (.cells #[.bool p.no,.string p.atom.name,v] 42)):=ζ;have HB:=η hA;have y:=U.later hA;have HM:=η y.m;have y0:=ai y.c (o:=0);have HS:=η hs;have a0:bc < w.heap.size:=ψ U.c;obtain ⟨no,nm,args⟩:=p;dsimp only at *
 cases no with
 | true=>
  clear U y hs
  go_enter Tryz.func195,Tryz.ntmps195
  go_wp2;go_ret;exact ⟨rfl,HB.out⟩
 | false=>
  by_cases I:nm ∈ L
  ·obtain ⟨z,hz⟩:∃ z,f nm=z:=⟨_,rfl⟩
   have J:=U.f _ I;rw [hz] at J;have HV:=HM.out.Jt HS.out (show (if nm ∈ L then f nm else 0)=z by rw [if_pos I]; exact hz);have a1:=J.1;have HE:Hid (decide (0 < z)=kQ L ⟨false,nm,args⟩):=η (by rw [decide_eq_true (by omega)]; unfold kQ; simp; exact I);clear U y hs I hz J hA
   go_enter Tryz.func195,Tryz.ntmps195
   go_wp2;go_ret;exact ⟨aH HE.out,HB.out⟩
  ·have HV:=HM.out.Jt HS.out (show (if nm ∈ L then f nm else 0)=0 by rw [if_neg I])
   have HE:Hid (false=kQ L ⟨false,nm,args⟩):=η (by unfold kQ; simp; exact I);clear U y hs I hA
   go_enter Tryz.func195,Tryz.ntmps195
   go_wp2;go_ret;exact ⟨aH HE.out,HB.out⟩
def D.VN (b:Bool) (w:World) (e:Ending) (w':World):Prop:=(∃ z:Int,e=.returned (.int .i64 z)∧decide (0≤z)=b)∧Below w.heap.size w w'
theorem D.RD {α:Type} (q:α→Bool) (ps:List α) (k:Nat) (h:k < ps.length):(ps.take (k+1)).any q=((ps.take k).any q || q ps[k]):=by
 rw [ρ h,List.any_append]; simp
theorem D.UH {α:Type} (q:α→Bool) (ps:List α) (k:Nat) (h:k < ps.length) (hq:q ps[k]=true):ps.any q=true:=List.any_eq_true.2 ⟨_,δ h,hq⟩
theorem Gx (bc mc n:Nat) (L:List ByteArray) (f:ByteArray→Int) (ps:List Pt) (v:Value) (bs:List Nat) (w:World) (hC:rD bc mc n L f w) (h:gU w [v] ps bs):
  Calls Tryz.prog 252 #[v,.func (.func 195) #[] #[.pointer (some ⟨bc,0,none⟩)]] w (VN (ps.any (kQ L)) w):=by
 obtain ⟨Ad,cap,rfl,hl,hm⟩:=ak h;have a8:=aA (τ hl hm);have HC:=η hC;have HH:=η h;clear hm hl hC h
 go_enter Tryz.func252,Tryz.ntmps252
 go_wp2
 go_loopw [8] (fun i wr=>∃ k:Nat,k≤ps.length∧i=.int .i64 k∧(ps.take k).any (kQ L)=false∧Below w.heap.size w wr) (fun i _=>ps.length - (intOf i).toNat)
 case atStart=>exact ⟨0,ε,rfl,rfl,ϑ⟩
 case round=>
  obtain ⟨k,hk,rfl,J,U⟩:=hrel;have HA:=η J;clear J;by_cases y:k < ps.length
  ·obtain ⟨b,o,Ae,ce,bk,rfl,_,d0,d1,d2,a0,_⟩:=gV (dh.below HH.out U) y
   have a9:(0:Int)≤(k:Int):=by omega
   have a5:(k:Int) < (ps.length:Int):=by omega
   have a1:ps[k].atom.name.size≤maxLen:=by obtain ⟨_,_,hs,_⟩:=a0; exact hs
   have I:=Rz bc mc n L f ps[k] (.slice Ae ps[k].atom.args.length ce) wr (HC.out.later U) a1;have a6:=η (RD (kQ L) ps k y);have a7:=η (UH (kQ L) ps k y);have a2:=η y;have HB:=η U;clear a0 a1 U;generalize kQ L ps[k]=q at *;generalize ps[k]=p at *;obtain ⟨no,nm,args⟩:=p;dsimp only at *;clear y
   go_wp2_with fail
   refine I.mono ?_;rintro e w' ⟨rfl,a3⟩;have a4:=η (HB.out.trans (a3.mono HB.out.size));clear I a3
   cases q with
   | false=>
    go_wp2;go_roundw
    case rel=>exact ⟨k+1,a2.out,by go_num,by rw [a6.out,HA.out]; rfl,a4.out⟩
    case measure=>have:=a2.out; simp [intOf]; omega
   | true=>
    go_wp2;go_ret;exact ⟨⟨_,rfl,by rw [a7.out trivial]; simp⟩,a4.out⟩
  ·have he:=η (show k=ps.length by omega)
   have a5:¬ (k:Int) < (ps.length:Int):=by omega
   go_wp2;go_ret;exact ⟨⟨_,rfl,by have:=HA.out; rw [he.out,ϕ ν] at this; rw [this]; rfl⟩,U⟩
theorem zZ (y mc n:Nat) (L:List ByteArray) (f:ByteArray→Int) (ps:List Pt) (v:Value) (bs:List Nat) (w:World) (I:rD y mc n L f w) (h:gU w [v] ps bs):
  Calls Tryz.prog 194 #[v,.func (.func 195) #[] #[.pointer (some ⟨y,0,none⟩)]] w fun e w'=>e=.returned (.bool (ps.any (kQ L)))∧Below w.heap.size w w':=by
 have U:=Gx y mc n L f ps v bs w I h;clear h I
 go_enter Tryz.func194,Tryz.ntmps194
 go_wp2_with fail
 refine U.mono ?_;rintro e w' ⟨⟨z,rfl,J⟩,hb⟩;have HZ:=η J;clear J;go_wp2;go_ret;exact ⟨aH HZ.out,hb⟩
structure D.yc (w:World) (v:Value) (L:List Value) (xs:List Ru) (wr:World):Prop where
 coll:∃ bs,aW 3 fG (w.heap.size+1) 40 wr v L xs bs
 bel:Below w.heap.size w wr
theorem D.yc.below {w wr w':World} {v:Value} {L:List Value} {xs:List Ru} (h:yc w v L xs wr) (y:Below wr.heap.size wr w'):yc w v L xs w':=
 ⟨by obtain ⟨bs,hc⟩:=h.coll; exact ⟨bs,hc.below aU y⟩,h.bel.trans (y.mono h.bel.size)⟩
theorem D.zf {α:Type} (q:α→Bool) (ps:List α) (k:Nat) (h:k < ps.length):(ps.take (k+1)).filter q=if q ps[k]=true then (ps.take k).filter q ++ [ps[k]] else (ps.take k).filter q:=by
 rw [ρ h,List.filter_append]
 cases hq:q ps[k] <;> simp [hq]
theorem Jy (mc n:Nat) (L:List ByteArray) (f:ByteArray→Int) (rs:List Ru) (v:Value) (bs:List Nat) (w:World) (h:dI w [v] rs bs) (hM:eU mc n L f w) (hf:∀ s ∈ L,1≤f s∧f s≤1000000) (bl:rs.length≤1000000):
  Calls Tryz.prog 135 #[v,.map (some mc)] w fun e w'=>Below w.heap.size w w'∧∃ Av cp b2,e=.returned (.slice Av (rs.filter fun r=>r.body.any (kQ L)).length cp)∧dI w' [.slice Av (rs.filter fun r=>r.body.any (kQ L)).length cp] (rs.filter fun r=>r.body.any (kQ L)) b2:=by
 obtain ⟨Ad,cap,rfl,hl,hm⟩:=ak h;have bn:=aA (τ hl hm);obtain ⟨i0,hi,aw,az,aD⟩:=info_parts E8;have aa:Below w.heap.size w (w.alloc (.cells #[.map (some mc)] 116)):=ζ;have ab:Hid (rD w.heap.size mc n L f (w.alloc (.cells #[.map (some mc)] 116))):=η ⟨ω _ _,hM.same (aa.block _ hM.lt),hf⟩;have ac:Hid (yc w (.slice none 0 0) [] [] (w.alloc (.cells #[.map (some mc)] 116))):=η ⟨⟨[],aW.nil _⟩,aa⟩;have aE:=η hM.lt;have HH:=η h;have ae:Hid (∀ k,((rs.take k).filter fun r=>r.body.any (kQ L)).length≤1000000):=η fun k=>τ (List.length_filter_le _ _) (by rw [List.length_take]; omega)
 clear hl hm h hM hf
 go_enter Tryz.func135,Tryz.ntmps135
 go_wp2;generalize w.alloc (.cells #[.map (some mc)] 116)=w0 at *
 go_loopw [5,10] (fun v i wr=>∃ (k:Nat) (Av:Option Addr) (cp:Nat) (M:List Value) (xs:List Ru),k≤rs.length∧i=.int .i64 k∧v=.slice Av xs.length cp∧xs=(rs.take k).filter (fun r=>r.body.any (kQ L))∧yc w (.slice Av xs.length cp) M xs wr∧rD w.heap.size mc n L f wr) (fun _ i _=>rs.length - (intOf i).toNat)
 case atStart=>exact ⟨0,none,0,[],[],ε,rfl,rfl,rfl,ac.out,ab.out⟩
 case round=>
  obtain ⟨k,Av,cp,M,xs,hk,rfl,rfl,a2,hV,hC⟩:=hrel;clear ac ab;have HX:=η a2;have a3:Hid (xs.length≤1000000):=η (by rw [a2]; exact ae.out k);clear a2;have y0:=ai hC.c (o:=0);have bo:w.heap.size < wr.heap.size:=ψ hC.c;by_cases a0:k < rs.length
  ·obtain ⟨b,o,Ae,ce,Af,cf,bk,rfl,_,d0,d1,d2,a4,_⟩:=fZ HH.out a0
   replace d0:=ξ hV.bel d0;replace d1:=ξ hV.bel d1;replace d2:=ξ hV.bel d2;have bp:(0:Int)≤(k:Int):=by omega
   have aL:(k:Int) < (rs.length:Int):=by omega
   have hA:Below wr.heap.size wr (wr.alloc (.cells #[.string rs[k].head.name,.slice Ae rs[k].head.args.length ce,.slice Af rs[k].body.length cf] 40)):=ζ;have a5:=aU.below (aU.below a4 hV.bel) hA;obtain ⟨e1,e2,_,_,af⟩:=gW a5;have I:=zZ w.heap.size mc n L f rs[k].body (.slice Af rs[k].body.length cf) e2 _ (hC.later hA) af;have aM:=η (hV.below hA);have aR:=η (hC.later hA);have b1:=η a5;have b3:=η (ω wr (.cells #[.string rs[k].head.name,.slice Ae rs[k].head.args.length ce,.slice Af rs[k].body.length cf] 40));have ag:=η (zf (fun r:Ru=>r.body.any (kQ L)) rs k a0);have a1:=η a0;have b4:Hid (∀ c ∈ bk,c < w.heap.size):=η (aU.lt a4);clear a4 a5 af hV hC hA;generalize (rs[k].body.any (kQ L))=q at *;generalize rs[k]=r at *;obtain ⟨⟨nm,args⟩,body⟩:=r;dsimp only at *;clear a0
   go_wp2_with fail
   refine I.mono ?_;rintro e w2 ⟨rfl,y⟩;have a6:=η (aM.out.below y);have am:=η (aR.out.later y);have ao:=η (aU.below b1.out y);have bq:wr.heap.size < w2.heap.size:=by have:=y.size; simp at this; omega
   have a7:=(y.block wr.heap.size (by simp)).trans b3.out;have c0:=ai a7 (o:=0);have c1:=ai a7 (o:=1);have c2:=ai a7 (o:=2);clear I y
   cases q with
   | false=>
    have a8:Hid (xs=(rs.take (k+1)).filter fun r=>r.body.any (kQ L)):=η (by rw [ag.out,HX.out]; rfl);go_wp2;go_roundw
    case rel=>exact ⟨k+1,_,_,_,xs,a1.out,by go_num,rfl,a8.out,a6.out,am.out⟩
    case measure=>have:=a1.out; simp [intOf]; omega
   | true=>
    have a8:Hid (xs ++ [(⟨⟨nm,args⟩,body⟩:Ru)]=(rs.take (k+1)).filter fun r=>r.body.any (kQ L)):=η (by rw [ag.out,HX.out]; rfl);have J:Below w2.heap.size w2 (w2.alloc (.cells #[.string nm,.slice Ae args.length ce,.slice Af body.length cf] 40)):=ζ;obtain ⟨b5,a9⟩:=(a6.out.below J).coll;have HC:=η a9;have HB:=η (a6.out.below J).bel;have b6:=η (am.out.later J);have HR:Hid (aQ 3 fG (w2.alloc (.cells #[.string nm,.slice Ae args.length ce,.slice Af body.length cf] 40)) [.string nm,.slice Ae args.length ce,.slice Af body.length cf] [(⟨⟨nm,args⟩,body⟩:Ru)] bk):=η (aQ.cu kU (aU.below ao.out J));have HL:Hid (Lies (w2.alloc (.cells #[.string nm,.slice Ae args.length ce,.slice Af body.length cf] 40)) (some ⟨w2.heap.size,0,none⟩) [.string nm,.slice Ae args.length ce,.slice Af body.length cf]):=η (aP (ω w2 _));have HF:Hid (∀ c,c < w.heap.size+1→(Value.slice Av xs.length cp).ownBlock ≠ some c):=η fun c hc=>aO a9.own hc
    have b7:Hid (mc < w.heap.size+1):=η (by have:=aE.out; omega);have U:w.heap.size+1≤(w2.alloc (.cells #[.string nm,.slice Ae args.length ce,.slice Af body.length cf] 40)).heap.size:=by simp; omega
    have b8:=η U;clear a9 J U d0 d1 d2
    go_wp2_with (at_builtin; refine bJ rfl _ _ _ rfl (w.heap.size+1) 40 i0 (.agg #[.string ⟨#[]⟩,.slice none 0 0,.slice none 0 0]) 3 64 Tryz.underlying23 hi aw az aD rfl (by omega) aU (.slice Av xs.length cp) xs.length _ _ _ rfl HC.out rfl (some ⟨w2.heap.size,0,none⟩) 1 1 _ [⟨⟨nm,args⟩,body⟩] _ rfl HR.out rfl HL.out (fun c hc=>HF.out c (by have:=b4.out c hc; omega)) (by have:=a3.out; unfold maxLen; omega) (by have:=a3.out; omega) w w.heap.size HB.out (Nat.le_succ _) b8.out ?_; intro A2 b9 w3 ap aq bc ar)
    have bf:Hid (yc w (.slice A2 (xs ++ [(⟨⟨nm,args⟩,body⟩:Ru)]).length b9) (M ++ [.string nm,.slice Ae args.length ce,.slice Af body.length cf]) (xs ++ [(⟨⟨nm,args⟩,body⟩:Ru)]) w3):=η ⟨⟨_,by rw [χ]; exact ap⟩,aq⟩;have bg:=η (b6.out.grown ar (HF.out _ (Nat.lt_succ_self _)) (HF.out _ b7.out));have av:xs.length+1=(xs ++ [(⟨⟨nm,args⟩,body⟩:Ru)]).length:=by simp
    rw [av];clear ap aq bc ar HC HB HR HL HF av;go_roundw
    case rel=>exact ⟨k+1,_,_,_,_,a1.out,by go_num,rfl,a8.out,bf.out,bg.out⟩
    case measure=>have:=a1.out; simp [intOf]; omega
  ·have he:k=rs.length:=by omega
   have aL:¬ (k:Int) < (rs.length:Int):=by omega
   have bh:Hid (xs=rs.filter fun r=>r.body.any (kQ L)):=η (by rw [HX.out,ϕ (Nat.le_of_eq he.symm)]);have HV:=η hV;clear hV hC HX a3 ae;go_wp2;go_ret;rw [← bh.out];obtain ⟨b5,bi⟩:=HV.out.coll;obtain ⟨b2,bj,_⟩:=bi.slice;exact ⟨HV.out.bel,_,_,rfl,b2,bj⟩
def D.O4 (y:List A) (x:A):Bool:=y.all fun a=>!clash a x
def D.qh (y:List A) (xs:List A):Bool:=xs.all (O4 y)
def D.jg (rs:List Ru) (xs:List A):Bool:=decide (dJ rs=0) && kH xs && qh (aB rs) xs
theorem D.Jz (y xs:List A) (k:Nat) (h:k < xs.length) (h0:qh y (xs.take k)=true):qh y (xs.take (k+1))=O4 y xs[k]:=by
 unfold qh at *;rw [ρ h,List.all_append,h0]; simp
theorem D.NK (y xs:List A) (k:Nat) (h:k < xs.length) (h0:O4 y xs[k]=false):qh y xs=false:=List.all_eq_false.2 ⟨_,δ h,by simp [h0]⟩
theorem O5 (rs:List Ru) (ys:List A) (v v2:Value) (bs b9:List Nat) (w:World) (h:dI w [v] rs bs) (h2:aV w [v2] ys b9) (hn:(aB rs).length≤1000000):
  Calls Tryz.prog 107 #[v,v2] w fun e w'=>e=.returned (.bool (qh (aB rs) ys))∧Below w.heap.size w w':=by
 obtain ⟨Ad,cap,rfl,hl,hm⟩:=ak h;obtain ⟨Ay,cy,rfl,a4,a5⟩:=ak h2;have af:=aA (τ hl hm);have ab:=aA (τ a4 a5);have c1:=yU rs _ bs w h hn;generalize aB rs=xs at *;clear hl hm h a4 a5
 go_enter Tryz.func107,Tryz.ntmps107
 go_wp2_with fail
 refine c1.mono ?_;rintro e w1 ⟨hB,v1,b2,rfl,hx⟩;obtain ⟨A1,ac,rfl,a6,a7⟩:=ak hx;have ae:=aA (τ a6 a7);have h3:=au.below h2 hB;clear c1 a6 a7 h2;go_wp2
 go_loopw [6] (fun i wr=>∃ k:Nat,k≤ys.length∧i=.int .i64 k∧qh xs (ys.take k)=true∧Below w1.heap.size w1 wr) (fun i _=>ys.length - (intOf i).toNat)
 case atStart=>exact ⟨0,ε,rfl,rfl,ϑ⟩
 case round=>
  obtain ⟨k,hk,rfl,a3,hb⟩:=hrel;have HA:=η a3;have HB:=η hb;clear a3 hb;by_cases a0:k < ys.length
  ·have ag:(0:Int)≤(k:Int):=by omega
   have aa:(k:Int) < (ys.length:Int):=by omega
   have HS:=η (Jz xs ys k a0 HA.out);have U:=η (NK xs ys k a0);go_wp2
   go_loopw [7] (fun i wr=>∃ j:Nat,j≤xs.length∧i=.int .i64 j∧(∀ i,(hi:i < xs.length)→i < j→clash xs[i] ys[k]=false)∧Below w1.heap.size w1 wr) (fun i _=>xs.length - (intOf i).toNat)
   case atStart=>exact ⟨0,ε,rfl,fun i _ h=>by omega,HB.out⟩
   case round=>
    obtain ⟨j,hj,rfl,hin,hb⟩:=hrel;have HI:=η hin;have a1:=η hb;clear hin;by_cases a2:j < xs.length
    ·have am:(0:Int)≤(j:Int):=by omega
     have ao:(j:Int) < (xs.length:Int):=by omega
     obtain ⟨b,o,Ae,ce,_,rfl,_,d0,d1,_,_⟩:=dY (au.below h3 hb) a0;obtain ⟨b',o',Af,cf,_,rfl,_,f0,f1,_,_⟩:=dY (au.below hx hb) a2;have I:Hid (clash xs[j] ys[k]=true→qh xs ys=false):=η fun h=>U.out (List.all_eq_false.2 ⟨_,δ a2,by simp [h]⟩)
     have J:Hid (clash xs[j] ys[k]=false→∀ i,(hi:i < xs.length)→i < j+1→clash xs[i] ys[k]=false):=η fun h i h9 hi=>by
      by_cases e:i=j
      ·subst e; exact h
      ·exact HI.out i h9 (by omega)
     have HC:Hid (clash xs[j] ys[k]=(decide (xs[j].name=ys[k].name) && decide (xs[j].args.length ≠ ys[k].args.length))):=η rfl;clear hx hb h3 U HS;generalize ys[k]=y at *;generalize xs[j]=x at *;obtain ⟨xn,xa⟩:=x;obtain ⟨yn,ya⟩:=y;dsimp only at *;cases hs:(xn.toList == yn.toList)
     ·have HZ:=η (J.out (by rw [HC.out,← jQ,hs]; rfl))
      clear J I HC HI HA HB;go_wp2
      go_quiet (fail)
      go_wp2;go_roundw
      case rel=>exact ⟨j+1,a2,by go_num,HZ.out,below_drewN a1.out _⟩
      case measure=>simp [intOf]; omega
     ·by_cases a8:xa.length=ya.length
      ·have HZ:=η (J.out (by rw [HC.out,a8]; simp))
       have hd:(xa.length:Int)=(ya.length:Int):=by omega
       clear J I HC HI HA HB;go_wp2
       go_quiet (fail)
       go_wp2;go_roundw
       case rel=>exact ⟨j+1,a2,by go_num,HZ.out,below_drewN a1.out _⟩
       case measure=>simp [intOf]; omega
      ·have HZ:=η (I.out (by rw [HC.out,← jQ,hs]; simpa using a8))
       have hd:¬ (xa.length:Int)=(ya.length:Int):=by omega
       have a9:=η hB;clear J I HC HI HA HB;go_wp2
       go_quiet (fail)
       go_wp2;go_ret;exact ⟨aH HZ.out.symm,a9.out.trans ((below_drewN a1.out _).mono a9.out.size)⟩
    ·have he:j=xs.length:=by omega
     have ap:¬ (j:Int) < (xs.length:Int):=by omega
     have HZ:Hid (qh xs (ys.take (k+1))=true):=η (HS.out.trans (List.all_eq_true.2 fun a ha=>by
      obtain ⟨i,hi,rfl⟩:=List.mem_iff_getElem.1 ha
      rw [HI.out i hi (by omega)]; rfl))
     clear HI HA HB he HS U;go_wp2;go_roundw
     case rel=>exact ⟨k+1,a0,by go_num,HZ.out,a1.out⟩
     case measure=>simp [intOf]; omega
  ·have he:k=ys.length:=by omega
   have aa:¬ (k:Int) < (ys.length:Int):=by omega
   have HZ:Hid (qh xs ys=true):=η (by have:=HA.out; rw [he,ϕ ν] at this; exact this);clear HA hx h3;go_wp2;go_ret;exact ⟨aH HZ.out.symm,hB.trans (HB.out.mono hB.size)⟩
end Go.Proofs.YtkjinanbccloeaaGreatDoor
