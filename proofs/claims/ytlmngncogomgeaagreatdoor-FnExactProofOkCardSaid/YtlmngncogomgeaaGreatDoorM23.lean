/- Of the proof of FnExactProofOk: TouI. -/
import Derived.Test.YtlmngncogomgeaaGreatDoorM19
set_option linter.unusedVariables false
set_option maxHeartbeats 2000000
set_option maxRecDepth 100000
namespace Go.Proofs.YtlmngncogomgeaaGreatDoor
open Go.RowKit D
attribute [local go_sem ↓] Go.wp_at_zero Go.wp_at_succ
theorem EF:(Tryz.prog.info? 77).map (fun i=>(i.zero,i.size,i.bytes))=some (some (.agg #[.string ⟨#[]⟩,.slice none 0 0,.slice none 0 0]),3,64):=by kernel_rfl
def D.kN (L:List ByteArray) (p:Pt):Bool:=!p.no && decide (p.atom.name ∈ L)
structure D.rH (bc mc n:Nat) (L:List ByteArray) (f:ByteArray→Int) (w:World):Prop where
 c:w.heap[bc]? = some (.cells #[.map (some mc)] 112 (0,0))
 m:gQ mc n L f w
 f:∀ s ∈ L,1≤f s∧f s≤1000000
theorem D.rH.grown {y mc n:Nat} {L:List ByteArray} {f:ByteArray→Int} {w w':World} {row:Option Nat} (h:rH y mc n L f w) (I:w.grownBy w' row) (h1:row ≠ some y) (J:row ≠ some mc):rH y mc n L f w':=
 ⟨(I.block _ (ψ h.c) (fun e=>h1 e.symm)).trans h.c,h.m.same (I.block _ h.m.lt (fun e=>J e.symm)),h.f⟩
theorem D.rH.later {y mc n:Nat} {L:List ByteArray} {f:ByteArray→Int} {w w':World} (h:rH y mc n L f w) (I:Below w.heap.size w w'):rH y mc n L f w':=
 ⟨(I.block _ (ψ h.c)).trans h.c,h.m.same (I.block _ h.m.lt),h.f⟩
theorem Rt (bc mc n:Nat) (L:List ByteArray) (f:ByteArray→Int) (p:Pt) (v:Value) (w:World) (U:rH bc mc n L f w) (hs:p.atom.name.size≤maxLen):
  Calls Tryz.prog 169 #[.agg #[.bool p.no,.string p.atom.name,v],.pointer (some ⟨bc,0,none⟩)] w fun e w'=>e=.returned (.bool (kN L p))∧Below w.heap.size w w':=by
 have hA:Below w.heap.size w (w.alloc (.cells #[.bool p.no,.string p.atom.name,v] 209)):=ζ;have HB:=η hA;have y:=U.later hA;have HM:=η y.m;have y0:=aj y.c (o:=0);have HS:=η hs;have a0:bc < w.heap.size:=ψ U.c;obtain ⟨no,nm,args⟩:=p;dsimp only at *
 cases no with
 | true=>
  clear U y hs
  go_enter Tryz.func169,Tryz.ntmps169
  go_wp2;go_ret;exact ⟨rfl,HB.out⟩
 | false=>
  by_cases I:nm ∈ L
  ·obtain ⟨z,hz⟩:∃ z,f nm=z:=⟨_,rfl⟩
   have J:=U.f _ I;rw [hz] at J;have HV:=HM.out.Je HS.out (show (if nm ∈ L then f nm else 0)=z by rw [if_pos I]; exact hz);have a1:=J.1;have HE:Hid (decide (0 < z)=kN L ⟨false,nm,args⟩):=η (by rw [decide_eq_true (by omega)]; unfold kN; simp; exact I);clear U y hs I hz J hA
   go_enter Tryz.func169,Tryz.ntmps169
   go_wp2;go_ret;exact ⟨aA HE.out,HB.out⟩
  ·have HV:=HM.out.Je HS.out (show (if nm ∈ L then f nm else 0)=0 by rw [if_neg I])
   have HE:Hid (false=kN L ⟨false,nm,args⟩):=η (by unfold kN; simp; exact I);clear U y hs I hA
   go_enter Tryz.func169,Tryz.ntmps169
   go_wp2;go_ret;exact ⟨aA HE.out,HB.out⟩
def D.Vs (b:Bool) (w:World) (e:Ending) (w':World):Prop:=(∃ z:Int,e=.returned (.int .i64 z)∧decide (0≤z)=b)∧Below w.heap.size w w'
theorem D.Rw {α:Type} (q:α→Bool) (ps:List α) (k:Nat) (h:k < ps.length):(ps.take (k+1)).any q=((ps.take k).any q || q ps[k]):=by
 rw [ρ h,List.any_append]; simp
theorem D.Uu {α:Type} (q:α→Bool) (ps:List α) (k:Nat) (h:k < ps.length) (hq:q ps[k]=true):ps.any q=true:=List.any_eq_true.2 ⟨_,δ h,hq⟩
theorem Gh (bc mc n:Nat) (L:List ByteArray) (f:ByteArray→Int) (ps:List Pt) (v:Value) (bs:List Nat) (w:World) (hC:rH bc mc n L f w) (h:gJ w [v] ps bs):
  Calls Tryz.prog 210 #[v,.func (.func 169) #[] #[.pointer (some ⟨bc,0,none⟩)]] w (Vs (ps.any (kN L)) w):=by
 obtain ⟨Ad,cap,rfl,hl,hm⟩:=ai h;have a8:=ay (τ hl hm);have HC:=η hC;have HH:=η h;clear hm hl hC h
 go_enter Tryz.func210,Tryz.ntmps210
 go_wp2
 go_loopw [8] (fun i wr=>∃ k:Nat,k≤ps.length∧i=.int .i64 k∧(ps.take k).any (kN L)=false∧Below w.heap.size w wr) (fun i _=>ps.length - (intOf i).toNat)
 case atStart=>exact ⟨0,ε,rfl,rfl,ϑ⟩
 case round=>
  obtain ⟨k,hk,rfl,J,U⟩:=hrel;have HA:=η J;clear J;by_cases y:k < ps.length
  ·obtain ⟨b,o,Ae,ce,bk,rfl,_,d0,d1,d2,a0,_⟩:=eU (aU.below HH.out U) y
   have a9:(0:Int)≤(k:Int):=by omega
   have a5:(k:Int) < (ps.length:Int):=by omega
   have a1:ps[k].atom.name.size≤maxLen:=by obtain ⟨_,_,hs,_⟩:=a0; exact hs
   have I:=Rt bc mc n L f ps[k] (.slice Ae ps[k].atom.args.length ce) wr (HC.out.later U) a1;have a6:=η (Rw (kN L) ps k y);have a7:=η (Uu (kN L) ps k y);have a2:=η y;have HB:=η U;clear a0 a1 U;generalize kN L ps[k]=q at *;generalize ps[k]=p at *;obtain ⟨no,nm,args⟩:=p;dsimp only at *;clear y
   go_wp2_with fail
   refine I.mono ?_;rintro e w' ⟨rfl,a3⟩;have a4:=η (HB.out.trans (a3.mono HB.out.size));clear I a3
   cases q with
   | false=>
    go_wp2;go_roundw
    case rel=>exact ⟨k+1,a2.out,by go_num,by rw [a6.out,HA.out]; rfl,a4.out⟩
    case measure=>have:=a2.out; simp [intOf]; omega
   | true=>
    go_wp2;go_ret;exact ⟨⟨_,rfl,by rw [a7.out trivial]; simp⟩,a4.out⟩
  ·have he:=η (show k=ps.length by omega)
   have a5:¬ (k:Int) < (ps.length:Int):=by omega
   go_wp2;go_ret;exact ⟨⟨_,rfl,by have:=HA.out; rw [he.out,ϕ ν] at this; rw [this]; rfl⟩,U⟩
theorem zX (y mc n:Nat) (L:List ByteArray) (f:ByteArray→Int) (ps:List Pt) (v:Value) (I:List Nat) (w:World) (J:rH y mc n L f w) (h:gJ w [v] ps I):
  Calls Tryz.prog 168 #[v,.func (.func 169) #[] #[.pointer (some ⟨y,0,none⟩)]] w fun e w'=>e=.returned (.bool (ps.any (kN L)))∧Below w.heap.size w w':=by
 have hi:=Gh y mc n L f ps v I w J h;clear h J
 go_enter Tryz.func168,Tryz.ntmps168
 go_wp2_with fail
 refine hi.mono ?_;rintro e w' ⟨⟨z,rfl,U⟩,hb⟩;have HZ:=η U;clear U;go_wp2;go_ret;exact ⟨aA HZ.out,hb⟩
structure D.yP (w:World) (v:Value) (L:List Value) (xs:List Ru) (wr:World):Prop where
 coll:∃ bs,cu 3 jk (w.heap.size+1) 77 wr v L xs bs
 bel:Below w.heap.size w wr
theorem D.yP.below {w wr w':World} {v:Value} {L:List Value} {xs:List Ru} (h:yP w v L xs wr) (y:Below wr.heap.size wr w'):yP w v L xs w':=
 ⟨by obtain ⟨I,hc⟩:=h.coll; exact ⟨I,hc.below dL y⟩,h.bel.trans (y.mono h.bel.size)⟩
theorem D.zK {α:Type} (q:α→Bool) (ps:List α) (k:Nat) (h:k < ps.length):(ps.take (k+1)).filter q=if q ps[k]=true then (ps.take k).filter q ++ [ps[k]] else (ps.take k).filter q:=by
 rw [ρ h,List.filter_append]
 cases hq:q ps[k] <;> simp [hq]
theorem Jl (mc n:Nat) (L:List ByteArray) (f:ByteArray→Int) (rs:List Ru) (v:Value) (bs:List Nat) (w:World) (h:dD w [v] rs bs) (hM:gQ mc n L f w) (hf:∀ s ∈ L,1≤f s∧f s≤1000000) (bl:rs.length≤1000000):
  Calls Tryz.prog 110 #[v,.map (some mc)] w fun e w'=>Below w.heap.size w w'∧∃ Av cp b2,e=.returned (.slice Av (rs.filter fun r=>r.body.any (kN L)).length cp)∧dD w' [.slice Av (rs.filter fun r=>r.body.any (kN L)).length cp] (rs.filter fun r=>r.body.any (kN L)) b2:=by
 obtain ⟨Ad,cap,rfl,hl,hm⟩:=ai h;have bn:=ay (τ hl hm);obtain ⟨i0,hi,aw,az,aD⟩:=info_parts EF;have aa:Below w.heap.size w (w.alloc (.cells #[.map (some mc)] 112)):=ζ;have ab:Hid (rH w.heap.size mc n L f (w.alloc (.cells #[.map (some mc)] 112))):=η ⟨ω _ _,hM.same (aa.block _ hM.lt),hf⟩;have ac:Hid (yP w (.slice none 0 0) [] [] (w.alloc (.cells #[.map (some mc)] 112))):=η ⟨⟨[],cu.nil _⟩,aa⟩;have aE:=η hM.lt;have HH:=η h;have ae:Hid (∀ k,((rs.take k).filter fun r=>r.body.any (kN L)).length≤1000000):=η fun k=>τ (List.length_filter_le _ _) (by rw [List.length_take]; omega)
 clear hl hm h hM hf
 go_enter Tryz.func110,Tryz.ntmps110
 go_wp2;generalize w.alloc (.cells #[.map (some mc)] 112)=w0 at *
 go_loopw [5,10] (fun v i wr=>∃ (k:Nat) (Av:Option Addr) (cp:Nat) (M:List Value) (xs:List Ru),k≤rs.length∧i=.int .i64 k∧v=.slice Av xs.length cp∧xs=(rs.take k).filter (fun r=>r.body.any (kN L))∧yP w (.slice Av xs.length cp) M xs wr∧rH w.heap.size mc n L f wr) (fun _ i _=>rs.length - (intOf i).toNat)
 case atStart=>exact ⟨0,none,0,[],[],ε,rfl,rfl,rfl,ac.out,ab.out⟩
 case round=>
  obtain ⟨k,Av,cp,M,xs,hk,rfl,rfl,a2,hV,hC⟩:=hrel;clear ac ab;have HX:=η a2;have a3:Hid (xs.length≤1000000):=η (by rw [a2]; exact ae.out k);clear a2;have y0:=aj hC.c (o:=0);have bo:w.heap.size < wr.heap.size:=ψ hC.c;by_cases a0:k < rs.length
  ·obtain ⟨b,o,Ae,ce,Af,cf,bk,rfl,_,d0,d1,d2,a4,_⟩:=eF HH.out a0
   replace d0:=ξ hV.bel d0;replace d1:=ξ hV.bel d1;replace d2:=ξ hV.bel d2;have bp:(0:Int)≤(k:Int):=by omega
   have aL:(k:Int) < (rs.length:Int):=by omega
   have hA:Below wr.heap.size wr (wr.alloc (.cells #[.string rs[k].head.name,.slice Ae rs[k].head.args.length ce,.slice Af rs[k].body.length cf] 77)):=ζ;have a5:=dL.below (dL.below a4 hV.bel) hA;obtain ⟨e1,e2,_,_,af⟩:=dX a5;have I:=zX w.heap.size mc n L f rs[k].body (.slice Af rs[k].body.length cf) e2 _ (hC.later hA) af;have aM:=η (hV.below hA);have aR:=η (hC.later hA);have b1:=η a5;have b3:=η (ω wr (.cells #[.string rs[k].head.name,.slice Ae rs[k].head.args.length ce,.slice Af rs[k].body.length cf] 77));have ag:=η (zK (fun r:Ru=>r.body.any (kN L)) rs k a0);have a1:=η a0;have b4:Hid (∀ c ∈ bk,c < w.heap.size):=η (dL.lt a4);clear a4 a5 af hV hC hA;generalize (rs[k].body.any (kN L))=q at *;generalize rs[k]=r at *;obtain ⟨⟨nm,args⟩,body⟩:=r;dsimp only at *;clear a0
   go_wp2_with fail
   refine I.mono ?_;rintro e w2 ⟨rfl,y⟩;have a6:=η (aM.out.below y);have am:=η (aR.out.later y);have ao:=η (dL.below b1.out y);have bq:wr.heap.size < w2.heap.size:=by have:=y.size; simp at this; omega
   have a7:=(y.block wr.heap.size (by simp)).trans b3.out;have c0:=aj a7 (o:=0);have c1:=aj a7 (o:=1);have c2:=aj a7 (o:=2);clear I y
   cases q with
   | false=>
    have a8:Hid (xs=(rs.take (k+1)).filter fun r=>r.body.any (kN L)):=η (by rw [ag.out,HX.out]; rfl);go_wp2;go_roundw
    case rel=>exact ⟨k+1,_,_,_,xs,a1.out,by go_num,rfl,a8.out,a6.out,am.out⟩
    case measure=>have:=a1.out; simp [intOf]; omega
   | true=>
    have a8:Hid (xs ++ [(⟨⟨nm,args⟩,body⟩:Ru)]=(rs.take (k+1)).filter fun r=>r.body.any (kN L)):=η (by rw [ag.out,HX.out]; rfl);have J:Below w2.heap.size w2 (w2.alloc (.cells #[.string nm,.slice Ae args.length ce,.slice Af body.length cf] 77)):=ζ;obtain ⟨b5,a9⟩:=(a6.out.below J).coll;have HC:=η a9;have HB:=η (a6.out.below J).bel;have b6:=η (am.out.later J);have HR:Hid (aV 3 jk (w2.alloc (.cells #[.string nm,.slice Ae args.length ce,.slice Af body.length cf] 77)) [.string nm,.slice Ae args.length ce,.slice Af body.length cf] [(⟨⟨nm,args⟩,body⟩:Ru)] bk):=η (aV.dY Bf (dL.below ao.out J));have HL:Hid (Lies (w2.alloc (.cells #[.string nm,.slice Ae args.length ce,.slice Af body.length cf] 77)) (some ⟨w2.heap.size,0,none⟩) [.string nm,.slice Ae args.length ce,.slice Af body.length cf]):=η (aS (ω w2 _));have HF:Hid (∀ c,c < w.heap.size+1→(Value.slice Av xs.length cp).ownBlock ≠ some c):=η fun c hc=>aO a9.own hc
    have b7:Hid (mc < w.heap.size+1):=η (by have:=aE.out; omega);have U:w.heap.size+1≤(w2.alloc (.cells #[.string nm,.slice Ae args.length ce,.slice Af body.length cf] 77)).heap.size:=by simp; omega
    have b8:=η U;clear a9 J U d0 d1 d2
    go_wp2_with (at_builtin; refine gU rfl _ _ _ rfl (w.heap.size+1) 77 i0 (.agg #[.string ⟨#[]⟩,.slice none 0 0,.slice none 0 0]) 3 64 Tryz.underlying34 hi aw az aD rfl (by omega) dL (.slice Av xs.length cp) xs.length _ _ _ rfl HC.out rfl (some ⟨w2.heap.size,0,none⟩) 1 1 _ [⟨⟨nm,args⟩,body⟩] _ rfl HR.out rfl HL.out (fun c hc=>HF.out c (by have:=b4.out c hc; omega)) (by have:=a3.out; unfold maxLen; omega) (by have:=a3.out; omega) w w.heap.size HB.out (Nat.le_succ _) b8.out ?_; intro A2 b9 w3 ap aq bc ar)
    have bf:Hid (yP w (.slice A2 (xs ++ [(⟨⟨nm,args⟩,body⟩:Ru)]).length b9) (M ++ [.string nm,.slice Ae args.length ce,.slice Af body.length cf]) (xs ++ [(⟨⟨nm,args⟩,body⟩:Ru)]) w3):=η ⟨⟨_,by rw [χ]; exact ap⟩,aq⟩;have bg:=η (b6.out.grown ar (HF.out _ (Nat.lt_succ_self _)) (HF.out _ b7.out));have av:xs.length+1=(xs ++ [(⟨⟨nm,args⟩,body⟩:Ru)]).length:=by simp
    rw [av];clear ap aq bc ar HC HB HR HL HF av;go_roundw
    case rel=>exact ⟨k+1,_,_,_,_,a1.out,by go_num,rfl,a8.out,bf.out,bg.out⟩
    case measure=>have:=a1.out; simp [intOf]; omega
  ·have he:k=rs.length:=by omega
   have aL:¬ (k:Int) < (rs.length:Int):=by omega
   have bh:Hid (xs=rs.filter fun r=>r.body.any (kN L)):=η (by rw [HX.out,ϕ (Nat.le_of_eq he.symm)]);have HV:=η hV;clear hV hC HX a3 ae;go_wp2;go_ret;rw [← bh.out];obtain ⟨b5,bi⟩:=HV.out.coll;obtain ⟨b2,bj,_⟩:=bi.slice;exact ⟨HV.out.bel,_,_,rfl,b2,bj⟩
end Go.Proofs.YtlmngncogomgeaaGreatDoor
