/- Of the proof of FnEvalOnly: ChkS, Facts3, Draw4, FsI, SeaP, StoW. -/
import Derived.Test.YtkjinanbccloeaaGreatDoorB21
import Derived.Test.YtkjinanbccloeaaGreatDoorB22
import Derived.Test.YtkjinanbccloeaaGreatDoorB19
import Derived.Test.YtkjinanbccloeaaGreatDoorB20
set_option linter.unusedVariables false
set_option maxHeartbeats 4000000
set_option maxRecDepth 100000
namespace Go.Proofs.YtkjinanbccloeaaGreatDoor
section
open Go.RowKit D
attribute [local go_sem ↓] Go.wp_at_zero Go.wp_at_succ
theorem Ko (rs:List Ru) (v:Value) (bs:List Nat) (w:World) (h:dS w [v] rs bs) (hf:rs.length≤8) (hok:rs.all dN=true):
  Calls Tryz.prog 168 #[v] w fun e w'=>e=.returned (.bool (lg rs))∧Below w.heap.size w w':=by
 obtain ⟨Ad,cap,rfl,hl,hm⟩:=ak h;have a7:=aA (τ hl hm);have c1:=wU rs _ bs w h hf hok;have U:Hid (lg rs=(ay rs).any fun x=>decide (rs.length≤x)):=η rfl;have HL:=η (fC rs);clear hl hm h
 go_enter Tryz.func168,Tryz.ntmps168
 go_wp2_with fail
 refine c1.mono ?_;rintro e w1 ⟨hB,rfl,I,hmx⟩;clear c1 hB;have a4:=η hmx;clear hmx;generalize ay rs=xs at *;go_wp2
 go_loopw [4] (fun i wr=>∃ k:Nat,k≤rs.length∧i=.int .i64 k∧(∀ i,i < k→fU xs i < rs.length)∧lV w rs xs wr) (fun i _=>rs.length - (intOf i).toNat)
 case atStart=>exact ⟨0,ε,rfl,fun i h=>by omega,I⟩
 case round=>
  obtain ⟨k,hk,rfl,y,I⟩:=hrel;have HA:=η y;have HI:=η I;clear y;by_cases J:k < rs.length
  ·have a8:(0:Int)≤(k:Int):=by omega
   have a5:(k:Int) < (rs.length:Int):=by omega
   have a1:=I.at J;have a6:=a4.out k;obtain ⟨a,ha⟩:∃ a,a=fU xs k:=⟨_,rfl⟩;rw [← ha] at a1 a6;by_cases a0:rs.length≤a
   ·have HZ:Hid (lg rs=true):=η (by
     rw [U.out,List.any_eq_true];have a2:k < xs.length:=by rw [HL.out]; exact J
     refine ⟨xs[k],δ a2,decide_eq_true ?_⟩;have:fU xs k=xs[k]:=by unfold fU; rw [List.getD_eq_getElem?_getD,Ψ a2]; rfl
     omega)
    have a3:(rs.length:Int)≤(a:Int):=by omega
    clear U HA ha I a0;go_wp2;go_ret;exact ⟨aJ HZ.out.symm,HI.out.bel⟩
   ·have HZ:Hid (∀ i,i < k+1→fU xs i < rs.length):=η fun i hi=>by
     by_cases e:i=k
     ·subst e; omega
     ·exact HA.out i (by omega)
    have a3:¬ (rs.length:Int)≤(a:Int):=by omega
    clear U HA ha I a0;go_wp2;go_roundw
    case rel=>exact ⟨k+1,J,by go_num,HZ.out,HI.out⟩
    case measure=>simp [intOf]; omega
  ·have he:k=rs.length:=by omega
   have a5:¬ (k:Int) < (rs.length:Int):=by omega
   have HZ:Hid (lg rs=false):=η (by
    rw [U.out,List.any_eq_false];intro x hx;obtain ⟨i,hi,rfl⟩:=List.mem_iff_getElem.1 hx;have h1:=HA.out i (by rw [HL.out] at hi; omega);have:fU xs i=xs[i]:=by unfold fU; rw [List.getD_eq_getElem?_getD,Ψ hi]; rfl
    simp; omega)
   clear U HA I he;go_wp2;go_ret;exact ⟨aJ HZ.out.symm,HI.out.bel⟩
theorem D.Kq {r:Ru} (h:dN r=true):iq (fun p=>p.atom.args.length) r.body≤1000000∧r.head.args.length≤1000000:=by
 obtain ⟨h1,_,y⟩:=kF h;have J:=y r.head Γ;have U:=Dl (fun p:Pt=>p.atom.args.length) 3 r.body fun p I=>y p.atom (Δ _ (List.mem_map.2 ⟨p,I,rfl⟩))
 omega
theorem D.TF (rs:List Ru) (k:Nat) (h:k < rs.length) (h0:(rs.take k).all dN=true):(rs.take (k+1)).all dN=dN rs[k]:=by
 rw [ρ h,List.all_append,h0]; simp
theorem D.VE (rs:List Ru) (k:Nat) (h:k < rs.length) (h0:dN rs[k]=false):dV rs=1:=by
 unfold dV;rw [if_pos (List.all_eq_false.2 ⟨_,δ h,by simp [h0]⟩)]
theorem D.TG (rs:List Ru) (k:Nat) (h:k < rs.length) (h0:(rs.take k).all (fun r=>dZ r.head r.body)=true):((rs.take (k+1)).all fun r=>dZ r.head r.body)=dZ rs[k].head rs[k].body:=by
 rw [ρ h,List.all_append,h0]; simp
theorem D.VF (rs:List Ru) (k:Nat) (h:k < rs.length) (h0:dZ rs[k].head rs[k].body=false):(rs.all fun r=>dZ r.head r.body)=false:=
 List.all_eq_false.2 ⟨_,δ h,by simp [h0]⟩
theorem rE (rs:List Ru) (v:Value) (bs:List Nat) (w:World) (h:dS w [v] rs bs):
  Calls Tryz.prog 105 #[v] w fun e w'=>e=.returned (.int .i64 (dV rs))∧Below w.heap.size w w':=by
 obtain ⟨Ad,cap,rfl,hl,hm⟩:=ak h;have ac:=aA (τ hl hm);have C1:=η fun w' (I:Below w.heap.size w w') (hn:(aF rs).length≤1000000)=>Ns rs _ bs w' (bJ.below h I) hn
 have C3:=η fun w' (I:Below w.heap.size w w') (hok:rs.all dN=true) (hf:rs.length≤8)=>Ko rs _ bs w' (bJ.below h I) hf hok
 clear hl hm
 go_enter Tryz.func105,Tryz.ntmps105
 go_wp2
 go_loopw [3] (fun i wr=>∃ k:Nat,k≤rs.length∧i=.int .i64 k∧(rs.take k).all dN=true∧Below w.heap.size w wr) (fun i _=>rs.length - (intOf i).toNat)
 case atStart=>exact ⟨0,ε,rfl,rfl,ϑ⟩
 case round=>
  obtain ⟨k,hk,rfl,U,I⟩:=hrel;have HA:=η U;clear U;by_cases y:k < rs.length
  ·clear C1 C3
   obtain ⟨b,o,Ae,ce,Af,cf,bk,rfl,_,d0,d1,d2,a0,_⟩:=gy (bJ.below h I) y;have HS:=η (TF rs k y HA.out);have J:=η (VE rs k y);have a7:(0:Int)≤(k:Int):=by omega
   have a3:(k:Int) < (rs.length:Int):=by omega
   have c1:=Nu rs[k] _ _ _ bk wr a0;have a1:=η y;clear h a0;generalize rs[k]=r at *;clear y;obtain ⟨⟨nm,args⟩,body⟩:=r;dsimp only at *
   go_wp2_with fail
   refine c1.mono ?_;rintro e w2 ⟨rfl,a4⟩;have B2:=I.trans (a4.mono I.size);clear c1;cases h1:dN ⟨⟨nm,args⟩,body⟩
   ·have HZ:=η (J.out h1)
    clear h1 J HS;go_wp2;go_ret;exact ⟨dO (by simp [HZ.out]),B2⟩
   ·have HZ:=η (HS.out.trans h1)
    clear h1 J HS;go_wp2;go_roundw
    case rel=>exact ⟨k+1,a1.out,by go_num,HZ.out,B2⟩
    case measure=>have:=a1.out; simp [intOf]; omega
  ·have he:k=rs.length:=by omega
   have a3:¬ (k:Int) < (rs.length:Int):=by omega
   have hok:rs.all dN=true:=by have:=HA.out; rw [he,ϕ ν] at this; exact this
   clear HA he;by_cases hf:rs.length≤8
   ·have a8:¬ (8:Int) < (rs.length:Int):=by omega
    have hP:dV rs=if jH (aF rs)=false then 3 else if (rs.all fun r=>dZ r.head r.body)=false then 4 else if lg rs=true then 5 else 0:=by
     unfold dV; rw [if_neg (by simp [hok]),if_neg (by omega)]
    have a5:(aF rs).length≤1000000:=by have:=(kQ hok).2; omega
    have C4:=η fun w' I=>C1.out w' I a5
    have C5:=η fun w' I=>C3.out w' I hok hf
    have HP:=η hP;have a9:=η hok;clear hok hf hP C1 C3 a5
    go_wp2_with fail
    refine (C4.out _ I).mono ?_;rintro e w2 ⟨rfl,a4⟩;have B2:=I.trans (a4.mono I.size);clear C4;cases ha:jH (aF rs)
    ·have HZ:Hid (dV rs=3):=η (by rw [HP.out,if_pos ha])
     clear HP ha;go_wp2;go_ret;exact ⟨dO (by simp [HZ.out]),B2⟩
    ·replace HP:Hid (dV rs=if (rs.all fun r=>dZ r.head r.body)=false then 4 else if lg rs=true then 5 else 0):=η (by rw [HP.out,if_neg (by simp [ha])])
     clear ha I a4;go_wp2
     go_loopw [4] (fun i wr=>∃ k:Nat,k≤rs.length∧i=.int .i64 k∧(rs.take k).all (fun r=>dZ r.head r.body)=true∧Below w.heap.size w wr) (fun i _=>rs.length - (intOf i).toNat)
     case atStart=>exact ⟨0,ε,rfl,rfl,B2⟩
     case round=>
      clear hk a3;obtain ⟨k,hk,rfl,U,I⟩:=hrel;have HA:=η U;clear U;by_cases y:k < rs.length
      ·clear C5
       obtain ⟨b,o,Ae,ce,Af,cf,bk,rfl,_,d0,d1,d2,a0,_⟩:=gy (bJ.below h I) y;have HS:=η (TG rs k y HA.out);have J:=η (VF rs k y);have a7:(0:Int)≤(k:Int):=by omega
       have a3:(k:Int) < (rs.length:Int):=by omega
       have a2:=Kq (List.all_eq_true.1 a9.out _ (δ y));have c1:=zi rs[k] _ _ _ bk wr a0 a2.1 a2.2;have a1:=η y;clear h a0 a2;generalize rs[k]=r at *;clear y;obtain ⟨⟨nm,args⟩,body⟩:=r;dsimp only at *
       go_wp2_with fail
       refine c1.mono ?_;rintro e w3 ⟨rfl,aa⟩;have B3:=I.trans (aa.mono I.size);clear c1;cases h1:dZ ⟨nm,args⟩ body
       ·have HZ:Hid (dV rs=4):=η (by rw [HP.out,if_pos (J.out h1)])
        clear h1 J HS HP;go_wp2;go_ret;exact ⟨dO (by simp [HZ.out]),B3⟩
       ·have HZ:=η (HS.out.trans h1)
        clear h1 J HS;go_wp2;go_roundw
        case rel=>exact ⟨k+1,a1.out,by go_num,HZ.out,B3⟩
        case measure=>have:=a1.out; simp [intOf]; omega
      ·have he:k=rs.length:=by omega
       have a3:¬ (k:Int) < (rs.length:Int):=by omega
       have a6:(rs.all fun r=>dZ r.head r.body)=true:=by have:=HA.out; rw [he,ϕ ν] at this; exact this
       replace HP:Hid (dV rs=if lg rs=true then 5 else 0):=η (by rw [HP.out,if_neg (by simp [a6])]);clear HA he a6 h
       go_wp2_with fail
       refine (C5.out _ I).mono ?_;rintro e w4 ⟨rfl,ab⟩;have B4:=I.trans (ab.mono I.size);clear C5;cases hc:lg rs
       ·have HZ:Hid (dV rs=0):=η (by rw [HP.out,if_neg (by simp [hc])])
        clear HP hc;go_wp2;go_ret;exact ⟨dO (by simp [HZ.out]),B4⟩
       ·have HZ:Hid (dV rs=5):=η (by rw [HP.out,if_pos hc])
        clear HP hc;go_wp2;go_ret;exact ⟨dO (by simp [HZ.out]),B4⟩
   ·have a8:(8:Int) < (rs.length:Int):=by omega
    have HZ:Hid (dV rs=2):=η (by unfold dV; rw [if_neg (by simp [hok]),if_pos (by omega)]);clear hok hf C1 C3 h;go_wp2;go_ret;exact ⟨dO (by simp [HZ.out]),I⟩
theorem Hy (xs:List A) (v:Value) (bs:List Nat) (w:World) (h:aU w [v] xs bs):
  Calls Tryz.prog 18 #[v] w fun e w'=>e=.returned (.bool (jy xs))∧Below w.heap.size w w':=by
 obtain ⟨Ad,cap,rfl,hl,hm⟩:=ak h;have a9:=aA (τ hl hm);clear hm;by_cases I:xs.length≤300
 ·have a2:¬ (300:Int) < (xs.length:Int):=by omega
  have a3:¬ 300 < xs.length:=by omega
  have HE:Hid (jy xs=okB xs):=η (by rw [AO,decide_eq_true I,Bool.and_true]);clear I
  go_enter Tryz.func18,Tryz.ntmps18
  go_wp2
  go_loopw [10] (fun i wr=>∃ k:Nat,k≤xs.length∧i=.int .i64 k∧IL xs k∧Below w.heap.size w wr) (fun i _=>xs.length - (intOf i).toNat)
  case atStart=>exact ⟨0,ε,rfl,LZ _,ϑ⟩
  case round=>
   obtain ⟨k,hk,rfl,J,hb⟩:=hrel;have HA:=η J;clear J;by_cases U:k < xs.length
   ·have aa:(0:Int)≤(k:Int):=by omega
    have ab:(k:Int) < (xs.length:Int):=by omega
    obtain ⟨b,o,Ae,ce,bk,rfl,_,c0,c1,a4,_⟩:=dJ (au.below h hb) U;have hA:Below wr.heap.size wr (wr.alloc (.cells #[.string xs[k].name,.slice Ae xs[k].args.length ce] 33)):=ζ;have hg:=NC xs[k] _ _ bk _ (aj.below a4 hA);have a5:=η (fun hf=>L6 (k:=k) HA.out U hf);have a6:=η (fun hf=>Oi U hf);generalize dX xs[k]=x at *;clear h a4
    go_wp2_with fail
    refine hg.mono ?_;rintro e w' ⟨rfl,a0⟩;have B':=hb.trans ((hA.trans (a0.mono hA.size)).mono hb.size);cases x
    ·go_wp2
     go_ret;exact ⟨aJ (by rw [HE.out,a6.out (by simp)]),B'⟩
    ·go_wp2
     go_roundw
     case rel=>exact ⟨k+1,by omega,by go_num,a5.out (by simp),B'⟩
     case measure=>simp [intOf]; omega
   ·have he:k=xs.length:=by omega
    have HO:Hid (okB xs=fK xs):=η (by
     have hf:=HA.out;rw [he] at hf;unfold okB
     rw [show xs.all dX=true from by
      rw [List.all_eq_true]; intro y hy
      obtain ⟨j,hj,rfl⟩:=List.mem_iff_getElem.1 hy
      exact hf j hj hj,Bool.true_and])
    have ac:¬ (k:Int) < (xs.length:Int):=by omega
    have hs:=zH Ad xs.length cap wr;have a7:=fun w' (a0:Below wr.heap.size wr w')=>Jz xs _ bs w' (au.below (au.below h hb) a0)
    clear h he HA
    go_wp2_with fail
    refine hs.mono ?_;rintro e w1 ⟨rfl,a1⟩
    go_wp2_with fail
    refine (a7 _ a1).mono ?_;rintro e w2 ⟨rfl,a8⟩;go_wp2;go_ret;exact ⟨aJ (by rw [HE.out,HO.out]),hb.trans ((a1.trans (a8.mono a1.size)).mono hb.size)⟩
 ·have a2:(300:Int) < (xs.length:Int):=by omega
  have a3:300 < xs.length:=by omega
  have HE:Hid (jy xs=false):=η (by rw [AO,decide_eq_false I,Bool.and_false]);clear I h
  go_enter Tryz.func18,Tryz.ntmps18
  go_wp2;go_ret;exact ⟨aJ HE.out.symm,ϑ⟩
theorem Qg:(Tryz.prog.info? 33).map (fun i=>(i.zero,i.size,i.bytes))=some (some (.agg #[.string ⟨#[]⟩,.slice none 0 0]),2,40):=by kernel_rfl
theorem D.Kr {w:World} {y:Nat} (ha:Vp w y) {L:List Value} {xs:List A} {bs:List Nat} (h:aQ 2 aG w L xs bs):y ∉ bs:=by
 obtain ⟨h1,h2,G,rfl,I⟩:=h;intro J;obtain ⟨j,U,hc⟩:=List.mem_flatMap.1 J;obtain ⟨s,_,_,ht⟩:=I j (List.mem_range.1 U);exact vU ha ht hc
structure nR (g p:Nat) (w:World) (xs:List A) (v:Value) (wr:World):Prop where
 coll:∃ L bs,aZ 2 aG w.heap.size 33 wr v L xs bs∧∀ b ∈ bs,w.heap.size≤b
 small:∀ a ∈ xs,a.args.length≤4
 rdr:kH g p wr
 kept:aH [g] w wr
 glt:g < w.heap.size
section
variable {g p:Nat} {w:World} {xs:List A} {v:Value} {wr:World}
theorem nR.call {p2:Nat} {y:World} (h:nR g p w xs v wr) (U:kH g p2 y) (hK:aH [g] wr y):nR g p2 w xs v y:=by
 obtain ⟨L,bs,J,I⟩:=h.coll;exact ⟨⟨L,bs,J.Om aj hK h.glt (Kr h.rdr.Xq J.row),I⟩,h.small,U,h.kept.trans hK,h.glt⟩
theorem nR.below {I:World} (h:nR g p w xs v wr) (hB:Below wr.heap.size wr I):nR g p w xs v I:=by
 obtain ⟨L,bs,J,y⟩:=h.coll;exact ⟨⟨L,bs,J.below aj hB,y⟩,h.small,h.rdr.below hB,h.kept.fM hB h.kept.size,h.glt⟩
theorem nR.atoms (h:nR g p w xs v wr):∃ bs,aU wr [v] xs bs∧∀ b ∈ bs,w.heap.size≤b:=by
 obtain ⟨L,bs,I,y⟩:=h.coll;obtain ⟨J,U,h2⟩:=I.slice;exact ⟨J,U,fun b hb=>(h2 b hb).elim id (y b)⟩
theorem nR.shape (h:nR g p w xs v wr):∃ A c,v=.slice A xs.length c:=by
 obtain ⟨L,bs,y,_⟩:=h.coll;exact fE y.own
theorem nR.put {y:World} {xs':List A} {I:Value} (h:nR g p w xs v wr) (hB:Below wr.heap.size wr y) (hs:∀ a ∈ xs',a.args.length≤4) {bb:List Nat} (ho:(I=v∧xs'=xs)∨∃ L U,aZ 2 aG wr.heap.size 33 y I L xs' U∧∀ c ∈ U,c ∈ bb) (J:∀ c ∈ bb,w.heap.size≤c):nR g p w xs' I y:=by
 rcases ho with ⟨rfl,rfl⟩ | ⟨L,b2,hC,h9⟩
 ·exact h.below hB
 ·exact ⟨⟨L,b2,hC.mono h.kept.size,fun c hc=>J c (h9 c hc)⟩,hs,h.rdr.below hB,h.kept.fM hB h.kept.size,h.glt⟩
end
def WW (m k g p q:Nat) (w:World) (e:Ending) (w':World):Prop:=
 ∃ (xs:List A) (v:Value) (y:Nat),e=.returned v∧fK xs=true∧xs.length≤m∧(∀ a ∈ xs,a.args.length≤k)∧y≤p+q∧nR g y w xs v w'
theorem wW (g p m:Nat) (w:World) (h:kH g p w) (hp:p≤700000) (hm:1≤m) (a5:m≤100):
  Calls Tryz.prog 102 #[.pointer (some ⟨g,0,none⟩),.int .i64 m] w (WW m 3 g p (8 * m) w):=by
 have hA:Below w.heap.size w (w.alloc (.cells #[] 33)):=ζ;have HF:Hid (nR g p w [] (.slice (some ⟨w.heap.size,0,none⟩) 0 0) (w.alloc (.cells #[] 33))):=η ⟨⟨_,_,aZ.empty (ω w _) ν,fun b hb=>by simp at hb⟩,fun a ha=>by simp at ha,h.below hA,aH.of_below hA,h.lt⟩;have a6:=pick_any g p m _ HF.out.rdr (by omega) (by omega) (by omega);have HP:=η (ι hp a5);clear h hp hm a5 hA
 go_enter Tryz.func102,Tryz.ntmps102
 go_wp2_with fail
 refine a6.mono ?_;rintro e w1 ⟨n,rfl,hn,a7,a8⟩;have a9:=η (HF.out.call a7 (aH.dM a8));have HN:Hid (n < m):=η (by omega);clear a6 a7 a8 HF hn;go_wp2
 go_loopw [5,6] (fun v i wr=>∃ (k:Nat) (xs:List A) (Av:Option Addr) (cp J:Nat),k≤n∧i=.int .i64 k∧v=.slice Av xs.length cp∧fK xs=true∧xs.length+k≤n∧(∀ a ∈ xs,a.args.length≤3)∧J+7 * k≤p+1+7 * n∧nR g J w xs (.slice Av xs.length cp) wr) (fun _ i _=>(intOf i).toNat)
 case atStart=>exact ⟨n,[],_,_,p+1,ν,rfl,rfl,rfl,by simp,fun a ha=>by simp at ha,by omega,a9.out⟩
 case round=>
  obtain ⟨k,xs,Av,cp,J,hk,rfl,rfl,hs,hx,aa,hp,hF⟩:=hrel;have I:=η hF;have HX:Hid (fK xs=true∧xs.length+k≤n∧(∀ a ∈ xs,a.args.length≤3)∧J+7 * k≤p+1+7 * n):=η ⟨hs,hx,aa,hp⟩;have HQ:Hid (J≤800000∧k≤100):=η (by have:=HP.out; have:=HN.out; omega);clear hF a9 hs hx aa hp;by_cases a1:0 < k
  ·have aE:(0:Int) < (k:Int):=by omega
   have aL:(k:Int)≤100:=by have:=HQ.out.2; omega
   have HK:=η a1;have hc:=zl g J wr I.out.rdr HQ.out.1;clear hk a1
   go_wp2_with fail
   refine hc.mono ?_;rintro e w2 ⟨a,v2,L2,p2,rfl,ab,ac,a2,ae,af,ag⟩;obtain ⟨b2,am,U⟩:=a2.slice;have av:Hid (∀ c ∈ b2,w.heap.size≤c):=η (fun c hc=>τ I.out.kept.size ((U c hc).resolve_right (by simp)));clear U;have ao:aG w2 [.string a.name,v2] a b2:=⟨_,rfl,Sm.max ab,am⟩;obtain ⟨A2,c2,rfl⟩:=fE a2.own;have a3:=η (I.out.call ae ag);obtain ⟨b3,ap,aq⟩:=a3.out.atoms;have aw:=η aq;clear aq;have a0:=sK xs a _ _ _ b3 b2 w2 ap ao HX.out.1 (by have:=HX.out.2.1; have:=HP.out; have:=HN.out; omega);have a4:Hid (a.args.length≤3∧p2≤J+7):=η ⟨ac,af⟩;clear hc a2 ae ag am ao ap ab ac af
   go_wp2_with fail
   refine a0.mono ?_;rintro e w3 ⟨az,v3,b4,rfl,ar,ho⟩;have aD:=η (a3.out.put (xs':=dP xs a) az (fun y hy=>by rcases sD hy with hy | rfl; exact Nat.le_succ_of_le (HX.out.2.2.1 y hy); exact Nat.le_succ_of_le a4.out.1) ho (fun c hc=>(μ.1 hc).elim (aw.out c) (av.out c)));obtain ⟨A3,c3,rfl,_,_⟩:=ak ar;clear a0 ar ho a3 I;go_wp2;go_roundw
   case rel=>exact ⟨k - 1,dP xs a,A3,c3,p2,by have:=HX.out.2.1; omega,by have:=HK.out; first | (unfold wrap64; congr 1; omega) | go_num,rfl,vM HX.out.1 a,by have:=oD xs a; have:=HX.out.2.1; have:=HK.out; omega,fun y hy=>by rcases sD hy with hy | rfl; exact HX.out.2.2.1 y hy; exact a4.out.1,by have:=HX.out.2.2.2; have:=a4.out.2; have:=HK.out; omega,aD.out⟩
   case measure=>have:=HK.out; simp [intOf]; omega
  ·obtain rfl:k=0:=by omega
   clear hk a1;go_wp2;go_ret;exact ⟨xs,_,J,rfl,HX.out.1,by have:=HX.out.2.1; have:=HN.out; omega,HX.out.2.2.1,by have:=HX.out.2.2.2; have:=HN.out; omega,I.out⟩
theorem D.sO {w:World} {I:Option Addr} {len cap:Nat} {xs:List Nat} {bs:List Nat} {k:Nat} (h:gU w [.slice I len cap] xs bs) (J:k < xs.length):
  ∃ b o,I=some ⟨b,o,none⟩∧b ∈ bs∧w.cell? ⟨b,o+k,none⟩=some (.int .i64 (xs[k]:Nat)):=by
 obtain ⟨b,o,cs,bk,rfl,U,a0,y,⟨rfl,_⟩,_⟩:=iD h J;exact ⟨b,o,rfl,U,by simpa using y 0 _ rfl⟩
theorem zq (y:List Nat) (v1 v2:Value) (b1 b2:List Nat) (w:World) (h1:gU w [v1] y b1) (U:gU w [v2] y b2):
  Calls Tryz.prog 27 #[v1,v2] w (Yes w.heap.size w):=by
 obtain ⟨Ad,cap,rfl,hl,hm⟩:=ak h1;obtain ⟨a2,cap2,rfl,a3,a0⟩:=ak U;have a4:=aA (τ hl hm);clear hm a0
 go_enter Tryz.func27,Tryz.ntmps27
 go_wp2
 go_loopw [5] (fun i wr=>∃ k:Nat,k≤y.length∧i=.int .i64 k∧Below w.heap.size w wr) (fun i _=>y.length - (intOf i).toNat)
 case atStart=>exact ⟨0,ε,rfl,ϑ⟩
 case round=>
  obtain ⟨k,hk,rfl,I⟩:=hrel;by_cases J:k < y.length
  ·obtain ⟨b,o,rfl,_,c0⟩:=sO (aW.below h1 I) J
   obtain ⟨b',o',rfl,_,d0⟩:=sO (aW.below U I) J;clear h1 U;have a1:(k:Int) < (y.length:Int):=by omega
   have a5:(0:Int)≤(k:Int):=by omega
   generalize y[k]=s at *;go_wp2
   go_quiet (fail)
   go_wp2;go_roundw
   case rel=>exact ⟨k+1,by omega,by go_num,⟨I.os,I.tape,I.output,I.size,I.block⟩⟩
   case measure=>simp [intOf]; omega
  ·have he:k=y.length:=by omega
   subst he;go_wp2;go_ret;exact ⟨rfl,I⟩
end
section
open Go.RowKit D
structure D.kT (sk sb:Nat) (v1 v2:Value) (wt:Nat→Bool) (io:Bool) (ah:Int) (tell:Value) (w:World):Prop where
 st:w.cell? ⟨sk,0,none⟩=some (.pointer (some ⟨sb,0,none⟩))
 p1:w.cell? ⟨sk,1,none⟩=some v1
 p2:w.cell? ⟨sk,2,none⟩=some v2
 wd:∀ i,i < 12→w.cell? ⟨sk,4+i,none⟩=some (.bool (wt i))
 io:w.cell? ⟨sk,16,none⟩=some (.bool io)
 ah:w.cell? ⟨sk,17,none⟩=some (.int .i64 ah)
 tl:w.cell? ⟨sk,43,none⟩=some tell
section
variable {sk sb:Nat} {v1 v2:Value} {wt:Nat→Bool} {io:Bool} {ah:Int} {tell:Value} {w w':World}
theorem D.kT.keep (h:kT sk sb v1 v2 wt io ah tell w) (e:w'.heap[sk]? = w.heap[sk]?):kT sk sb v1 v2 wt io ah tell w':=
 ⟨(World.cell?_of_block e).trans h.st,(World.cell?_of_block e).trans h.p1,(World.cell?_of_block e).trans h.p2,fun i y=>(World.cell?_of_block e).trans (h.wd i y),(World.cell?_of_block e).trans h.io,(World.cell?_of_block e).trans h.ah,(World.cell?_of_block e).trans h.tl⟩
theorem D.kT.lt (h:kT sk sb v1 v2 wt io ah tell w):sk < w.heap.size:=lt_of_cell h.st
end
def D.setB (vars:List ByteArray) (b:Bd) (wt:Nat→Bool):Bool:=(List.range 12).all fun i=>!wt i || decide (Iq vars b i ≠ ⟨#[]⟩)
theorem D.Dw {vars:List ByteArray} {b:Bd} {wt:Nat→Bool}:setB vars b wt=true ↔ ∀ i,i < 12→wt i=true→Iq vars b i ≠ ⟨#[]⟩:=by
 unfold setB;rw [List.all_eq_true];constructor
 ·intro h i y I
  have:=h i (List.mem_range.2 y);simpa [I] using this
 ·intro h i y
  have y:=List.mem_range.1 y;cases I:wt i
  ·rfl
  ·simpa using h i y I
structure D.TI where
 k:WK
 v:Value
 L:List Value
 n:Nat
def D.WX (u v:Value):Prop:=∀ x,u.ownBlock=some x→v.ownBlock ≠ some x
theorem D.WX.symm {u v:Value} (h:WX u v):WX v u:=fun x e y=>h x y e
abbrev D.Kt (r:TI):Value × Value × Nat:=(FH r.k,r.v,r.n)
structure D.rF (B:Nat) (G:WK→List Nat) (ou:List Nat) (rows:List TI) (w:World):Prop where
 coll:∀ r ∈ rows,aZ 1 wM B 3 w r.v r.L (G r.k) []
 dis:∀ r ∈ rows,∀ s ∈ rows,r.k ≠ s.k→WX r.v s.v
 own:∀ r ∈ rows,∀ x,r.v.ownBlock=some x→x ∈ ou
structure D.rG (B mu:Nat) (G:WK→List Nat) (ou:List Nat) (w:World):Prop where
 ex:∃ rows c,oP He mu (rows.map Kt) c w∧rF B G ou rows w∧∀ k,(∀ r ∈ rows,r.k ≠ k)→G k = []
structure D.Dx (B mu:Nat) (G:WK→List Nat) (ou:List Nat) (k:WK) (u:Value) (L:List Value) (n:Nat) (w:World):Prop where
 ex:∃ A1 B1 c,oP He mu (A1.map Kt ++ (FH k,u,n) :: B1.map Kt) c w∧rF B G ou (A1 ++ B1) w∧(∀ r ∈ A1 ++ B1,r.k ≠ k∧WX u r.v)∧∀ k',k' ≠ k→(∀ r ∈ A1 ++ B1,r.k ≠ k')→G k' = []
 coll:aZ 1 wM B 3 w u L (G k) []
 own:∀ x,u.ownBlock=some x→x ∈ ou
def D.Dy (G:WK→List Nat) (k:WK) (i:Nat):WK→List Nat:=fun y=>if y=k then G k ++ [i] else G y
section
variable {B mu:Nat} {G:WK→List Nat} {ou:List Nat} {w w':World}
theorem D.rF.keep {rows:List TI} (h:rF B G ou rows w) (y:∀ r ∈ rows,∀ x,r.v.ownBlock=some x→w'.heap[x]? = w.heap[x]?):rF B G ou rows w':=
 ⟨fun r hr=>(h.coll r hr).lU iF (y r hr) (fun b I=>by simp at I),h.dis,h.own⟩
theorem D.rF.lt {rows:List TI} (h:rF B G ou rows w) {r:TI} (hr:r ∈ rows) {x:Nat} (y:r.v.ownBlock=some x):B≤x∧x < w.heap.size:=bG (h.coll r hr).own y
theorem D.rG.keep (h:rG B mu G ou w) (h1:w'.heap[mu]? = w.heap[mu]?) (I:∀ x ∈ ou,w'.heap[x]? = w.heap[x]?):rG B mu G ou w':=by
 obtain ⟨rows,c,J,y,U⟩:=h.ex;exact ⟨rows,c,J.same h1,y.keep fun r hr x hx=>I x (y.own r hr x hx),U⟩
theorem D.Dx.keep {k:WK} {u:Value} {L:List Value} {n:Nat} (h:Dx B mu G ou k u L n w) (h1:w'.heap[mu]? = w.heap[mu]?) (I:∀ x ∈ ou,w'.heap[x]? = w.heap[x]?):Dx B mu G ou k u L n w':=by
 obtain ⟨U,B1,c,g1,J,g3,g4⟩:=h.ex;exact ⟨⟨U,B1,c,g1.same h1,J.keep fun r hr x y=>I x (J.own r hr x y),g3,g4⟩,h.coll.lU iF (fun x y=>I x (h.own x y)) (fun b hb=>by simp at hb),h.own⟩
theorem D.rG.entry (h:rG B mu G ou w) (hm:mu < B) (k:WK):
  ∃ w' u n L,(Instr.mapEntry 125 (.map (some mu)) (.agg #[.string k.name,.int .i64 k.size,.int .i64 k.place,.string k.word])).run Tryz.prog w=.ok (.tuple #[u,.int .i64 (n:Nat)]) w'∧Dx B mu G ou k u L n w'∧w.grownBy w' (some mu):=by
 obtain ⟨rows,c,g1,g2,g3⟩:=h.ex
 have kp:∀ {w':World},w.grownBy w' (some mu)→∀ r ∈ rows,∀ x,r.v.ownBlock=some x→w'.heap[x]? = w.heap[x]?:=fun hg r hr x hx=>by
  obtain ⟨h1,h2⟩:=g2.lt hr hx;exact hg.block x h2 (fun e=>by injection e with e; omega)
 by_cases hex:∃ r ∈ rows,r.k=k
 ·obtain ⟨r,hr,rfl⟩:=hex
  obtain ⟨A1,B1,rfl⟩:=List.append_of_mem hr;rw [List.map_append,List.map_cons] at g1;obtain ⟨w',r1,r2,r3⟩:=G5 wB (w:=w) trivial Tryz.underlying125 g1;have I:∀ s ∈ A1 ++ B1,s ∈ A1 ++ r :: B1:=fun s y=>(μ.1 y).elim (fun h=>Ξ _ h) fun h=>Ω _ (Δ _ h)
  have a0:∀ s ∈ A1 ++ B1,s.k ≠ r.k:=fun s y e=>by
   have ho:=r2.once;obtain ⟨p1,p2,p3⟩:=List.pairwise_append.1 ho
   rcases μ.1 y with y | y
   ·exact p3 (Kt s) (List.mem_map.2 ⟨s,y,rfl⟩) (Kt r) Γ (by show FH s.k=FH r.k; rw [e])
   ·exact (List.pairwise_cons.1 p2).1 (Kt s) (List.mem_map.2 ⟨s,y,rfl⟩) (by show FH r.k=FH s.k; rw [e])
  have U:=g2.keep (kp r3);refine ⟨w',r.v,r.n,r.L,r1,⟨⟨A1,B1,c,r2,⟨fun s y=>U.coll s (I s y),fun s y t ht=>U.dis s (I s y) t (I t ht),fun s y=>U.own s (I s y)⟩,fun s y=>⟨a0 s y,g2.dis r hr s (I s y) (fun e=>a0 s y e.symm)⟩,fun k' a1 J=>g3 k' fun s y=>?_⟩,U.coll r hr,g2.own r hr⟩,r3⟩
  rcases μ.1 y with y | y
  ·exact J s (Ξ _ y)
  ·rcases List.mem_cons.1 y with rfl | y
   ·exact fun e=>a1 e.symm
   ·exact J s (Ω _ y)
 ·have J:∀ r ∈ rows,r.k ≠ k:=fun r hr e=>hex ⟨r,hr,e⟩
  obtain ⟨w',r1,r2,r3⟩:=GZ wB (w:=w) trivial Tryz.underlying125 (k:=FH k) (z:=.slice none 0 0) g1 (by kernel_rfl) ⟨k,rfl⟩ (fun p hp e=>by
   obtain ⟨r,hr,rfl⟩:=List.mem_map.1 hp
   exact J r hr (Hf e))
  refine ⟨w',.slice none 0 0,c,[],r1,⟨⟨rows,[],c+1,by simpa using r2,by simpa using g2.keep (kp r3),fun r hr=>?_,fun k' a1 hn=>g3 k' fun r hr=>hn r (by simpa using hr)⟩,by rw [g3 k J]; exact aZ.nil _,fun x hx=>by simp [Value.ownBlock] at hx⟩,r3⟩;simp at hr;exact ⟨J r hr,fun x hx=>by simp [Value.ownBlock] at hx⟩
theorem D.Dx.store {k:WK} {u I:Value} {L L':List Value} {n i:Nat} (h:Dx B mu G ou k u L n w) (hm:mu < B) (hg:w.grownBy w' u.ownBlock) (hc:aZ 1 wM B 3 w' I L' (G k ++ [i]) []) (U:I.ownBlock=u.ownBlock∨I.ownBlock=some w.heap.size):
  ∃ w2 a2,(Instr.entryStore 125 (.map (some mu)) (.int .i64 (n:Nat)) I).run Tryz.prog w'=.ok () w2∧rG B mu (Dy G k i) a2 w2∧w'.grownBy w2 (some mu)∧∀ x ∈ a2,x ∈ ou∨(I.ownBlock=some x∧x=w.heap.size):=by
 obtain ⟨A1,B1,c,g1,g2,g3,g4⟩:=h.ex
 have a8:w'.heap[mu]? = w.heap[mu]?:=hg.block mu g1.lt (fun e=>by
  have:=(bG h.coll.own e.symm).1; omega)
 obtain ⟨w2,r1,r2,r3⟩:=Cm (P:=Tryz.prog) (t:=125) I (g1.same a8);have a3:∀ x,B≤x→x < w'.heap.size→w2.heap[x]? = w'.heap[x]?:=fun x h1 h2=>r3.block x h2 (fun e=>by injection e with e; omega)
 have a4:rF B G ou (A1 ++ B1) w2:=g2.keep fun r hr x J=>by
  obtain ⟨h1,h2⟩:=g2.lt hr J;exact (a3 x h1 (κ h2 hg.size)).trans (hg.block x h2 (fun e=>(g3 r hr).2 x e.symm J))
 have a9:aZ 1 wM B 3 w2 I L' (G k ++ [i]) []:=hc.lU iF (fun x J=>by
  obtain ⟨h1,h2⟩:=bG hc.own J
  exact a3 x h1 h2) (fun b hb=>by simp at hb)
 have a0:∀ r ∈ A1 ++ B1,WX I r.v:=fun r hr x J a5=>by
  rcases U with e | e
  ·exact (g3 r hr).2 x (e ▸ J) a5
  ·rw [e] at J
   have:=(g2.lt hr a5).2
   injection J with J
   omega
 refine ⟨w2,ou ++ I.ownBlock.toList,r1,⟨A1 ++ ⟨k,I,L',n⟩ :: B1,c,by rw [List.map_append,List.map_cons]; exact r2,⟨fun r hr=>?_,fun r hr s hs a6=>?_,fun r hr x J=>?_⟩,fun k' a1=>?_⟩,r3,fun x J=>?_⟩
 ·rcases μ.1 hr with hr | hr
  ·have:=a4.coll r (Ξ _ hr)
   unfold Dy; rw [if_neg (g3 r (Ξ _ hr)).1]; exact this
  ·rcases List.mem_cons.1 hr with rfl | hr
   ·unfold Dy; rw [if_pos rfl]; exact a9
   ·have:=a4.coll r (Ω _ hr)
    unfold Dy; rw [if_neg (g3 r (Ω _ hr)).1]; exact this
 ·have cs:∀ t ∈ A1 ++ ⟨k,I,L',n⟩ :: B1,t=⟨k,I,L',n⟩∨t ∈ A1 ++ B1:=fun t ht=>by
   rcases μ.1 ht with ht | ht
   ·exact .inr (Ξ _ ht)
   ·rcases List.mem_cons.1 ht with rfl | ht
    ·exact .inl rfl
    ·exact .inr (Ω _ ht)
  rcases cs r hr with rfl | hr <;> rcases cs s hs with rfl | hs
  ·exact absurd rfl a6
  ·exact a0 s hs
  ·exact (a0 r hr).symm
  ·exact g2.dis r hr s hs a6
 ·rcases μ.1 hr with hr | hr
  ·exact Ξ _ (g2.own r (Ξ _ hr) x J)
  ·rcases List.mem_cons.1 hr with rfl | hr
   ·have y:I.ownBlock=some x:=J
    exact Ω _ (by rw [y]; simp)
   ·exact Ξ _ (g2.own r (Ω _ hr) x J)
 ·have a7:k' ≠ k:=fun e=>a1 ⟨k,I,L',n⟩ (by simp) e.symm
  unfold Dy;rw [if_neg a7];exact g4 k' a7 fun r hr=>(μ.1 hr).elim (fun h=>a1 r (Ξ _ h)) fun h=>a1 r (Ω _ (Δ _ h))
 ·rcases μ.1 J with h' | h'
  ·exact .inl h'
  ·have y:I.ownBlock=some x:=by simpa using h'
   rcases U with e | e
   ·exact .inl (h.own x (e ▸ y))
   ·refine .inr ⟨y,?_⟩
    rw [e] at y
    injection y with y
    exact y.symm
end
end
end Go.Proofs.YtkjinanbccloeaaGreatDoor
