/- Of the proof of FnDeltaNeeds: ChkS, Facts3, Draw4, Without, Union, SeaP, StoW, DoLP. -/
import Derived.Test.YtkjinanbccloeaaGreatDoorE16
import Derived.Test.YtkjinanbccloeaaGreatDoorE17
import Derived.Test.YtkjinanbccloeaaGreatDoorE15
set_option linter.unusedVariables false
set_option maxHeartbeats 4000000
set_option maxRecDepth 100000
namespace Go.Proofs.YtkjinanbccloeaaGreatDoor
section
open Go.RowKit D
attribute [local go_sem ↓] Go.wp_at_zero Go.wp_at_succ
theorem Nj (rs:List Ru) (v:Value) (bs:List Nat) (w:World) (h:dW w [v] rs bs) (hf:rs.length≤8) (hok:rs.all eY=true):
  Calls Tryz.prog 168 #[v] w fun e w'=>e=.returned (.bool (mG rs))∧Below w.heap.size w w':=by
 obtain ⟨Ad,cap,rfl,hl,hm⟩:=aj h;have a7:=ay (τ hl hm);have c1:=zf rs _ bs w h hf hok;have U:Hid (mG rs=(aA rs).any fun x=>decide (rs.length≤x)):=η rfl;have HL:=η (gu rs);clear hl hm h
 go_enter Tryz.func168,Tryz.ntmps168
 go_wp2_with fail
 refine c1.mono ?_;rintro e w1 ⟨hB,rfl,I,hmx⟩;clear c1 hB;have a4:=η hmx;clear hmx;generalize aA rs=xs at *;go_wp2
 go_loopw [4] (fun i wr=>∃ k:Nat,k≤rs.length∧i=.int .i64 k∧(∀ i,i < k→iZ xs i < rs.length)∧nV w rs xs wr) (fun i _=>rs.length - (intOf i).toNat)
 case atStart=>exact ⟨0,ε,rfl,fun i h=>by omega,I⟩
 case round=>
  obtain ⟨k,hk,rfl,y,I⟩:=hrel;have HA:=η y;have HI:=η I;clear y;by_cases J:k < rs.length
  ·have a8:(0:Int)≤(k:Int):=by omega
   have a5:(k:Int) < (rs.length:Int):=by omega
   have a1:=I.at J;have a6:=a4.out k;obtain ⟨a,ha⟩:∃ a,a=iZ xs k:=⟨_,rfl⟩;rw [← ha] at a1 a6;by_cases a0:rs.length≤a
   ·have HZ:Hid (mG rs=true):=η (by
     rw [U.out,List.any_eq_true];have a2:k < xs.length:=by rw [HL.out]; exact J
     refine ⟨xs[k],δ a2,decide_eq_true ?_⟩;have:iZ xs k=xs[k]:=by unfold iZ; rw [List.getD_eq_getElem?_getD,Ψ a2]; rfl
     omega)
    have a3:(rs.length:Int)≤(a:Int):=by omega
    clear U HA ha I a0;go_wp2;go_ret;exact ⟨aH HZ.out.symm,HI.out.bel⟩
   ·have HZ:Hid (∀ i,i < k+1→iZ xs i < rs.length):=η fun i hi=>by
     by_cases e:i=k
     ·subst e; omega
     ·exact HA.out i (by omega)
    have a3:¬ (rs.length:Int)≤(a:Int):=by omega
    clear U HA ha I a0;go_wp2;go_roundw
    case rel=>exact ⟨k+1,J,by go_num,HZ.out,HI.out⟩
    case measure=>simp [intOf]; omega
  ·have he:k=rs.length:=by omega
   have a5:¬ (k:Int) < (rs.length:Int):=by omega
   have HZ:Hid (mG rs=false):=η (by
    rw [U.out,List.any_eq_false];intro x hx;obtain ⟨i,hi,rfl⟩:=List.mem_iff_getElem.1 hx;have h1:=HA.out i (by rw [HL.out] at hi; omega);have:iZ xs i=xs[i]:=by unfold iZ; rw [List.getD_eq_getElem?_getD,Ψ hi]; rfl
    simp; omega)
   clear U HA I he;go_wp2;go_ret;exact ⟨aH HZ.out.symm,HI.out.bel⟩
theorem D.Nk {r:Ru} (h:eY r=true):je (fun p=>p.atom.args.length) r.body≤1000000∧r.head.args.length≤1000000:=by
 obtain ⟨h1,_,y⟩:=kJ h;have J:=y r.head Γ;have U:=Fa (fun p:Pt=>p.atom.args.length) 3 r.body fun p I=>y p.atom (Δ _ (List.mem_map.2 ⟨p,I,rfl⟩))
 omega
theorem D.Vu (rs:List Ru) (k:Nat) (h:k < rs.length) (h0:(rs.take k).all eY=true):(rs.take (k+1)).all eY=eY rs[k]:=by
 rw [ρ h,List.all_append,h0]; simp
theorem D.XB (rs:List Ru) (k:Nat) (h:k < rs.length) (h0:eY rs[k]=false):eU rs=1:=by
 unfold eU;rw [if_pos (List.all_eq_false.2 ⟨_,δ h,by simp [h0]⟩)]
theorem D.Vw (rs:List Ru) (k:Nat) (h:k < rs.length) (h0:(rs.take k).all (fun r=>fO r.head r.body)=true):((rs.take (k+1)).all fun r=>fO r.head r.body)=fO rs[k].head rs[k].body:=by
 rw [ρ h,List.all_append,h0]; simp
theorem D.XC (rs:List Ru) (k:Nat) (h:k < rs.length) (h0:fO rs[k].head rs[k].body=false):(rs.all fun r=>fO r.head r.body)=false:=
 List.all_eq_false.2 ⟨_,δ h,by simp [h0]⟩
theorem uT (rs:List Ru) (v:Value) (bs:List Nat) (w:World) (h:dW w [v] rs bs):
  Calls Tryz.prog 105 #[v] w fun e w'=>e=.returned (.int .i64 (eU rs))∧Below w.heap.size w w':=by
 obtain ⟨Ad,cap,rfl,hl,hm⟩:=aj h;have ac:=ay (τ hl hm);have C1:=η fun w' (hb:Below w.heap.size w w') (hn:(aB rs).length≤1000000)=>Po rs _ bs w' (aS.below h hb) hn
 have C3:=η fun w' (hb:Below w.heap.size w w') (hok:rs.all eY=true) (hf:rs.length≤8)=>Nj rs _ bs w' (aS.below h hb) hf hok
 clear hl hm
 go_enter Tryz.func105,Tryz.ntmps105
 go_wp2
 go_loopw [3] (fun i wr=>∃ k:Nat,k≤rs.length∧i=.int .i64 k∧(rs.take k).all eY=true∧Below w.heap.size w wr) (fun i _=>rs.length - (intOf i).toNat)
 case atStart=>exact ⟨0,ε,rfl,rfl,ϑ⟩
 case round=>
  obtain ⟨k,hk,rfl,J,hb⟩:=hrel;have HA:=η J;clear J;by_cases y:k < rs.length
  ·clear C1 C3
   obtain ⟨b,o,Ae,ce,Af,cf,bk,rfl,_,d0,d1,d2,a0,_⟩:=iI (aS.below h hb) y;have HS:=η (Vu rs k y HA.out);have I:=η (XB rs k y);have a7:(0:Int)≤(k:Int):=by omega
   have a3:(k:Int) < (rs.length:Int):=by omega
   have c1:=Pq rs[k] _ _ _ bk wr a0;have a1:=η y;clear h a0;generalize rs[k]=r at *;clear y;obtain ⟨⟨nm,args⟩,body⟩:=r;dsimp only at *
   go_wp2_with fail
   refine c1.mono ?_;rintro e w2 ⟨rfl,a4⟩;have B2:=hb.trans (a4.mono hb.size);clear c1;cases h1:eY ⟨⟨nm,args⟩,body⟩
   ·have U:=η (I.out h1)
    clear h1 I HS;go_wp2;go_ret;exact ⟨fC (by simp [U.out]),B2⟩
   ·have U:=η (HS.out.trans h1)
    clear h1 I HS;go_wp2;go_roundw
    case rel=>exact ⟨k+1,a1.out,by go_num,U.out,B2⟩
    case measure=>have:=a1.out; simp [intOf]; omega
  ·have he:k=rs.length:=by omega
   have a3:¬ (k:Int) < (rs.length:Int):=by omega
   have hok:rs.all eY=true:=by have:=HA.out; rw [he,ϕ ν] at this; exact this
   clear HA he;by_cases hf:rs.length≤8
   ·have a8:¬ (8:Int) < (rs.length:Int):=by omega
    have hP:eU rs=if kH (aB rs)=false then 3 else if (rs.all fun r=>fO r.head r.body)=false then 4 else if mG rs=true then 5 else 0:=by
     unfold eU; rw [if_neg (by simp [hok]),if_neg (by omega)]
    have a5:(aB rs).length≤1000000:=by have:=(jO hok).2; omega
    have C4:=η fun w' hb=>C1.out w' hb a5
    have C5:=η fun w' hb=>C3.out w' hb hok hf
    have HP:=η hP;have a9:=η hok;clear hok hf hP C1 C3 a5
    go_wp2_with fail
    refine (C4.out _ hb).mono ?_;rintro e w2 ⟨rfl,a4⟩;have B2:=hb.trans (a4.mono hb.size);clear C4;cases ha:kH (aB rs)
    ·have U:Hid (eU rs=3):=η (by rw [HP.out,if_pos ha])
     clear HP ha;go_wp2;go_ret;exact ⟨fC (by simp [U.out]),B2⟩
    ·replace HP:Hid (eU rs=if (rs.all fun r=>fO r.head r.body)=false then 4 else if mG rs=true then 5 else 0):=η (by rw [HP.out,if_neg (by simp [ha])])
     clear ha hb a4;go_wp2
     go_loopw [4] (fun i wr=>∃ k:Nat,k≤rs.length∧i=.int .i64 k∧(rs.take k).all (fun r=>fO r.head r.body)=true∧Below w.heap.size w wr) (fun i _=>rs.length - (intOf i).toNat)
     case atStart=>exact ⟨0,ε,rfl,rfl,B2⟩
     case round=>
      clear hk a3;obtain ⟨k,hk,rfl,J,hb⟩:=hrel;have HA:=η J;clear J;by_cases y:k < rs.length
      ·clear C5
       obtain ⟨b,o,Ae,ce,Af,cf,bk,rfl,_,d0,d1,d2,a0,_⟩:=iI (aS.below h hb) y;have HS:=η (Vw rs k y HA.out);have I:=η (XC rs k y);have a7:(0:Int)≤(k:Int):=by omega
       have a3:(k:Int) < (rs.length:Int):=by omega
       have a2:=Nk (ό.1 a9.out _ (δ y));have c1:=Df rs[k] _ _ _ bk wr a0 a2.1 a2.2;have a1:=η y;clear h a0 a2;generalize rs[k]=r at *;clear y;obtain ⟨⟨nm,args⟩,body⟩:=r;dsimp only at *
       go_wp2_with fail
       refine c1.mono ?_;rintro e w3 ⟨rfl,aa⟩;have B3:=hb.trans (aa.mono hb.size);clear c1;cases h1:fO ⟨nm,args⟩ body
       ·have U:Hid (eU rs=4):=η (by rw [HP.out,if_pos (I.out h1)])
        clear h1 I HS HP;go_wp2;go_ret;exact ⟨fC (by simp [U.out]),B3⟩
       ·have U:=η (HS.out.trans h1)
        clear h1 I HS;go_wp2;go_roundw
        case rel=>exact ⟨k+1,a1.out,by go_num,U.out,B3⟩
        case measure=>have:=a1.out; simp [intOf]; omega
      ·have he:k=rs.length:=by omega
       have a3:¬ (k:Int) < (rs.length:Int):=by omega
       have a6:(rs.all fun r=>fO r.head r.body)=true:=by have:=HA.out; rw [he,ϕ ν] at this; exact this
       replace HP:Hid (eU rs=if mG rs=true then 5 else 0):=η (by rw [HP.out,if_neg (by simp [a6])]);clear HA he a6 h
       go_wp2_with fail
       refine (C5.out _ hb).mono ?_;rintro e w4 ⟨rfl,ab⟩;have B4:=hb.trans (ab.mono hb.size);clear C5;cases hc:mG rs
       ·have U:Hid (eU rs=0):=η (by rw [HP.out,if_neg (by simp [hc])])
        clear HP hc;go_wp2;go_ret;exact ⟨fC (by simp [U.out]),B4⟩
       ·have U:Hid (eU rs=5):=η (by rw [HP.out,if_pos hc])
        clear HP hc;go_wp2;go_ret;exact ⟨fC (by simp [U.out]),B4⟩
   ·have a8:(8:Int) < (rs.length:Int):=by omega
    have U:Hid (eU rs=2):=η (by unfold eU; rw [if_neg (by simp [hok]),if_pos (by omega)]);clear hok hf C1 C3 h;go_wp2;go_ret;exact ⟨fC (by simp [U.out]),hb⟩
theorem oK (xs:List A) (v:Value) (bs:List Nat) (w:World) (h:aC w [v] xs bs):
  Calls Tryz.prog 140 #[v] w fun e w'=>e=.returned (.bool (aU xs))∧Below w.heap.size w w':=by
 obtain ⟨J,cap,rfl,U,hm⟩:=aj h;have I:=MX xs _ bs 300 w h (by omega);rw [← rF] at I;generalize aU xs=r at *;clear h hm
 go_enter Tryz.func140,Tryz.ntmps140
 go_wp2_with fail
 refine I.mono ?_;rintro e w1 ⟨rfl,y⟩;go_wp2;go_ret;exact ⟨rfl,y⟩
theorem sO (xs:List A) (v:Value) (bs:List Nat) (w:World) (h:aC w [v] xs bs):
  Calls Tryz.prog 18 #[v] w fun e w'=>e=.returned (.bool (aU xs))∧Below w.heap.size w w':=by
 obtain ⟨Ad,cap,rfl,hl,hm⟩:=aj h;have a8:=ay (τ hl hm);clear hm;by_cases I:xs.length≤300
 ·have a2:¬ (300:Int) < (xs.length:Int):=by omega
  have a3:¬ 300 < xs.length:=by omega
  have HE:Hid (aU xs=okB xs):=η (by rw [rF,decide_eq_true I,Bool.and_true]);clear I
  go_enter Tryz.func18,Tryz.ntmps18
  go_wp2
  go_loopw [10] (fun i wr=>∃ k:Nat,k≤xs.length∧i=.int .i64 k∧Ky xs k∧Below w.heap.size w wr) (fun i _=>xs.length - (intOf i).toNat)
  case atStart=>exact ⟨0,ε,rfl,Ox _,ϑ⟩
  case round=>
   obtain ⟨k,hk,rfl,J,hb⟩:=hrel;have HA:=η J;clear J;by_cases U:k < xs.length
   ·have a9:(0:Int)≤(k:Int):=by omega
    have aa:(k:Int) < (xs.length:Int):=by omega
    obtain ⟨b,o,Ae,ce,bk,rfl,_,c0,c1,a4,_⟩:=dL (au.below h hb) U;have hA:Below wr.heap.size wr (wr.alloc (.cells #[.string xs[k].name,.slice Ae xs[k].args.length ce] 33)):=ζ;have hg:=PI xs[k] _ _ bk _ (ak.below a4 hA);have a5:=η (fun hf=>Oy (k:=k) HA.out U hf);have a6:=η (fun hf=>Qm U hf);generalize dI xs[k]=x at *;clear h a4
    go_wp2_with fail
    refine hg.mono ?_;rintro e w' ⟨rfl,a0⟩;have B':=hb.trans ((hA.trans (a0.mono hA.size)).mono hb.size);cases x
    ·go_wp2
     go_ret;exact ⟨aH (by rw [HE.out,a6.out (by simp)]),B'⟩
    ·go_wp2
     go_roundw
     case rel=>exact ⟨k+1,by omega,by go_num,a5.out (by simp),B'⟩
     case measure=>simp [intOf]; omega
   ·have he:k=xs.length:=by omega
    have HO:Hid (okB xs=gm xs):=η (by
     have hf:=HA.out;rw [he] at hf;unfold okB
     rw [show xs.all dI=true from by
      rw [ό]; intro y hy
      obtain ⟨j,hj,rfl⟩:=List.mem_iff_getElem.1 hy
      exact hf j hj hj,Bool.true_and])
    have ab:¬ (k:Int) < (xs.length:Int):=by omega
    have hs:=iH Ad xs.length cap wr;have has:=fun w' (a0:Below wr.heap.size wr w')=>LP xs _ bs w' (au.below (au.below h hb) a0)
    clear h he HA
    go_wp2_with fail
    refine hs.mono ?_;rintro e w1 ⟨rfl,a1⟩
    go_wp2_with fail
    refine (has _ a1).mono ?_;rintro e w2 ⟨rfl,a7⟩;go_wp2;go_ret;exact ⟨aH (by rw [HE.out,HO.out]),hb.trans ((a1.trans (a7.mono a1.size)).mono hb.size)⟩
 ·have a2:(300:Int) < (xs.length:Int):=by omega
  have a3:300 < xs.length:=by omega
  have HE:Hid (aU xs=false):=η (by rw [rF,decide_eq_false I,Bool.and_false]);clear I h
  go_enter Tryz.func18,Tryz.ntmps18
  go_wp2;go_ret;exact ⟨aH HE.out.symm,ϑ⟩
theorem IE:(Tryz.prog.info? 33).map (fun i=>(i.zero,i.size,i.bytes))=some (some (.agg #[.string ⟨#[]⟩,.slice none 0 0]),2,40):=by kernel_rfl
theorem D.uU {w:World} {y:Nat} (ha:Rz w y) {L:List Value} {xs:List A} {bs:List Nat} (h:aT 2 aJ w L xs bs):y ∉ bs:=by
 obtain ⟨h1,h2,G,rfl,I⟩:=h;intro hb;obtain ⟨j,J,hc⟩:=List.mem_flatMap.1 hb;obtain ⟨s,_,_,U⟩:=I j (List.mem_range.1 J);exact rX ha U hc
structure qU (g p:Nat) (w:World) (xs:List A) (v:Value) (wr:World):Prop where
 coll:∃ L bs,aX 2 aJ w.heap.size 33 wr v L xs bs∧∀ b ∈ bs,w.heap.size≤b
 small:∀ a ∈ xs,a.args.length≤4
 rdr:kQ g p wr
 kept:aI [g] w wr
 glt:g < w.heap.size
section
variable {g p:Nat} {w:World} {xs:List A} {v:Value} {wr:World}
theorem qU.call {p2:Nat} {y:World} (h:qU g p w xs v wr) (U:kQ g p2 y) (hK:aI [g] wr y):qU g p2 w xs v y:=by
 obtain ⟨L,bs,J,I⟩:=h.coll;exact ⟨⟨L,bs,J.KG ak hK h.glt (uU h.rdr.Gh J.row),I⟩,h.small,U,h.kept.trans hK,h.glt⟩
theorem qU.below {I:World} (h:qU g p w xs v wr) (hB:Below wr.heap.size wr I):qU g p w xs v I:=by
 obtain ⟨L,bs,J,y⟩:=h.coll;exact ⟨⟨L,bs,J.below ak hB,y⟩,h.small,h.rdr.below hB,h.kept.eP hB h.kept.size,h.glt⟩
theorem qU.atoms (h:qU g p w xs v wr):∃ bs,aC wr [v] xs bs∧∀ b ∈ bs,w.heap.size≤b:=by
 obtain ⟨L,bs,I,y⟩:=h.coll;obtain ⟨J,U,h2⟩:=I.slice;exact ⟨J,U,fun b hb=>(h2 b hb).elim id (y b)⟩
theorem qU.shape (h:qU g p w xs v wr):∃ A c,v=.slice A xs.length c:=by
 obtain ⟨L,bs,y,_⟩:=h.coll;exact dU y.own
theorem qU.put {y:World} {xs':List A} {I:Value} (h:qU g p w xs v wr) (hB:Below wr.heap.size wr y) (hs:∀ a ∈ xs',a.args.length≤4) {bb:List Nat} (ho:(I=v∧xs'=xs)∨∃ L U,aX 2 aJ wr.heap.size 33 y I L xs' U∧∀ c ∈ U,c ∈ bb) (J:∀ c ∈ bb,w.heap.size≤c):qU g p w xs' I y:=by
 rcases ho with ⟨rfl,rfl⟩ | ⟨L,b2,hC,h9⟩
 ·exact h.below hB
 ·exact ⟨⟨L,b2,hC.mono h.kept.size,fun c hc=>J c (h9 c hc)⟩,hs,h.rdr.below hB,h.kept.eP hB h.kept.size,h.glt⟩
end
def YF (m k g p q:Nat) (w:World) (e:Ending) (w':World):Prop:=
 ∃ (xs:List A) (v:Value) (y:Nat),e=.returned v∧gm xs=true∧xs.length≤m∧(∀ a ∈ xs,a.args.length≤k)∧y≤p+q∧qU g y w xs v w'
theorem oL (g p m:Nat) (w:World) (h:kQ g p w) (hp:p≤700000) (hm:1≤m) (a5:m≤100):
  Calls Tryz.prog 102 #[.pointer (some ⟨g,0,none⟩),.int .i64 m] w (YF m 3 g p (8 * m) w):=by
 have hA:Below w.heap.size w (w.alloc (.cells #[] 33)):=ζ;have HF:Hid (qU g p w [] (.slice (some ⟨w.heap.size,0,none⟩) 0 0) (w.alloc (.cells #[] 33))):=η ⟨⟨_,_,aX.empty (ω w _) ν,fun b hb=>by simp at hb⟩,fun a ha=>by simp at ha,h.below hA,aI.of_below hA,h.lt⟩;have a6:=pick_any g p m _ HF.out.rdr (by omega) (by omega) (by omega);have HP:=η (ι hp a5);clear h hp hm a5 hA
 go_enter Tryz.func102,Tryz.ntmps102
 go_wp2_with fail
 refine a6.mono ?_;rintro e w1 ⟨n,rfl,hn,a7,a8⟩;have a9:=η (HF.out.call a7 (aI.dB a8));have HN:Hid (n < m):=η (by omega);clear a6 a7 a8 HF hn;go_wp2
 go_loopw [5,6] (fun v i wr=>∃ (k:Nat) (xs:List A) (Av:Option Addr) (cp J:Nat),k≤n∧i=.int .i64 k∧v=.slice Av xs.length cp∧gm xs=true∧xs.length+k≤n∧(∀ a ∈ xs,a.args.length≤3)∧J+7 * k≤p+1+7 * n∧qU g J w xs (.slice Av xs.length cp) wr) (fun _ i _=>(intOf i).toNat)
 case atStart=>exact ⟨n,[],_,_,p+1,ν,rfl,rfl,rfl,by simp,fun a ha=>by simp at ha,by omega,a9.out⟩
 case round=>
  obtain ⟨k,xs,Av,cp,J,hk,rfl,rfl,hs,hx,aa,hp,hF⟩:=hrel;have I:=η hF;have HX:Hid (gm xs=true∧xs.length+k≤n∧(∀ a ∈ xs,a.args.length≤3)∧J+7 * k≤p+1+7 * n):=η ⟨hs,hx,aa,hp⟩;have HQ:Hid (J≤800000∧k≤100):=η (by have:=HP.out; have:=HN.out; omega);clear hF a9 hs hx aa hp;by_cases a1:0 < k
  ·have aL:(0:Int) < (k:Int):=by omega
   have aM:(k:Int)≤100:=by have:=HQ.out.2; omega
   have HK:=η a1;have hc:=Di g J wr I.out.rdr HQ.out.1;clear hk a1
   go_wp2_with fail
   refine hc.mono ?_;rintro e w2 ⟨a,v2,L2,p2,rfl,ab,ac,a2,ae,af,ag⟩;obtain ⟨b2,am,U⟩:=a2.slice;have aw:Hid (∀ c ∈ b2,w.heap.size≤c):=η (fun c hc=>τ I.out.kept.size ((U c hc).resolve_right (by simp)));clear U;have ao:aJ w2 [.string a.name,v2] a b2:=⟨_,rfl,Sm.max ab,am⟩;obtain ⟨A2,c2,rfl⟩:=dU a2.own;have a3:=η (I.out.call ae ag);obtain ⟨b3,aq,ar⟩:=a3.out.atoms;have az:=η ar;clear ar;have a0:=vW xs a _ _ _ b3 b2 w2 aq ao HX.out.1 (by have:=HX.out.2.1; have:=HP.out; have:=HN.out; omega);have a4:Hid (a.args.length≤3∧p2≤J+7):=η ⟨ac,af⟩;clear hc a2 ae ag am ao aq ab ac af
   go_wp2_with fail
   refine a0.mono ?_;rintro e w3 ⟨aD,v3,b4,rfl,av,ho⟩;have aE:=η (a3.out.put (xs':=eG xs a) aD (fun y hy=>by rcases vM hy with hy | rfl; exact Nat.le_succ_of_le (HX.out.2.2.1 y hy); exact Nat.le_succ_of_le a4.out.1) ho (fun c hc=>(μ.1 hc).elim (az.out c) (aw.out c)));obtain ⟨A3,c3,rfl,_,_⟩:=aj av;clear a0 av ho a3 I;go_wp2;go_roundw
   case rel=>exact ⟨k - 1,eG xs a,A3,c3,p2,by have:=HX.out.2.1; omega,by have:=HK.out; first | (unfold wrap64; congr 1; omega) | go_num,rfl,yj HX.out.1 a,by have:=qm xs a; have:=HX.out.2.1; have:=HK.out; omega,fun y hy=>by rcases vM hy with hy | rfl; exact HX.out.2.2.1 y hy; exact a4.out.1,by have:=HX.out.2.2.2; have:=a4.out.2; have:=HK.out; omega,aE.out⟩
   case measure=>have:=HK.out; simp [intOf]; omega
  ·obtain rfl:k=0:=by omega
   clear hk a1;go_wp2;go_ret;exact ⟨xs,_,J,rfl,HX.out.1,by have:=HX.out.2.1; have:=HN.out; omega,HX.out.2.2.1,by have:=HX.out.2.2.2; have:=HN.out; omega,I.out⟩
end
section
open Go.RowKit D Go.Shelf
attribute [local go_sem ↓] Go.wp_at_zero Go.wp_at_succ
attribute [local go_sem] Oper.semAt_some
theorem uV (xs ys:List A) (v1 v2:Value) (ae af:List Nat) (w:World) (h1:aC w [v1] xs ae) (h2:aC w [v2] ys af) (bo:xs.length≤1000000) (bp:ys.length≤1000000):
  Calls Tryz.prog 84 #[v1,v2] w (Reads aC (gy xs ys) w.heap.size w):=by
 obtain ⟨Ad,cap,rfl,hl,hm⟩:=aj h1;obtain ⟨a0,cap2,rfl,bq,aR⟩:=aj h2;obtain ⟨i0,hi,b1,b2,b3⟩:=info_parts IA;have br:=rG _ xs ys ν;clear hm aR;refine (callsIn_wide (n:=4)).1 ?_;refine callsIn_of_wp_marks Tryz.func84 rfl trivial ?_ rfl;simp only [Tryz.ntmps84,List.size_toArray,List.length_cons,List.length_nil,Nat.reduceAdd,Nat.reduceSub,Array.replicate_succ,Array.replicate_zero,List.push_toArray,List.append_toArray,List.nil_append,List.cons_append];have ag:Below w.heap.size w (w.alloc (.cells #[.slice none 0 0] 24)):=ζ;have a8:Boxed (w.alloc (.cells #[.slice none 0 0] 24)) w.heap.size 24 (.slice none 0 0):=Boxed.new _ _ _
 gi_wp2
 refine ⟨trivial,?_⟩;refine (callsIn_wide.2 (iH Ad xs.length cap _)).mono ?_;rintro e w2 ⟨rfl,am⟩;have B2:=ag.trans (am.mono ag.size);have a9:Boxed w2 w.heap.size 24 (.slice none 0 0):=(am.block _ a8.lt).trans a8
 gi_wp2
 refine ⟨trivial,?_⟩;refine (callsIn_wide.2 (iH a0 ys.length cap2 _)).mono ?_;rintro e w3 ⟨rfl,ao⟩;have B3:=B2.trans (ao.mono B2.size);have a6:Boxed w3 w.heap.size 24 (.slice none 0 0):=(ao.block _ a9.lt).trans a9;have bt:w.heap.size < w3.heap.size:=a6.lt;clear a8 a9
 gi_wp2
 refine ⟨trivial,?_⟩;refine (callsIn_wide.2 (merge_any _ _ _ _ _ _ _)).mono ?_;rintro e w4 ⟨rfl,rfl⟩
 gi_wp2
 have hM:Below w3.heap.size w3 ((w3.alloc (.cells #[.slice Ad xs.length cap,.func (.func 64) #[] #[]] 112)).alloc (.cells #[.slice a0 ys.length cap2,.func (.func 64) #[] #[]] 112)):=(ζ).alloc (by simp) _;have s1:((w3.alloc (.cells #[.slice Ad xs.length cap,.func (.func 64) #[] #[]] 112)).alloc (.cells #[.slice a0 ys.length cap2,.func (.func 64) #[] #[]] 112)).cell? ⟨w3.heap.size,0,none⟩=some (.slice Ad xs.length cap):=by go_simp
 have s2:((w3.alloc (.cells #[.slice Ad xs.length cap,.func (.func 64) #[] #[]] 112)).alloc (.cells #[.slice a0 ys.length cap2,.func (.func 64) #[] #[]] 112)).cell? ⟨w3.heap.size,1,none⟩=some (.func (.func 64) #[] #[]):=by go_simp
 have s3:((w3.alloc (.cells #[.slice Ad xs.length cap,.func (.func 64) #[] #[]] 112)).alloc (.cells #[.slice a0 ys.length cap2,.func (.func 64) #[] #[]] 112)).cell? ⟨w3.heap.size+1,0,none⟩=some (.slice a0 ys.length cap2):=by go_simp
 generalize ((w3.alloc (.cells #[.slice Ad xs.length cap,.func (.func 64) #[] #[]] 112)).alloc (.cells #[.slice a0 ys.length cap2,.func (.func 64) #[] #[]] 112))=wm at *;have B4:=B3.trans (hM.mono B3.size);have aq:Boxed wm w.heap.size 24 (.slice none 0 0):=(hM.block _ a6.lt).trans a6;clear a6;have b4:w.heap.size≤wm.heap.size:=B4.size;have ar:w.heap.size < wm.heap.size:=aq.lt;have b6:w3.heap.size < wm.heap.size:=lt_of_cell s1;have b7:w3.heap.size+1 < wm.heap.size:=lt_of_cell s3
 refine wpIn_rangeFunc_ownH rfl (by omega) (gf:=197) (lb:=#[.pointer (some ⟨w3.heap.size,0,none⟩),.pointer (some ⟨w3.heap.size+1,0,none⟩)]) rfl trivial (enters_of Tryz.func197 (by kernel_rfl) rfl)
  (uP 3 (by omega) w3.heap.size (w3.heap.size+1) xs ys _ _ ae af w wm h1 h2 (mO w.heap.size wm.heap.size) (fun W W' hk hI=>hk.inv hI b6 b7 (by omega) (by omega) ν ar) ⟨s1,s2,s3,B4⟩) mO.trans mO.putObj ϑ (fun _=>rfl)
  (fun y W=>((∃ v,Boxed W w.heap.size 24 v∧W.ownsRow wm.heap.size 33 2 v (gW y).length (pU (gW y))∧True)∧Below w.heap.size w W)∧wm.heap.size≤W.heap.size)
  (fun c y W=>False)
  (OwnFrom.and (OwnFrom.and (Own.from (holdsRow_own wm.heap.size w.heap.size 24 33 2 (fun y=>(gW y).length) (fun y=>pU (gW y)) (fun y v=>True)) _) (ownFrom_below ν b4)) (fun s A B row hs hg hr=>τ hs hg.size))
  (fun c=>fun _ _ _ _ hs _ _=>hs)
  ⟨⟨⟨_,aq,World.ownsRow_nil _ _ _ _,trivial⟩,B4⟩,ν⟩
  (fun x a' W=>∃ Bx,wm.heap.size≤Bx∧W.heap[Bx]? = some (.cells #[x.c0,x.c1] 33 (0,0))∧a'={ tmps:=#[.slice Ad xs.length cap,.slice a0 ys.length cap2,undef,undef,.slice none 0 0,.pointer (some ⟨w.heap.size,0,none⟩),.pointer (some ⟨Bx,0,none⟩),.int .i64 x.s,.slice Ad xs.length cap,.agg #[.slice Ad xs.length cap,.func (.func 64) #[] #[]],.slice a0 ys.length cap2,.agg #[.slice a0 ys.length cap2,.func (.func 64) #[] #[]],.func (.func 197) #[] #[.pointer (some ⟨w3.heap.size,0,none⟩),.pointer (some ⟨w3.heap.size+1,0,none⟩)],.agg #[x.c0,x.c1],.int .i64 x.s,undef,undef,undef,undef,undef,undef,undef],defers:=[] })
  (fun x a' _ X Y row hs hg hr=>by
   obtain ⟨Bx,g1,g2,g3⟩:=hs
   exact ⟨Bx,g1,(hg.block Bx (ψ g2) (fun e=>by obtain ⟨_,o,ho,hc⟩:=hr Bx e.symm; rw [g2] at ho; cases ho; cases hc)).trans g2,g3⟩)
  ?assign ?body ?done ?stop
 case assign=>
  rintro l y x W K ⟨⟨⟨v,a1,J,_⟩,hB⟩,hS⟩ hK;obtain ⟨c0,c1,a,s,bs,a2⟩:=x;obtain ⟨Ax,U,rfl,rfl⟩:=bG a2;dsimp only [pK.enc]
  gi_wp2
  exact hK _ _ ((KeepsOthers.alloc _ _).from _) (mO.dB (World.grownBy_alloc W _ none) hS (fun r e=>by cases e)) ⟨⟨⟨v,a1.alloc _,J.alloc _,trivial⟩,hB.alloc hB.size _⟩,τ hS (by simp)⟩ ⟨W.heap.size,hS,ω W _,rfl⟩
 case body=>
  rintro l y x a' W bu ⟨r,hr⟩ ⟨⟨⟨v,a1,J,_⟩,hB⟩,hS⟩ ⟨Bx,bv,hX,rfl⟩ hlen;obtain ⟨c0,c1,a,s,bs,a2⟩:=x;obtain ⟨Ax,U,rfl,rfl⟩:=bG a2;obtain ⟨A1,a4,rfl⟩:=dU J;have hc:=a1.cell;have hf:=a1.frozen;have y0:W.cell? ⟨Bx,0,none⟩=some (.string a.name):=by rw [cell_of_row W Bx 0 _ _ _ hX]; rfl
  have y1:W.cell? ⟨Bx,1,none⟩=some (.slice Ax a.args.length U):=by rw [cell_of_row W Bx 1 _ _ _ hX]; rfl
  have bw:=SQ y;have bx:(gW y).length+1≤2000000:=by omega
  have HX:=η hX;have av:=η a1;have a3:=η J;clear hX a1 hlen hr;by_cases a7:s=0
  ·have b8:((s:Int) == 0)=true:=beq_iff_eq.2 (by omega)
   have aa:=η a7;clear a7
   gi_wp2_with (gi_at_builtin; refine wpListIn_append_own _ rfl _ _ 24 rfl wm.heap.size 33 i0 (.agg #[.string ⟨#[]⟩,.slice none 0 0]) 2 40 Tryz.underlying24 hi b1 b2 b3 rfl (by decide) _ _ _ rfl (a3.out.alloc _) ⟨W.heap.size,0,none⟩ 1 1 [.string a.name,.slice Ax a.args.length U] rfl rfl (World.news_of_block (cs:=#[.string a.name,.slice Ax a.args.length U]) (ω W _)) (by simp [Value.oneCell']) (by unfold maxLen; omega) (by omega) (by simp; omega) ?_; intro v' w1 a5 I _; obtain ⟨A2,ab,rfl⟩:=dU a5; obtain ⟨aw,b9,bc,bf⟩:=IB av.out (by decide) a3.out a5 I; have bz:=aw.cell; have bA:=aw.frozen)
   have hg:W.grownBy w1 (Value.slice A1 (gW y).length a4).ownBlock:=⟨I.os,I.tape,I.output,τ (by simp) I.size,fun k hk bg=>(I.block k (by simp; omega) bg).trans (Below.heap_alloc _ _ _ hk)⟩;have az:=Fv a3.out;have bh:mO w.heap.size wm.heap.size W w1:=mO.dB hg hS (fun r e=>.inl (az r e));have bi:mO w.heap.size wm.heap.size w1 (w1.setCell ⟨w.heap.size,0,none⟩ (.slice A2 ((gW y).length+1) ab)):=mO.dB (grownBy_setCell' w1 w.heap.size _) (τ hS hg.size) (fun r e=>by cases e; exact .inr rfl);have bj:Below w.heap.size w w1:=hB.grown hg hB.size (fun r e=>by have:=az r e; omega)
   have ac:(w1.setCell ⟨w.heap.size,0,none⟩ (.slice A2 ((gW y).length+1) ab)).ownsRow wm.heap.size 33 2 (.slice A2 ((gW y).length+1) ab) (gW (y ++ [(⟨.string a.name,.slice Ax a.args.length U,a,s,bs,a2⟩:pK w)])).length (pU (gW (y ++ [(⟨.string a.name,.slice Ax a.args.length U,a,s,bs,a2⟩:pK w)]))):=by
    rw [PL _ _ aa.out,Dl,@List.length_append _ (gW y) _]; exact bc
   exact ⟨bf.from _,bh.trans bi,⟨⟨_,b9,ac⟩,bj.setCell ν _⟩,τ hS (τ hg.size (by simp [World.setCell]))⟩
  ·have b8:((s:Int) == 0)=false:=beq_eq_false_iff_ne.2 (by omega)
   have aa:=η a7;clear a7
   gi_wp2
   have ac:W.ownsRow wm.heap.size 33 2 (.slice A1 (gW y).length a4) (gW (y ++ [(⟨.string a.name,.slice Ax a.args.length U,a,s,bs,a2⟩:pK w)])).length (pU (gW (y ++ [(⟨.string a.name,.slice Ax a.args.length U,a,s,bs,a2⟩:pK w)]))):=by
    rw [SN _ _ aa.out]; exact a3.out
   exact ⟨KeepsFrom.refl _ _,mO.dB (row:=none) ⟨rfl,rfl,rfl,ν,fun _ _ _=>rfl⟩ hS (fun r e=>by cases e),⟨⟨_,av.out,ac⟩,hB⟩,hS⟩
 case done=>
  rintro D pr W hD hS ⟨⟨⟨v,a1,J,_⟩,hB⟩,bB⟩ hK;obtain ⟨A1,a4,rfl⟩:=dU J;have hc:=a1.cell;have HS:Hid ((gW pr).map (·.a)=gy xs ys):=η (Vm hS);have a3:=η J;clear hS J
  gi_wp2
  refine ⟨by simp,.inl ⟨_,_,rfl,run_takeDeferred hK,?_⟩⟩;obtain ⟨bs,bk⟩:=YA (gW pr);have aD:=hB.trans (belowK_b (w:=w) ν W D _ (.deferred none) (by omega) hK rfl rfl);have aE:=ownsRow_putObj a3.out (.deferred none) hK rfl;have aL:=bk.below ak aD;rw [HS.out] at aL;have aM:(gW pr).length=(gy xs ys).length:=by rw [← HS.out,List.length_map]
  rw [aM] at aE;obtain ⟨b5,bl,_⟩:=aL.slice aE;have bn:aC (W.putObj D (.deferred none)) [.slice A1 (gW pr).length a4] (gy xs ys) b5:=by rw [aM]; exact bl
  exact ⟨.slice A1 (gW pr).length a4,by simp [results,Tryz.f84,go_sem],aD,_,b5,rfl,bn⟩
 case stop=>
  rintro D c y W _ _ h _;exact h.elim
theorem Tf (xs ys:List A) (v1 v2:Value) (aa ab:List Nat) (w:World) (h1:aC w [v1] xs aa) (h2:aC w [v2] ys ab) (bk:xs.length≤1000000) (bl:ys.length≤1000000):
  Calls Tryz.prog 83 #[v1,v2] w (Reads aC (dA xs ys) w.heap.size w):=by
 obtain ⟨Ad,cap,rfl,hl,hm⟩:=aj h1;obtain ⟨U,cap2,rfl,bn,aD⟩:=aj h2;obtain ⟨i0,hi,aE,aL,aM⟩:=info_parts IA;have bo:=rG _ xs ys ν;clear hm aD;refine (callsIn_wide (n:=4)).1 ?_;refine callsIn_of_wp_marks Tryz.func83 rfl trivial ?_ rfl;simp only [Tryz.ntmps83,List.size_toArray,List.length_cons,List.length_nil,Nat.reduceAdd,Nat.reduceSub,Array.replicate_succ,Array.replicate_zero,List.push_toArray,List.append_toArray,List.nil_append,List.cons_append];have ac:Below w.heap.size w (w.alloc (.cells #[.slice none 0 0] 24)):=ζ;have a7:Boxed (w.alloc (.cells #[.slice none 0 0] 24)) w.heap.size 24 (.slice none 0 0):=Boxed.new _ _ _
 gi_wp2
 refine ⟨trivial,?_⟩;refine (callsIn_wide.2 (iH Ad xs.length cap _)).mono ?_;rintro e w2 ⟨rfl,ae⟩;have B2:=ac.trans (ae.mono ac.size);have a8:Boxed w2 w.heap.size 24 (.slice none 0 0):=(ae.block _ a7.lt).trans a7
 gi_wp2
 refine ⟨trivial,?_⟩;refine (callsIn_wide.2 (iH U ys.length cap2 _)).mono ?_;rintro e w3 ⟨rfl,af⟩;have B3:=B2.trans (af.mono B2.size);have a5:Boxed w3 w.heap.size 24 (.slice none 0 0):=(af.block _ a8.lt).trans a8;have bp:w.heap.size < w3.heap.size:=a5.lt;clear a7 a8
 gi_wp2
 refine ⟨trivial,?_⟩;refine (callsIn_wide.2 (merge_any _ _ _ _ _ _ _)).mono ?_;rintro e w4 ⟨rfl,rfl⟩
 gi_wp2
 have hM:Below w3.heap.size w3 ((w3.alloc (.cells #[.slice Ad xs.length cap,.func (.func 64) #[] #[]] 112)).alloc (.cells #[.slice U ys.length cap2,.func (.func 64) #[] #[]] 112)):=(ζ).alloc (by simp) _;have s1:((w3.alloc (.cells #[.slice Ad xs.length cap,.func (.func 64) #[] #[]] 112)).alloc (.cells #[.slice U ys.length cap2,.func (.func 64) #[] #[]] 112)).cell? ⟨w3.heap.size,0,none⟩=some (.slice Ad xs.length cap):=by go_simp
 have s2:((w3.alloc (.cells #[.slice Ad xs.length cap,.func (.func 64) #[] #[]] 112)).alloc (.cells #[.slice U ys.length cap2,.func (.func 64) #[] #[]] 112)).cell? ⟨w3.heap.size,1,none⟩=some (.func (.func 64) #[] #[]):=by go_simp
 have s3:((w3.alloc (.cells #[.slice Ad xs.length cap,.func (.func 64) #[] #[]] 112)).alloc (.cells #[.slice U ys.length cap2,.func (.func 64) #[] #[]] 112)).cell? ⟨w3.heap.size+1,0,none⟩=some (.slice U ys.length cap2):=by go_simp
 generalize ((w3.alloc (.cells #[.slice Ad xs.length cap,.func (.func 64) #[] #[]] 112)).alloc (.cells #[.slice U ys.length cap2,.func (.func 64) #[] #[]] 112))=wm at *;have B4:=B3.trans (hM.mono B3.size);have ag:Boxed wm w.heap.size 24 (.slice none 0 0):=(hM.block _ a5.lt).trans a5;clear a5;have aR:w.heap.size≤wm.heap.size:=B4.size;have am:w.heap.size < wm.heap.size:=ag.lt;have b1:w3.heap.size < wm.heap.size:=lt_of_cell s1;have b2:w3.heap.size+1 < wm.heap.size:=lt_of_cell s3
 refine wpIn_rangeFunc_ownH rfl (by omega) (gf:=197) (lb:=#[.pointer (some ⟨w3.heap.size,0,none⟩),.pointer (some ⟨w3.heap.size+1,0,none⟩)]) rfl trivial (enters_of Tryz.func197 (by kernel_rfl) rfl)
  (uP 3 (by omega) w3.heap.size (w3.heap.size+1) xs ys _ _ aa ab w wm h1 h2 (mO w.heap.size wm.heap.size) (fun W W' hk hI=>hk.inv hI b1 b2 (by omega) (by omega) ν am) ⟨s1,s2,s3,B4⟩) mO.trans mO.putObj ϑ (fun _=>rfl)
  (fun y W=>((∃ v,Boxed W w.heap.size 24 v∧W.ownsRow wm.heap.size 33 2 v y.length (pU y)∧True)∧Below w.heap.size w W)∧wm.heap.size≤W.heap.size)
  (fun c y W=>False)
  (OwnFrom.and (OwnFrom.and (Own.from (holdsRow_own wm.heap.size w.heap.size 24 33 2 (fun y=>y.length) (fun y=>pU y) (fun y v=>True)) _) (ownFrom_below ν aR)) (fun s A B row hs hg hr=>τ hs hg.size))
  (fun c=>fun _ _ _ _ hs _ _=>hs)
  ⟨⟨⟨_,ag,World.ownsRow_nil _ _ _ _,trivial⟩,B4⟩,ν⟩
  (fun x a' W=>∃ Bx,wm.heap.size≤Bx∧W.heap[Bx]? = some (.cells #[x.c0,x.c1] 33 (0,0))∧a'={ tmps:=#[.slice Ad xs.length cap,.slice U ys.length cap2,undef,undef,.slice none 0 0,.pointer (some ⟨w.heap.size,0,none⟩),.pointer (some ⟨Bx,0,none⟩),.slice Ad xs.length cap,.agg #[.slice Ad xs.length cap,.func (.func 64) #[] #[]],.slice U ys.length cap2,.agg #[.slice U ys.length cap2,.func (.func 64) #[] #[]],.func (.func 197) #[] #[.pointer (some ⟨w3.heap.size,0,none⟩),.pointer (some ⟨w3.heap.size+1,0,none⟩)],.agg #[x.c0,x.c1],.int .i64 x.s,undef,undef,undef,undef,undef],defers:=[] })
  (fun x a' _ X Y row hs hg hr=>by
   obtain ⟨Bx,g1,g2,g3⟩:=hs
   exact ⟨Bx,g1,(hg.block Bx (ψ g2) (fun e=>by obtain ⟨_,o,ho,hc⟩:=hr Bx e.symm; rw [g2] at ho; cases ho; cases hc)).trans g2,g3⟩)
  ?assign ?body ?done ?stop
 case assign=>
  rintro l y x W K ⟨⟨⟨v,a1,J,_⟩,hB⟩,hS⟩ hK;obtain ⟨c0,c1,a,s,bs,a2⟩:=x;obtain ⟨Ax,a0,rfl,rfl⟩:=bG a2;dsimp only [pK.enc]
  gi_wp2
  exact hK _ _ ((KeepsOthers.alloc _ _).from _) (mO.dB (World.grownBy_alloc W _ none) hS (fun r e=>by cases e)) ⟨⟨⟨v,a1.alloc _,J.alloc _,trivial⟩,hB.alloc hB.size _⟩,τ hS (by simp)⟩ ⟨W.heap.size,hS,ω W _,rfl⟩
 case body=>
  rintro l y x a' W bq ⟨r,hr⟩ ⟨⟨⟨v,a1,J,_⟩,hB⟩,hS⟩ ⟨Bx,br,hX,rfl⟩ hlen;obtain ⟨c0,c1,a,s,bs,a2⟩:=x;obtain ⟨Ax,a0,rfl,rfl⟩:=bG a2;obtain ⟨A1,a6,rfl⟩:=dU J;have hc:=a1.cell;have hf:=a1.frozen;have y0:W.cell? ⟨Bx,0,none⟩=some (.string a.name):=by rw [cell_of_row W Bx 0 _ _ _ hX]; rfl
  have y1:W.cell? ⟨Bx,1,none⟩=some (.slice Ax a.args.length a0):=by rw [cell_of_row W Bx 1 _ _ _ hX]; rfl
  have bt:y.length+1≤2000000:=by omega
  have HX:=η hX;have b3:=η a1;have a3:=η J;clear hX a1 hlen hr
  gi_wp2_with (gi_at_builtin; refine wpListIn_append_own _ rfl _ _ 24 rfl wm.heap.size 33 i0 (.agg #[.string ⟨#[]⟩,.slice none 0 0]) 2 40 Tryz.underlying24 hi aE aL aM rfl (by decide) _ _ _ rfl (a3.out.alloc _) ⟨W.heap.size,0,none⟩ 1 1 [.string a.name,.slice Ax a.args.length a0] rfl rfl (World.news_of_block (cs:=#[.string a.name,.slice Ax a.args.length a0]) (ω W _)) (by simp [Value.oneCell']) (by unfold maxLen; omega) (by omega) (by simp; omega) ?_; intro v' w1 a4 I _; obtain ⟨A2,a9,rfl⟩:=dU a4; obtain ⟨ao,b4,b6,b7⟩:=IB b3.out (by decide) a3.out a4 I; have bu:=ao.cell; have bv:=ao.frozen)
  have hg:W.grownBy w1 (Value.slice A1 y.length a6).ownBlock:=⟨I.os,I.tape,I.output,τ (by simp) I.size,fun k hk b8=>(I.block k (by simp; omega) b8).trans (Below.heap_alloc _ _ _ hk)⟩;have aq:=Fv a3.out;have b9:mO w.heap.size wm.heap.size W w1:=mO.dB hg hS (fun r e=>.inl (aq r e));have bc:mO w.heap.size wm.heap.size w1 (w1.setCell ⟨w.heap.size,0,none⟩ (.slice A2 (y.length+1) a9)):=mO.dB (grownBy_setCell' w1 w.heap.size _) (τ hS hg.size) (fun r e=>by cases e; exact .inr rfl);have bf:Below w.heap.size w w1:=hB.grown hg hB.size (fun r e=>by have:=aq r e; omega)
  have bg:(w1.setCell ⟨w.heap.size,0,none⟩ (.slice A2 (y.length+1) a9)).ownsRow wm.heap.size 33 2 (.slice A2 (y.length+1) a9) (y ++ [(⟨.string a.name,.slice Ax a.args.length a0,a,s,bs,a2⟩:pK w)]).length (pU (y ++ [(⟨.string a.name,.slice Ax a.args.length a0,a,s,bs,a2⟩:pK w)])):=by
   rw [Dl,@List.length_append _ y _]; exact b6
  exact ⟨b7.from _,b9.trans bc,⟨⟨_,b4,bg⟩,bf.setCell ν _⟩,τ hS (τ hg.size (by simp [World.setCell]))⟩
 case done=>
  rintro D pr W hD hS ⟨⟨⟨v,a1,J,_⟩,hB⟩,bw⟩ hK;obtain ⟨A1,a6,rfl⟩:=dU J;have hc:=a1.cell;have HS:Hid (pr.map (·.a)=dA xs ys):=η (SL hS);have a3:=η J;clear hS J
  gi_wp2
  refine ⟨by simp,.inl ⟨_,_,rfl,run_takeDeferred hK,?_⟩⟩;obtain ⟨bs,bh⟩:=YA pr;have ar:=hB.trans (belowK_b (w:=w) ν W D _ (.deferred none) (by omega) hK rfl rfl);have av:=ownsRow_putObj a3.out (.deferred none) hK rfl;have aw:=bh.below ak ar;rw [HS.out] at aw;have az:pr.length=(dA xs ys).length:=by rw [← HS.out,List.length_map]
  rw [az] at av;obtain ⟨b5,bi,_⟩:=aw.slice av;have bj:aC (W.putObj D (.deferred none)) [.slice A1 pr.length a6] (dA xs ys) b5:=by rw [az]; exact bi
  exact ⟨.slice A1 pr.length a6,by simp [results,Tryz.f83,go_sem],ar,_,b5,rfl,bj⟩
 case stop=>
  rintro D c y W _ _ h _;exact h.elim
end
section
open Go.RowKit D
structure D.mP (sk sb:Nat) (v1 v2:Value) (wt:Nat→Bool) (io:Bool) (ah:Int) (tell:Value) (w:World):Prop where
 st:w.cell? ⟨sk,0,none⟩=some (.pointer (some ⟨sb,0,none⟩))
 p1:w.cell? ⟨sk,1,none⟩=some v1
 p2:w.cell? ⟨sk,2,none⟩=some v2
 wd:∀ i,i < 12→w.cell? ⟨sk,4+i,none⟩=some (.bool (wt i))
 io:w.cell? ⟨sk,16,none⟩=some (.bool io)
 ah:w.cell? ⟨sk,17,none⟩=some (.int .i64 ah)
 tl:w.cell? ⟨sk,43,none⟩=some tell
section
variable {sk sb:Nat} {v1 v2:Value} {wt:Nat→Bool} {io:Bool} {ah:Int} {tell:Value} {w w':World}
theorem D.mP.keep (h:mP sk sb v1 v2 wt io ah tell w) (e:w'.heap[sk]? = w.heap[sk]?):mP sk sb v1 v2 wt io ah tell w':=
 ⟨(World.cell?_of_block e).trans h.st,(World.cell?_of_block e).trans h.p1,(World.cell?_of_block e).trans h.p2,fun i y=>(World.cell?_of_block e).trans (h.wd i y),(World.cell?_of_block e).trans h.io,(World.cell?_of_block e).trans h.ah,(World.cell?_of_block e).trans h.tl⟩
theorem D.mP.lt (h:mP sk sb v1 v2 wt io ah tell w):sk < w.heap.size:=lt_of_cell h.st
end
def D.setB (vars:List ByteArray) (b:Bd) (wt:Nat→Bool):Bool:=(List.range 12).all fun i=>!wt i || decide (JZ vars b i ≠ ⟨#[]⟩)
theorem D.FH {vars:List ByteArray} {b:Bd} {wt:Nat→Bool}:setB vars b wt=true ↔ ∀ i,i < 12→wt i=true→JZ vars b i ≠ ⟨#[]⟩:=by
 unfold setB;rw [ό];constructor
 ·intro h i y I
  have:=h i (List.mem_range.2 y);simpa [I] using this
 ·intro h i y
  have y:=List.mem_range.1 y;cases I:wt i
  ·rfl
  ·simpa using h i y I
structure D.Vx where
 k:WK
 v:Value
 L:List Value
 n:Nat
def D.YG (u v:Value):Prop:=∀ x,u.ownBlock=some x→v.ownBlock ≠ some x
theorem D.YG.symm {u v:Value} (h:YG u v):YG v u:=fun x e y=>h x y e
abbrev D.Nl (r:Vx):Value × Value × Nat:=(Ib r.k,r.v,r.n)
structure D.uX (B:Nat) (G:WK→List Nat) (ou:List Nat) (rows:List Vx) (w:World):Prop where
 coll:∀ r ∈ rows,aX 1 yT B 3 w r.v r.L (G r.k) []
 dis:∀ r ∈ rows,∀ s ∈ rows,r.k ≠ s.k→YG r.v s.v
 own:∀ r ∈ rows,∀ x,r.v.ownBlock=some x→x ∈ ou
structure D.uY (B mu:Nat) (G:WK→List Nat) (ou:List Nat) (w:World):Prop where
 ex:∃ rows c,qN Jt mu (rows.map Nl) c w∧uX B G ou rows w∧∀ k,(∀ r ∈ rows,r.k ≠ k)→G k = []
structure D.FI (B mu:Nat) (G:WK→List Nat) (ou:List Nat) (k:WK) (u:Value) (L:List Value) (n:Nat) (w:World):Prop where
 ex:∃ A1 B1 c,qN Jt mu (A1.map Nl ++ (Ib k,u,n) :: B1.map Nl) c w∧uX B G ou (A1 ++ B1) w∧(∀ r ∈ A1 ++ B1,r.k ≠ k∧YG u r.v)∧∀ k',k' ≠ k→(∀ r ∈ A1 ++ B1,r.k ≠ k')→G k' = []
 coll:aX 1 yT B 3 w u L (G k) []
 own:∀ x,u.ownBlock=some x→x ∈ ou
def D.FK (G:WK→List Nat) (k:WK) (i:Nat):WK→List Nat:=fun y=>if y=k then G k ++ [i] else G y
section
variable {B mu:Nat} {G:WK→List Nat} {ou:List Nat} {w w':World}
theorem D.uX.keep {rows:List Vx} (h:uX B G ou rows w) (y:∀ r ∈ rows,∀ x,r.v.ownBlock=some x→w'.heap[x]? = w.heap[x]?):uX B G ou rows w':=
 ⟨fun r hr=>(h.coll r hr).nU ji (y r hr) (fun b hb=>by simp at hb),h.dis,h.own⟩
theorem D.uX.lt {rows:List Vx} (h:uX B G ou rows w) {r:Vx} (hr:r ∈ rows) {x:Nat} (y:r.v.ownBlock=some x):B≤x∧x < w.heap.size:=bH (h.coll r hr).own y
theorem D.uY.keep (h:uY B mu G ou w) (h1:w'.heap[mu]? = w.heap[mu]?) (I:∀ x ∈ ou,w'.heap[x]? = w.heap[x]?):uY B mu G ou w':=by
 obtain ⟨rows,c,J,y,U⟩:=h.ex;exact ⟨rows,c,J.same h1,y.keep fun r hr x hx=>I x (y.own r hr x hx),U⟩
theorem D.FI.keep {k:WK} {u:Value} {L:List Value} {n:Nat} (h:FI B mu G ou k u L n w) (h1:w'.heap[mu]? = w.heap[mu]?) (I:∀ x ∈ ou,w'.heap[x]? = w.heap[x]?):FI B mu G ou k u L n w':=by
 obtain ⟨U,B1,c,g1,J,g3,g4⟩:=h.ex;exact ⟨⟨U,B1,c,g1.same h1,J.keep fun r hr x y=>I x (J.own r hr x y),g3,g4⟩,h.coll.nU ji (fun x y=>I x (h.own x y)) (fun b hb=>by simp at hb),h.own⟩
theorem D.uY.entry (h:uY B mu G ou w) (hm:mu < B) (k:WK):
  ∃ w' u n L,(Instr.mapEntry 125 (.map (some mu)) (.agg #[.string k.name,.int .i64 k.size,.int .i64 k.place,.string k.word])).run Tryz.prog w=.ok (.tuple #[u,.int .i64 (n:Nat)]) w'∧FI B mu G ou k u L n w'∧w.grownBy w' (some mu):=by
 obtain ⟨rows,c,g1,g2,g3⟩:=h.ex
 have kp:∀ {w':World},w.grownBy w' (some mu)→∀ r ∈ rows,∀ x,r.v.ownBlock=some x→w'.heap[x]? = w.heap[x]?:=fun hg r hr x hx=>by
  obtain ⟨h1,h2⟩:=g2.lt hr hx;exact hg.block x h2 (fun e=>by injection e with e; omega)
 by_cases hex:∃ r ∈ rows,r.k=k
 ·obtain ⟨r,hr,rfl⟩:=hex
  obtain ⟨A1,B1,rfl⟩:=List.append_of_mem hr;rw [List.map_append,List.map_cons] at g1;obtain ⟨w',r1,r2,r3⟩:=Jo yK (w:=w) trivial Tryz.underlying125 g1;have I:∀ s ∈ A1 ++ B1,s ∈ A1 ++ r :: B1:=fun s y=>(μ.1 y).elim (fun h=>Ξ _ h) fun h=>Ω _ (Δ _ h)
  have a0:∀ s ∈ A1 ++ B1,s.k ≠ r.k:=fun s y e=>by
   have ho:=r2.once;obtain ⟨p1,p2,p3⟩:=List.pairwise_append.1 ho
   rcases μ.1 y with y | y
   ·exact p3 (Nl s) (List.mem_map.2 ⟨s,y,rfl⟩) (Nl r) Γ (by show Ib s.k=Ib r.k; rw [e])
   ·exact (List.pairwise_cons.1 p2).1 (Nl s) (List.mem_map.2 ⟨s,y,rfl⟩) (by show Ib r.k=Ib s.k; rw [e])
  have U:=g2.keep (kp r3);refine ⟨w',r.v,r.n,r.L,r1,⟨⟨A1,B1,c,r2,⟨fun s y=>U.coll s (I s y),fun s y t ht=>U.dis s (I s y) t (I t ht),fun s y=>U.own s (I s y)⟩,fun s y=>⟨a0 s y,g2.dis r hr s (I s y) (fun e=>a0 s y e.symm)⟩,fun k' a1 J=>g3 k' fun s y=>?_⟩,U.coll r hr,g2.own r hr⟩,r3⟩
  rcases μ.1 y with y | y
  ·exact J s (Ξ _ y)
  ·rcases ύ.1 y with rfl | y
   ·exact fun e=>a1 e.symm
   ·exact J s (Ω _ y)
 ·have J:∀ r ∈ rows,r.k ≠ k:=fun r hr e=>hex ⟨r,hr,e⟩
  obtain ⟨w',r1,r2,r3⟩:=Jm yK (w:=w) trivial Tryz.underlying125 (k:=Ib k) (z:=.slice none 0 0) g1 (by kernel_rfl) ⟨k,rfl⟩ (fun p hp e=>by
   obtain ⟨r,hr,rfl⟩:=List.mem_map.1 hp
   exact J r hr (Ju e))
  refine ⟨w',.slice none 0 0,c,[],r1,⟨⟨rows,[],c+1,by simpa using r2,by simpa using g2.keep (kp r3),fun r hr=>?_,fun k' a1 hn=>g3 k' fun r hr=>hn r (by simpa using hr)⟩,by rw [g3 k J]; exact aX.nil _,fun x hx=>by simp [Value.ownBlock] at hx⟩,r3⟩;simp at hr;exact ⟨J r hr,fun x hx=>by simp [Value.ownBlock] at hx⟩
theorem D.FI.store {k:WK} {u I:Value} {L L':List Value} {n i:Nat} (h:FI B mu G ou k u L n w) (hm:mu < B) (hg:w.grownBy w' u.ownBlock) (hc:aX 1 yT B 3 w' I L' (G k ++ [i]) []) (U:I.ownBlock=u.ownBlock∨I.ownBlock=some w.heap.size):
  ∃ w2 a2,(Instr.entryStore 125 (.map (some mu)) (.int .i64 (n:Nat)) I).run Tryz.prog w'=.ok () w2∧uY B mu (FK G k i) a2 w2∧w'.grownBy w2 (some mu)∧∀ x ∈ a2,x ∈ ou∨(I.ownBlock=some x∧x=w.heap.size):=by
 obtain ⟨A1,B1,c,g1,g2,g3,g4⟩:=h.ex
 have a8:w'.heap[mu]? = w.heap[mu]?:=hg.block mu g1.lt (fun e=>by
  have:=(bH h.coll.own e.symm).1; omega)
 obtain ⟨w2,r1,r2,r3⟩:=ED (P:=Tryz.prog) (t:=125) I (g1.same a8);have a3:∀ x,B≤x→x < w'.heap.size→w2.heap[x]? = w'.heap[x]?:=fun x h1 h2=>r3.block x h2 (fun e=>by injection e with e; omega)
 have a4:uX B G ou (A1 ++ B1) w2:=g2.keep fun r hr x J=>by
  obtain ⟨h1,h2⟩:=g2.lt hr J;exact (a3 x h1 (κ h2 hg.size)).trans (hg.block x h2 (fun e=>(g3 r hr).2 x e.symm J))
 have a9:aX 1 yT B 3 w2 I L' (G k ++ [i]) []:=hc.nU ji (fun x J=>by
  obtain ⟨h1,h2⟩:=bH hc.own J
  exact a3 x h1 h2) (fun b hb=>by simp at hb)
 have a0:∀ r ∈ A1 ++ B1,YG I r.v:=fun r hr x J a5=>by
  rcases U with e | e
  ·exact (g3 r hr).2 x (e ▸ J) a5
  ·rw [e] at J
   have:=(g2.lt hr a5).2
   injection J with J
   omega
 refine ⟨w2,ou ++ I.ownBlock.toList,r1,⟨A1 ++ ⟨k,I,L',n⟩ :: B1,c,by rw [List.map_append,List.map_cons]; exact r2,⟨fun r hr=>?_,fun r hr s hs a6=>?_,fun r hr x J=>?_⟩,fun k' a1=>?_⟩,r3,fun x J=>?_⟩
 ·rcases μ.1 hr with hr | hr
  ·have:=a4.coll r (Ξ _ hr)
   unfold FK; rw [if_neg (g3 r (Ξ _ hr)).1]; exact this
  ·rcases ύ.1 hr with rfl | hr
   ·unfold FK; rw [if_pos rfl]; exact a9
   ·have:=a4.coll r (Ω _ hr)
    unfold FK; rw [if_neg (g3 r (Ω _ hr)).1]; exact this
 ·have cs:∀ t ∈ A1 ++ ⟨k,I,L',n⟩ :: B1,t=⟨k,I,L',n⟩∨t ∈ A1 ++ B1:=fun t ht=>by
   rcases μ.1 ht with ht | ht
   ·exact .inr (Ξ _ ht)
   ·rcases ύ.1 ht with rfl | ht
    ·exact .inl rfl
    ·exact .inr (Ω _ ht)
  rcases cs r hr with rfl | hr <;> rcases cs s hs with rfl | hs
  ·exact absurd rfl a6
  ·exact a0 s hs
  ·exact (a0 r hr).symm
  ·exact g2.dis r hr s hs a6
 ·rcases μ.1 hr with hr | hr
  ·exact Ξ _ (g2.own r (Ξ _ hr) x J)
  ·rcases ύ.1 hr with rfl | hr
   ·have y:I.ownBlock=some x:=J
    exact Ω _ (by rw [y]; simp)
   ·exact Ξ _ (g2.own r (Ω _ hr) x J)
 ·have a7:k' ≠ k:=fun e=>a1 ⟨k,I,L',n⟩ (by simp) e.symm
  unfold FK;rw [if_neg a7];exact g4 k' a7 fun r hr=>(μ.1 hr).elim (fun h=>a1 r (Ξ _ h)) fun h=>a1 r (Ω _ (Δ _ h))
 ·rcases μ.1 J with h' | h'
  ·exact .inl h'
  ·have y:I.ownBlock=some x:=by simpa using h'
   rcases U with e | e
   ·exact .inl (h.own x (e ▸ y))
   ·refine .inr ⟨y,?_⟩
    rw [e] at y
    injection y with y
    exact y.symm
end
theorem D.Np (xs:List A) (c:Ch) (a:A):hasB (behind xs c) a=(hasB xs a && !hasB c.goes a || hasB c.comes a):=by unfold behind; rw [vN,qH]
end
end Go.Proofs.YtkjinanbccloeaaGreatDoor
