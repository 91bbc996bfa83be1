/- Of the proof of FnExactDelta: Facts3, Without, Union, SeaP, StoW. -/
import Derived.Test.YtiidmgchadagbaaGreatDoorM24
import Derived.Test.YtiidmgchadagbaaGreatDoorM25
set_option linter.unusedVariables false
set_option maxHeartbeats 4000000
set_option maxRecDepth 100000
namespace Go.Proofs.YtiidmgchadagbaaGreatDoor
open Go.RowKit D
attribute [local go_sem ↓] Go.wp_at_zero Go.wp_at_succ
theorem nP (xs:List A) (v:Value) (bs:List Nat) (w:World) (h:aI w [v] xs bs):
  Calls Tryz.prog 76 #[v] w fun e w'=>e=.returned (.bool (bH xs))∧Below w.heap.size w w':=by
 obtain ⟨Ad,cap,rfl,hl,hm⟩:=af h;have hk:=JS xs _ bs 300 w h (by omega);rw [← qG] at hk;generalize bH xs=r at *;clear h hm
 go_enter Tryz.func76,Tryz.ntmps76
 go_wp2_with fail
 refine hk.mono ?_;rintro e w1 ⟨rfl,hb1⟩;go_wp2;go_ret;exact ⟨rfl,hb1⟩
theorem rC (xs:List A) (v:Value) (bs:List Nat) (w:World) (h:aI w [v] xs bs):
  Calls Tryz.prog 81 #[v] w fun e w'=>e=.returned (.bool (bH xs))∧Below w.heap.size w w':=by
 obtain ⟨Ad,cap,rfl,hl,hm⟩:=af h;have hlm:=au (Nat.le_trans hl hm);clear hm;by_cases hle:xs.length≤300
 ·have hle':¬ (300:Int) < (xs.length:Int):=by omega
  have hle2:¬ 300 < xs.length:=by omega
  have HE:Hid (bH xs=okB xs):=η (by rw [qG,decide_eq_true hle,Bool.and_true]);clear hle
  go_enter Tryz.func81,Tryz.ntmps81
  go_wp2
  go_loopw [10] (fun i wr=>∃ k:Nat,k≤xs.length∧i=.int .i64 k∧Io xs k∧Below w.heap.size w wr) (fun i _=>xs.length - (intOf i).toNat)
  case atStart=>exact ⟨0,Nat.zero_le _,rfl,Lj _,Below.refl _ _⟩
  case round=>
   obtain ⟨k,hk,rfl,hall,hb⟩:=hrel;have HA:=η hall;clear hall;by_cases hlt:k < xs.length
   ·have hk0:(0:Int)≤(k:Int):=by omega
    have hk1:(k:Int) < (xs.length:Int):=by omega
    obtain ⟨b,o,Ae,ce,bk,rfl,_,c0,c1,hel,_⟩:=dG (ai.below h hb) hlt;have hA:Below wr.heap.size wr (wr.alloc (.cells #[.string xs[k].name,.slice Ae xs[k].args.length ce] 68)):=(Below.refl _ _).alloc (Nat.le_refl _) _;have hg:=ND xs[k] _ _ bk _ (aj.below hel hA);have HF1:=η (fun hf=>Ll (k:=k) HA.out hlt hf);have HF2:=η (fun hf=>Oe hlt hf);generalize dM xs[k]=x at *;clear h hel
    go_wp2_with fail
    refine hg.mono ?_;rintro e w' ⟨rfl,hb'⟩;have B':=hb.trans ((hA.trans (hb'.mono hA.size)).mono hb.size);cases x
    ·go_wp2
     go_ret;exact ⟨aO (by rw [HE.out,HF2.out (by simp)]),B'⟩
    ·go_wp2
     go_roundw
     case rel=>exact ⟨k+1,by omega,by go_num,HF1.out (by simp),B'⟩
     case measure=>simp [intOf]; omega
   ·have he:k=xs.length:=by omega
    have HO:Hid (okB xs=ig xs):=η (by
     have hf:=HA.out;rw [he] at hf;unfold okB
     rw [show xs.all dM=true from by
      rw [List.all_eq_true]; intro y hy
      obtain ⟨j,hj,rfl⟩:=List.mem_iff_getElem.1 hy
      exact hf j hj hj,Bool.true_and])
    have he':¬ (k:Int) < (xs.length:Int):=by omega
    have hs:=iw Ad xs.length cap wr;have has:=fun w' (hb':Below wr.heap.size wr w')=>Jj xs _ bs w' (ai.below (ai.below h hb) hb')
    clear h he HA
    go_wp2_with fail
    refine hs.mono ?_;rintro e w1 ⟨rfl,hb1⟩
    go_wp2_with fail
    refine (has _ hb1).mono ?_;rintro e w2 ⟨rfl,hb2⟩;go_wp2;go_ret;exact ⟨aO (by rw [HE.out,HO.out]),hb.trans ((hb1.trans (hb2.mono hb1.size)).mono hb.size)⟩
 ·have hle':(300:Int) < (xs.length:Int):=by omega
  have hle2:300 < xs.length:=by omega
  have HE:Hid (bH xs=false):=η (by rw [qG,decide_eq_false hle,Bool.and_false]);clear hle h
  go_enter Tryz.func81,Tryz.ntmps81
  go_wp2;go_ret;exact ⟨aO HE.out.symm,Below.refl _ _⟩
end Go.Proofs.YtiidmgchadagbaaGreatDoor
namespace Go.Proofs.YtiidmgchadagbaaGreatDoor
open Go.RowKit D Go.Shelf
attribute [local go_sem ↓] Go.wp_at_zero Go.wp_at_succ
attribute [local go_sem] Oper.semAt_some
theorem ug (xs ys:List A) (v1 v2:Value) (bs1 bs2:List Nat) (w:World) (h1:aI w [v1] xs bs1) (h2:aI w [v2] ys bs2) (hn1:xs.length≤1000000) (hn2:ys.length≤1000000):
  Calls Tryz.prog 84 #[v1,v2] w (Reads aI (fQ xs ys) w.heap.size w):=by
 obtain ⟨Ad,cap,rfl,hl,hm⟩:=af h1;obtain ⟨Ad2,cap2,rfl,hl2,hm2⟩:=af h2;obtain ⟨i0,hi,hz0,hz1,hz2⟩:=info_parts Fh;have hml:=qH _ xs ys (Nat.le_refl _);clear hm hm2;refine (callsIn_wide (n:=4)).1 ?_;refine callsIn_of_wp_marks Tryz.func84 rfl trivial ?_ rfl;simp only [Tryz.ntmps84,List.size_toArray,List.length_cons,List.length_nil,Nat.reduceAdd,Nat.reduceSub,Array.replicate_succ,Array.replicate_zero,List.push_toArray,List.append_toArray,List.nil_append,List.cons_append];have hA0:Below w.heap.size w (w.alloc (.cells #[.slice none 0 0] 26)):=(Below.refl _ _).alloc (Nat.le_refl _) _;have bx0:Boxed (w.alloc (.cells #[.slice none 0 0] 26)) w.heap.size 26 (.slice none 0 0):=Boxed.new _ _ _
 gi_wp2
 refine ⟨trivial,?_⟩;refine (callsIn_wide.2 (iw Ad xs.length cap _)).mono ?_;rintro e w2 ⟨rfl,hb2⟩;have B2:=hA0.trans (hb2.mono hA0.size);have bx2:Boxed w2 w.heap.size 26 (.slice none 0 0):=(hb2.block _ bx0.lt).trans bx0
 gi_wp2
 refine ⟨trivial,?_⟩;refine (callsIn_wide.2 (iw Ad2 ys.length cap2 _)).mono ?_;rintro e w3 ⟨rfl,hb3⟩;have B3:=B2.trans (hb3.mono B2.size);have bx3:Boxed w3 w.heap.size 26 (.slice none 0 0):=(hb3.block _ bx2.lt).trans bx2;have hw3:w.heap.size < w3.heap.size:=bx3.lt;clear bx0 bx2
 gi_wp2
 refine ⟨trivial,?_⟩;refine (callsIn_wide.2 (merge_any _ _ _ _ _ _ _)).mono ?_;rintro e w4 ⟨rfl,rfl⟩
 gi_wp2
 have hM:Below w3.heap.size w3 ((w3.alloc (.cells #[.slice Ad xs.length cap,.func (.func 65) #[] #[]] 169)).alloc (.cells #[.slice Ad2 ys.length cap2,.func (.func 65) #[] #[]] 169)):=((Below.refl _ _).alloc (Nat.le_refl _) _).alloc (by simp) _;have s1:((w3.alloc (.cells #[.slice Ad xs.length cap,.func (.func 65) #[] #[]] 169)).alloc (.cells #[.slice Ad2 ys.length cap2,.func (.func 65) #[] #[]] 169)).cell? ⟨w3.heap.size,0,none⟩=some (.slice Ad xs.length cap):=by go_simp
 have s2:((w3.alloc (.cells #[.slice Ad xs.length cap,.func (.func 65) #[] #[]] 169)).alloc (.cells #[.slice Ad2 ys.length cap2,.func (.func 65) #[] #[]] 169)).cell? ⟨w3.heap.size,1,none⟩=some (.func (.func 65) #[] #[]):=by go_simp
 have s3:((w3.alloc (.cells #[.slice Ad xs.length cap,.func (.func 65) #[] #[]] 169)).alloc (.cells #[.slice Ad2 ys.length cap2,.func (.func 65) #[] #[]] 169)).cell? ⟨w3.heap.size+1,0,none⟩=some (.slice Ad2 ys.length cap2):=by go_simp
 generalize ((w3.alloc (.cells #[.slice Ad xs.length cap,.func (.func 65) #[] #[]] 169)).alloc (.cells #[.slice Ad2 ys.length cap2,.func (.func 65) #[] #[]] 169))=wm at *;have B4:=B3.trans (hM.mono B3.size);have bx4:Boxed wm w.heap.size 26 (.slice none 0 0):=(hM.block _ bx3.lt).trans bx3;clear bx3;have hwm:w.heap.size≤wm.heap.size:=B4.size;have hwm2:w.heap.size < wm.heap.size:=bx4.lt;have hs1:w3.heap.size < wm.heap.size:=lt_of_cell s1;have hs3:w3.heap.size+1 < wm.heap.size:=lt_of_cell s3
 refine wpIn_rangeFunc_ownH rfl (by omega) (gf:=162) (lb:=#[.pointer (some ⟨w3.heap.size,0,none⟩),.pointer (some ⟨w3.heap.size+1,0,none⟩)]) rfl trivial (enters_of Tryz.func162 (by kernel_rfl) rfl)
  (tX 3 (by omega) w3.heap.size (w3.heap.size+1) xs ys _ _ bs1 bs2 w wm h1 h2 (lK w.heap.size wm.heap.size) (fun W W' hk hI=>hk.inv hI hs1 hs3 (by omega) (by omega) (Nat.le_refl _) hwm2) ⟨s1,s2,s3,B4⟩) lK.trans lK.putObj (Below.refl _ _) (fun _=>rfl)
  (fun pre W=>((∃ v,Boxed W w.heap.size 26 v∧W.ownsRow wm.heap.size 68 2 v (gB pre).length (oI (gB pre))∧True)∧Below w.heap.size w W)∧wm.heap.size≤W.heap.size)
  (fun c pre W=>False)
  (OwnFrom.and (OwnFrom.and (Own.from (holdsRow_own wm.heap.size w.heap.size 26 68 2 (fun pre=>(gB pre).length) (fun pre=>oI (gB pre)) (fun pre v=>True)) _) (ownFrom_below (Nat.le_refl _) hwm)) (fun s A B row hs hg hr=>Nat.le_trans hs hg.size))
  (fun c=>fun _ _ _ _ hs _ _=>hs)
  ⟨⟨⟨_,bx4,World.ownsRow_nil _ _ _ _,trivial⟩,B4⟩,Nat.le_refl _⟩
  (fun x a' W=>∃ Bx,wm.heap.size≤Bx∧W.heap[Bx]? = some (.cells #[x.c0,x.c1] 68 (0,0))∧a'={ tmps:=#[.slice Ad xs.length cap,.slice Ad2 ys.length cap2,undef,undef,.slice none 0 0,.pointer (some ⟨w.heap.size,0,none⟩),.pointer (some ⟨Bx,0,none⟩),.int .i64 x.s,.slice Ad xs.length cap,.agg #[.slice Ad xs.length cap,.func (.func 65) #[] #[]],.slice Ad2 ys.length cap2,.agg #[.slice Ad2 ys.length cap2,.func (.func 65) #[] #[]],.func (.func 162) #[] #[.pointer (some ⟨w3.heap.size,0,none⟩),.pointer (some ⟨w3.heap.size+1,0,none⟩)],.agg #[x.c0,x.c1],.int .i64 x.s,undef,undef,undef,undef,undef,undef,undef],defers:=[] })
  (fun x a' _ X Y row hs hg hr=>by
   obtain ⟨Bx,g1,g2,g3⟩:=hs
   exact ⟨Bx,g1,(hg.block Bx (lt_of_block g2) (fun e=>by obtain ⟨_,o,ho,hc⟩:=hr Bx e.symm; rw [g2] at ho; cases ho; cases hc)).trans g2,g3⟩)
  ?assign ?body ?done ?stop
 case assign=>
  rintro l pre x W K ⟨⟨⟨v,hbx,hrow,_⟩,hB⟩,hS⟩ hK;obtain ⟨c0,c1,a,s,bs,hat⟩:=x;obtain ⟨Ax,capx,rfl,rfl⟩:=bJ hat;dsimp only [oG.enc]
  gi_wp2
  exact hK _ _ ((KeepsOthers.alloc _ _).from _) (lK.mZ (World.grownBy_alloc W _ none) hS (fun r e=>by cases e)) ⟨⟨⟨v,hbx.alloc _,hrow.alloc _,trivial⟩,hB.alloc hB.size _⟩,Nat.le_trans hS (by simp)⟩ ⟨W.heap.size,hS,heap_alloc_new W _,rfl⟩
 case body=>
  rintro l pre x a' W hlw ⟨r,hr⟩ ⟨⟨⟨v,hbx,hrow,_⟩,hB⟩,hS⟩ ⟨Bx,hBx,hX,rfl⟩ hlen;obtain ⟨c0,c1,a,s,bs,hat⟩:=x;obtain ⟨Ax,capx,rfl,rfl⟩:=bJ hat;obtain ⟨A1,cp1,rfl⟩:=jW hrow;have hc:=hbx.cell;have hf:=hbx.frozen;have y0:W.cell? ⟨Bx,0,none⟩=some (.string a.name):=by rw [cell_of_row W Bx 0 _ _ _ hX]; rfl
  have y1:W.cell? ⟨Bx,1,none⟩=some (.slice Ax a.args.length capx):=by rw [cell_of_row W Bx 1 _ _ _ hX]; rfl
  have hfl:=Qi pre;have hpl:(gB pre).length+1≤2000000:=by omega
  have HX:=η hX;have HBx:=η hbx;have HRW:=η hrow;clear hX hbx hlen hr;by_cases hs0:s=0
  ·have hsb:((s:Int) == 0)=true:=beq_iff_eq.2 (by omega)
   have HS0:=η hs0;clear hs0
   gi_wp2_with (gi_at_builtin; refine wpListIn_append_own _ rfl _ _ 26 rfl wm.heap.size 68 i0 (.agg #[.string ⟨#[]⟩,.slice none 0 0]) 2 40 Tryz.underlying26 hi hz0 hz1 hz2 rfl (by decide) _ _ _ rfl (HRW.out.alloc _) ⟨W.heap.size,0,none⟩ 1 1 [.string a.name,.slice Ax a.args.length capx] rfl rfl (World.news_of_block (cs:=#[.string a.name,.slice Ax a.args.length capx]) (heap_alloc_new W _)) (by simp [Value.oneCell']) (by unfold maxLen; omega) (by omega) (by simp; omega) ?_; intro v' w1 hown' hgrow _; obtain ⟨A2,cp2,rfl⟩:=jW hown'; obtain ⟨hv1,hv2,hr2,hk2⟩:=Fj HBx.out (by decide) HRW.out hown' hgrow; have hc1:=hv1.cell; have hf1:=hv1.frozen)
   have hg:W.grownBy w1 (Value.slice A1 (gB pre).length cp1).ownBlock:=⟨hgrow.os,hgrow.tape,hgrow.output,Nat.le_trans (by simp) hgrow.size,fun k hk hne=>(hgrow.block k (by simp; omega) hne).trans (Below.heap_alloc _ _ _ hk)⟩;have hge:=Dj HRW.out;have hK1:lK w.heap.size wm.heap.size W w1:=lK.mZ hg hS (fun r e=>.inl (hge r e));have hK2:lK w.heap.size wm.heap.size w1 (w1.setCell ⟨w.heap.size,0,none⟩ (.slice A2 ((gB pre).length+1) cp2)):=lK.mZ (grownBy_setCell' w1 w.heap.size _) (Nat.le_trans hS hg.size) (fun r e=>by cases e; exact .inr rfl);have hB1:Below w.heap.size w w1:=hB.grown hg hB.size (fun r e=>by have:=hge r e; omega)
   have hr3:(w1.setCell ⟨w.heap.size,0,none⟩ (.slice A2 ((gB pre).length+1) cp2)).ownsRow wm.heap.size 68 2 (.slice A2 ((gB pre).length+1) cp2) (gB (pre ++ [(⟨.string a.name,.slice Ax a.args.length capx,a,s,bs,hat⟩:oG w)])).length (oI (gB (pre ++ [(⟨.string a.name,.slice Ax a.args.length capx,a,s,bs,hat⟩:oG w)]))):=by
    rw [NG _ _ HS0.out,zS,@List.length_append _ (gB pre) _]; exact hr2
   exact ⟨hk2.from _,hK1.trans hK2,⟨⟨_,hv2,hr3⟩,hB1.setCell (Nat.le_refl _) _⟩,Nat.le_trans hS (Nat.le_trans hg.size (by simp [World.setCell]))⟩
  ·have hsb:((s:Int) == 0)=false:=beq_eq_false_iff_ne.2 (by omega)
   have HS0:=η hs0;clear hs0
   gi_wp2
   have hr3:W.ownsRow wm.heap.size 68 2 (.slice A1 (gB pre).length cp1) (gB (pre ++ [(⟨.string a.name,.slice Ax a.args.length capx,a,s,bs,hat⟩:oG w)])).length (oI (gB (pre ++ [(⟨.string a.name,.slice Ax a.args.length capx,a,s,bs,hat⟩:oG w)]))):=by
    rw [Qh _ _ HS0.out]; exact HRW.out
   exact ⟨KeepsFrom.refl _ _,lK.mZ (row:=none) ⟨rfl,rfl,rfl,Nat.le_refl _,fun _ _ _=>rfl⟩ hS (fun r e=>by cases e),⟨⟨_,HBx.out,hr3⟩,hB⟩,hS⟩
 case done=>
  rintro D pr W hD hS ⟨⟨⟨v,hbx,hrow,_⟩,hB⟩,hsz⟩ hK;obtain ⟨A1,cp1,rfl⟩:=jW hrow;have hc:=hbx.cell;have HS:Hid ((gB pr).map (·.a)=fQ xs ys):=η (Tc hS);have HRW:=η hrow;clear hS hrow
  gi_wp2
  refine ⟨by simp,.inl ⟨_,_,rfl,run_takeDeferred hK,?_⟩⟩;obtain ⟨bs,hrI⟩:=Wj (gB pr);have hB5:=hB.trans (belowK_b (w:=w) (Nat.le_refl _) W D _ (.deferred none) (by omega) hK rfl rfl);have hr5:=ownsRow_putObj HRW.out (.deferred none) hK rfl;have hI5:=hrI.below aj hB5;rw [HS.out] at hI5;have hln:(gB pr).length=(fQ xs ys).length:=by rw [← HS.out,List.length_map]
  rw [hln] at hr5;obtain ⟨b5,hs5,_⟩:=hI5.slice hr5;have hs6:aI (W.putObj D (.deferred none)) [.slice A1 (gB pr).length cp1] (fQ xs ys) b5:=by rw [hln]; exact hs5
  exact ⟨.slice A1 (gB pr).length cp1,by simp [results,Tryz.f84,go_sem],hB5,_,b5,rfl,hs6⟩
 case stop=>
  rintro D c pre W _ _ h _;exact h.elim
theorem Qo (xs ys:List A) (v1 v2:Value) (bs1 bs2:List Nat) (w:World) (h1:aI w [v1] xs bs1) (h2:aI w [v2] ys bs2) (hn1:xs.length≤1000000) (hn2:ys.length≤1000000):
  Calls Tryz.prog 83 #[v1,v2] w (Reads aI (dw xs ys) w.heap.size w):=by
 obtain ⟨Ad,cap,rfl,hl,hm⟩:=af h1;obtain ⟨Ad2,cap2,rfl,hl2,hm2⟩:=af h2;obtain ⟨i0,hi,hz0,hz1,hz2⟩:=info_parts Fh;have hml:=qH _ xs ys (Nat.le_refl _);clear hm hm2;refine (callsIn_wide (n:=4)).1 ?_;refine callsIn_of_wp_marks Tryz.func83 rfl trivial ?_ rfl;simp only [Tryz.ntmps83,List.size_toArray,List.length_cons,List.length_nil,Nat.reduceAdd,Nat.reduceSub,Array.replicate_succ,Array.replicate_zero,List.push_toArray,List.append_toArray,List.nil_append,List.cons_append];have hA0:Below w.heap.size w (w.alloc (.cells #[.slice none 0 0] 26)):=(Below.refl _ _).alloc (Nat.le_refl _) _;have bx0:Boxed (w.alloc (.cells #[.slice none 0 0] 26)) w.heap.size 26 (.slice none 0 0):=Boxed.new _ _ _
 gi_wp2
 refine ⟨trivial,?_⟩;refine (callsIn_wide.2 (iw Ad xs.length cap _)).mono ?_;rintro e w2 ⟨rfl,hb2⟩;have B2:=hA0.trans (hb2.mono hA0.size);have bx2:Boxed w2 w.heap.size 26 (.slice none 0 0):=(hb2.block _ bx0.lt).trans bx0
 gi_wp2
 refine ⟨trivial,?_⟩;refine (callsIn_wide.2 (iw Ad2 ys.length cap2 _)).mono ?_;rintro e w3 ⟨rfl,hb3⟩;have B3:=B2.trans (hb3.mono B2.size);have bx3:Boxed w3 w.heap.size 26 (.slice none 0 0):=(hb3.block _ bx2.lt).trans bx2;have hw3:w.heap.size < w3.heap.size:=bx3.lt;clear bx0 bx2
 gi_wp2
 refine ⟨trivial,?_⟩;refine (callsIn_wide.2 (merge_any _ _ _ _ _ _ _)).mono ?_;rintro e w4 ⟨rfl,rfl⟩
 gi_wp2
 have hM:Below w3.heap.size w3 ((w3.alloc (.cells #[.slice Ad xs.length cap,.func (.func 65) #[] #[]] 169)).alloc (.cells #[.slice Ad2 ys.length cap2,.func (.func 65) #[] #[]] 169)):=((Below.refl _ _).alloc (Nat.le_refl _) _).alloc (by simp) _;have s1:((w3.alloc (.cells #[.slice Ad xs.length cap,.func (.func 65) #[] #[]] 169)).alloc (.cells #[.slice Ad2 ys.length cap2,.func (.func 65) #[] #[]] 169)).cell? ⟨w3.heap.size,0,none⟩=some (.slice Ad xs.length cap):=by go_simp
 have s2:((w3.alloc (.cells #[.slice Ad xs.length cap,.func (.func 65) #[] #[]] 169)).alloc (.cells #[.slice Ad2 ys.length cap2,.func (.func 65) #[] #[]] 169)).cell? ⟨w3.heap.size,1,none⟩=some (.func (.func 65) #[] #[]):=by go_simp
 have s3:((w3.alloc (.cells #[.slice Ad xs.length cap,.func (.func 65) #[] #[]] 169)).alloc (.cells #[.slice Ad2 ys.length cap2,.func (.func 65) #[] #[]] 169)).cell? ⟨w3.heap.size+1,0,none⟩=some (.slice Ad2 ys.length cap2):=by go_simp
 generalize ((w3.alloc (.cells #[.slice Ad xs.length cap,.func (.func 65) #[] #[]] 169)).alloc (.cells #[.slice Ad2 ys.length cap2,.func (.func 65) #[] #[]] 169))=wm at *;have B4:=B3.trans (hM.mono B3.size);have bx4:Boxed wm w.heap.size 26 (.slice none 0 0):=(hM.block _ bx3.lt).trans bx3;clear bx3;have hwm:w.heap.size≤wm.heap.size:=B4.size;have hwm2:w.heap.size < wm.heap.size:=bx4.lt;have hs1:w3.heap.size < wm.heap.size:=lt_of_cell s1;have hs3:w3.heap.size+1 < wm.heap.size:=lt_of_cell s3
 refine wpIn_rangeFunc_ownH rfl (by omega) (gf:=162) (lb:=#[.pointer (some ⟨w3.heap.size,0,none⟩),.pointer (some ⟨w3.heap.size+1,0,none⟩)]) rfl trivial (enters_of Tryz.func162 (by kernel_rfl) rfl)
  (tX 3 (by omega) w3.heap.size (w3.heap.size+1) xs ys _ _ bs1 bs2 w wm h1 h2 (lK w.heap.size wm.heap.size) (fun W W' hk hI=>hk.inv hI hs1 hs3 (by omega) (by omega) (Nat.le_refl _) hwm2) ⟨s1,s2,s3,B4⟩) lK.trans lK.putObj (Below.refl _ _) (fun _=>rfl)
  (fun pre W=>((∃ v,Boxed W w.heap.size 26 v∧W.ownsRow wm.heap.size 68 2 v pre.length (oI pre)∧True)∧Below w.heap.size w W)∧wm.heap.size≤W.heap.size)
  (fun c pre W=>False)
  (OwnFrom.and (OwnFrom.and (Own.from (holdsRow_own wm.heap.size w.heap.size 26 68 2 (fun pre=>pre.length) (fun pre=>oI pre) (fun pre v=>True)) _) (ownFrom_below (Nat.le_refl _) hwm)) (fun s A B row hs hg hr=>Nat.le_trans hs hg.size))
  (fun c=>fun _ _ _ _ hs _ _=>hs)
  ⟨⟨⟨_,bx4,World.ownsRow_nil _ _ _ _,trivial⟩,B4⟩,Nat.le_refl _⟩
  (fun x a' W=>∃ Bx,wm.heap.size≤Bx∧W.heap[Bx]? = some (.cells #[x.c0,x.c1] 68 (0,0))∧a'={ tmps:=#[.slice Ad xs.length cap,.slice Ad2 ys.length cap2,undef,undef,.slice none 0 0,.pointer (some ⟨w.heap.size,0,none⟩),.pointer (some ⟨Bx,0,none⟩),.slice Ad xs.length cap,.agg #[.slice Ad xs.length cap,.func (.func 65) #[] #[]],.slice Ad2 ys.length cap2,.agg #[.slice Ad2 ys.length cap2,.func (.func 65) #[] #[]],.func (.func 162) #[] #[.pointer (some ⟨w3.heap.size,0,none⟩),.pointer (some ⟨w3.heap.size+1,0,none⟩)],.agg #[x.c0,x.c1],.int .i64 x.s,undef,undef,undef,undef,undef],defers:=[] })
  (fun x a' _ X Y row hs hg hr=>by
   obtain ⟨Bx,g1,g2,g3⟩:=hs
   exact ⟨Bx,g1,(hg.block Bx (lt_of_block g2) (fun e=>by obtain ⟨_,o,ho,hc⟩:=hr Bx e.symm; rw [g2] at ho; cases ho; cases hc)).trans g2,g3⟩)
  ?assign ?body ?done ?stop
 case assign=>
  rintro l pre x W K ⟨⟨⟨v,hbx,hrow,_⟩,hB⟩,hS⟩ hK;obtain ⟨c0,c1,a,s,bs,hat⟩:=x;obtain ⟨Ax,capx,rfl,rfl⟩:=bJ hat;dsimp only [oG.enc]
  gi_wp2
  exact hK _ _ ((KeepsOthers.alloc _ _).from _) (lK.mZ (World.grownBy_alloc W _ none) hS (fun r e=>by cases e)) ⟨⟨⟨v,hbx.alloc _,hrow.alloc _,trivial⟩,hB.alloc hB.size _⟩,Nat.le_trans hS (by simp)⟩ ⟨W.heap.size,hS,heap_alloc_new W _,rfl⟩
 case body=>
  rintro l pre x a' W hlw ⟨r,hr⟩ ⟨⟨⟨v,hbx,hrow,_⟩,hB⟩,hS⟩ ⟨Bx,hBx,hX,rfl⟩ hlen;obtain ⟨c0,c1,a,s,bs,hat⟩:=x;obtain ⟨Ax,capx,rfl,rfl⟩:=bJ hat;obtain ⟨A1,cp1,rfl⟩:=jW hrow;have hc:=hbx.cell;have hf:=hbx.frozen;have y0:W.cell? ⟨Bx,0,none⟩=some (.string a.name):=by rw [cell_of_row W Bx 0 _ _ _ hX]; rfl
  have y1:W.cell? ⟨Bx,1,none⟩=some (.slice Ax a.args.length capx):=by rw [cell_of_row W Bx 1 _ _ _ hX]; rfl
  have hpl:pre.length+1≤2000000:=by omega
  have HX:=η hX;have HBx:=η hbx;have HRW:=η hrow;clear hX hbx hlen hr
  gi_wp2_with (gi_at_builtin; refine wpListIn_append_own _ rfl _ _ 26 rfl wm.heap.size 68 i0 (.agg #[.string ⟨#[]⟩,.slice none 0 0]) 2 40 Tryz.underlying26 hi hz0 hz1 hz2 rfl (by decide) _ _ _ rfl (HRW.out.alloc _) ⟨W.heap.size,0,none⟩ 1 1 [.string a.name,.slice Ax a.args.length capx] rfl rfl (World.news_of_block (cs:=#[.string a.name,.slice Ax a.args.length capx]) (heap_alloc_new W _)) (by simp [Value.oneCell']) (by unfold maxLen; omega) (by omega) (by simp; omega) ?_; intro v' w1 hown' hgrow _; obtain ⟨A2,cp2,rfl⟩:=jW hown'; obtain ⟨hv1,hv2,hr2,hk2⟩:=Fj HBx.out (by decide) HRW.out hown' hgrow; have hc1:=hv1.cell; have hf1:=hv1.frozen)
  have hg:W.grownBy w1 (Value.slice A1 pre.length cp1).ownBlock:=⟨hgrow.os,hgrow.tape,hgrow.output,Nat.le_trans (by simp) hgrow.size,fun k hk hne=>(hgrow.block k (by simp; omega) hne).trans (Below.heap_alloc _ _ _ hk)⟩;have hge:=Dj HRW.out;have hK1:lK w.heap.size wm.heap.size W w1:=lK.mZ hg hS (fun r e=>.inl (hge r e));have hK2:lK w.heap.size wm.heap.size w1 (w1.setCell ⟨w.heap.size,0,none⟩ (.slice A2 (pre.length+1) cp2)):=lK.mZ (grownBy_setCell' w1 w.heap.size _) (Nat.le_trans hS hg.size) (fun r e=>by cases e; exact .inr rfl);have hB1:Below w.heap.size w w1:=hB.grown hg hB.size (fun r e=>by have:=hge r e; omega)
  have hr3:(w1.setCell ⟨w.heap.size,0,none⟩ (.slice A2 (pre.length+1) cp2)).ownsRow wm.heap.size 68 2 (.slice A2 (pre.length+1) cp2) (pre ++ [(⟨.string a.name,.slice Ax a.args.length capx,a,s,bs,hat⟩:oG w)]).length (oI (pre ++ [(⟨.string a.name,.slice Ax a.args.length capx,a,s,bs,hat⟩:oG w)])):=by
   rw [zS,@List.length_append _ pre _]; exact hr2
  exact ⟨hk2.from _,hK1.trans hK2,⟨⟨_,hv2,hr3⟩,hB1.setCell (Nat.le_refl _) _⟩,Nat.le_trans hS (Nat.le_trans hg.size (by simp [World.setCell]))⟩
 case done=>
  rintro D pr W hD hS ⟨⟨⟨v,hbx,hrow,_⟩,hB⟩,hsz⟩ hK;obtain ⟨A1,cp1,rfl⟩:=jW hrow;have hc:=hbx.cell;have HS:Hid (pr.map (·.a)=dw xs ys):=η (Qg hS);have HRW:=η hrow;clear hS hrow
  gi_wp2
  refine ⟨by simp,.inl ⟨_,_,rfl,run_takeDeferred hK,?_⟩⟩;obtain ⟨bs,hrI⟩:=Wj pr;have hB5:=hB.trans (belowK_b (w:=w) (Nat.le_refl _) W D _ (.deferred none) (by omega) hK rfl rfl);have hr5:=ownsRow_putObj HRW.out (.deferred none) hK rfl;have hI5:=hrI.below aj hB5;rw [HS.out] at hI5;have hln:pr.length=(dw xs ys).length:=by rw [← HS.out,List.length_map]
  rw [hln] at hr5;obtain ⟨b5,hs5,_⟩:=hI5.slice hr5;have hs6:aI (W.putObj D (.deferred none)) [.slice A1 pr.length cp1] (dw xs ys) b5:=by rw [hln]; exact hs5
  exact ⟨.slice A1 pr.length cp1,by simp [results,Tryz.f83,go_sem],hB5,_,b5,rfl,hs6⟩
 case stop=>
  rintro D c pre W _ _ h _;exact h.elim
end Go.Proofs.YtiidmgchadagbaaGreatDoor
namespace Go.Proofs.YtiidmgchadagbaaGreatDoor
open Go.RowKit D
structure D.lN (sk sb:Nat) (v1 v2:Value) (wt:Nat→Bool) (io:Bool) (ah:Int) (tell:Value) (w:World):Prop where
 st:w.cell? ⟨sk,0,none⟩=some (.pointer (some ⟨sb,0,none⟩))
 p1:w.cell? ⟨sk,1,none⟩=some v1
 p2:w.cell? ⟨sk,2,none⟩=some v2
 wd:∀ i,i < 12→w.cell? ⟨sk,4+i,none⟩=some (.bool (wt i))
 io:w.cell? ⟨sk,16,none⟩=some (.bool io)
 ah:w.cell? ⟨sk,17,none⟩=some (.int .i64 ah)
 tl:w.cell? ⟨sk,43,none⟩=some tell
section
variable {sk sb:Nat} {v1 v2:Value} {wt:Nat→Bool} {io:Bool} {ah:Int} {tell:Value} {w w':World}
theorem D.lN.keep (h:lN sk sb v1 v2 wt io ah tell w) (e:w'.heap[sk]? = w.heap[sk]?):lN sk sb v1 v2 wt io ah tell w':=
 ⟨(World.cell?_of_block e).trans h.st,(World.cell?_of_block e).trans h.p1,(World.cell?_of_block e).trans h.p2,fun i hi=>(World.cell?_of_block e).trans (h.wd i hi),(World.cell?_of_block e).trans h.io,(World.cell?_of_block e).trans h.ah,(World.cell?_of_block e).trans h.tl⟩
theorem D.lN.lt (h:lN sk sb v1 v2 wt io ah tell w):sk < w.heap.size:=lt_of_cell h.st
end
def D.setB (vars:List ByteArray) (b:Bd) (wt:Nat→Bool):Bool:=(List.range 12).all fun i=>!wt i || decide (Hz vars b i ≠ ⟨#[]⟩)
theorem D.Dq {vars:List ByteArray} {b:Bd} {wt:Nat→Bool}:setB vars b wt=true ↔ ∀ i,i < 12→wt i=true→Hz vars b i ≠ ⟨#[]⟩:=by
 unfold setB;rw [List.all_eq_true];constructor
 ·intro h i hi hw
  have:=h i (List.mem_range.2 hi);simpa [hw] using this
 ·intro h i hi
  have hi:=List.mem_range.1 hi;cases hw:wt i
  ·rfl
  ·simpa using h i hi hw
structure D.Tt where
 k:WK
 v:Value
 L:List Value
 n:Nat
def D.Wn (u v:Value):Prop:=∀ x,u.ownBlock=some x→v.ownBlock ≠ some x
theorem D.Wn.symm {u v:Value} (h:Wn u v):Wn v u:=fun x e e2=>h x e2 e
abbrev D.J3 (r:Tt):Value × Value × Nat:=(EO r.k,r.v,r.n)
structure D.uh (B:Nat) (G:WK→List Nat) (ou:List Nat) (rows:List Tt) (w:World):Prop where
 coll:∀ r ∈ rows,cO 1 xU B 3 w r.v r.L (G r.k) []
 dis:∀ r ∈ rows,∀ s ∈ rows,r.k ≠ s.k→Wn r.v s.v
 own:∀ r ∈ rows,∀ x,r.v.ownBlock=some x→x ∈ ou
structure D.uj (B mu:Nat) (G:WK→List Nat) (ou:List Nat) (w:World):Prop where
 ex:∃ rows c,qj GI mu (rows.map J3) c w∧uh B G ou rows w∧∀ k,(∀ r ∈ rows,r.k ≠ k)→G k = []
structure D.Dt (B mu:Nat) (G:WK→List Nat) (ou:List Nat) (k:WK) (u:Value) (L:List Value) (n:Nat) (w:World):Prop where
 ex:∃ A1 B1 c,qj GI mu (A1.map J3 ++ (EO k,u,n) :: B1.map J3) c w∧uh B G ou (A1 ++ B1) w∧(∀ r ∈ A1 ++ B1,r.k ≠ k∧Wn u r.v)∧∀ k',k' ≠ k→(∀ r ∈ A1 ++ B1,r.k ≠ k')→G k' = []
 coll:cO 1 xU B 3 w u L (G k) []
 own:∀ x,u.ownBlock=some x→x ∈ ou
def D.Du (G:WK→List Nat) (k:WK) (i:Nat):WK→List Nat:=fun k'=>if k'=k then G k ++ [i] else G k'
section
variable {B mu:Nat} {G:WK→List Nat} {ou:List Nat} {w w':World}
theorem D.uh.keep {rows:List Tt} (h:uh B G ou rows w) (hk:∀ r ∈ rows,∀ x,r.v.ownBlock=some x→w'.heap[x]? = w.heap[x]?):uh B G ou rows w':=
 ⟨fun r hr=>(h.coll r hr).mX iW (hk r hr) (fun b hb=>by simp at hb),h.dis,h.own⟩
theorem D.uh.lt {rows:List Tt} (h:uh B G ou rows w) {r:Tt} (hr:r ∈ rows) {x:Nat} (hx:r.v.ownBlock=some x):B≤x∧x < w.heap.size:=bD (h.coll r hr).own hx
theorem D.uj.keep (h:uj B mu G ou w) (h1:w'.heap[mu]? = w.heap[mu]?) (h2:∀ x ∈ ou,w'.heap[x]? = w.heap[x]?):uj B mu G ou w':=by
 obtain ⟨rows,c,g1,g2,g3⟩:=h.ex;exact ⟨rows,c,g1.same h1,g2.keep fun r hr x hx=>h2 x (g2.own r hr x hx),g3⟩
theorem D.Dt.keep {k:WK} {u:Value} {L:List Value} {n:Nat} (h:Dt B mu G ou k u L n w) (h1:w'.heap[mu]? = w.heap[mu]?) (h2:∀ x ∈ ou,w'.heap[x]? = w.heap[x]?):Dt B mu G ou k u L n w':=by
 obtain ⟨A1,B1,c,g1,g2,g3,g4⟩:=h.ex;exact ⟨⟨A1,B1,c,g1.same h1,g2.keep fun r hr x hx=>h2 x (g2.own r hr x hx),g3,g4⟩,h.coll.mX iW (fun x hx=>h2 x (h.own x hx)) (fun b hb=>by simp at hb),h.own⟩
theorem D.uj.entry (h:uj B mu G ou w) (hm:mu < B) (k:WK):
  ∃ w' u n L,(Instr.mapEntry 84 (.map (some mu)) (.agg #[.string k.name,.int .i64 k.size,.int .i64 k.place,.string k.word])).run Tryz.prog w=.ok (.tuple #[u,.int .i64 (n:Nat)]) w'∧Dt B mu G ou k u L n w'∧w.grownBy w' (some mu):=by
 obtain ⟨rows,c,g1,g2,g3⟩:=h.ex
 have kp:∀ {w':World},w.grownBy w' (some mu)→∀ r ∈ rows,∀ x,r.v.ownBlock=some x→w'.heap[x]? = w.heap[x]?:=fun hg r hr x hx=>by
  obtain ⟨h1,h2⟩:=g2.lt hr hx;exact hg.block x h2 (fun e=>by injection e with e; omega)
 by_cases hex:∃ r ∈ rows,r.k=k
 ·obtain ⟨r,hr,rfl⟩:=hex
  obtain ⟨A1,B1,rfl⟩:=List.append_of_mem hr;rw [List.map_append,List.map_cons] at g1;obtain ⟨w',r1,r2,r3⟩:=Gw xH (w:=w) trivial Tryz.underlying84 g1;have hsub:∀ s ∈ A1 ++ B1,s ∈ A1 ++ r :: B1:=fun s hs=>(List.mem_append.1 hs).elim (fun h=>List.mem_append_left _ h) fun h=>List.mem_append_right _ (List.mem_cons_of_mem _ h)
  have hne:∀ s ∈ A1 ++ B1,s.k ≠ r.k:=fun s hs e=>by
   have ho:=r2.once;obtain ⟨p1,p2,p3⟩:=List.pairwise_append.1 ho
   rcases List.mem_append.1 hs with hs | hs
   ·exact p3 (J3 s) (List.mem_map.2 ⟨s,hs,rfl⟩) (J3 r) (List.mem_cons_self ..) (by show EO s.k=EO r.k; rw [e])
   ·exact (List.pairwise_cons.1 p2).1 (J3 s) (List.mem_map.2 ⟨s,hs,rfl⟩) (by show EO r.k=EO s.k; rw [e])
  have g2':=g2.keep (kp r3);refine ⟨w',r.v,r.n,r.L,r1,⟨⟨A1,B1,c,r2,⟨fun s hs=>g2'.coll s (hsub s hs),fun s hs t ht=>g2'.dis s (hsub s hs) t (hsub t ht),fun s hs=>g2'.own s (hsub s hs)⟩,fun s hs=>⟨hne s hs,g2.dis r hr s (hsub s hs) (fun e=>hne s hs e.symm)⟩,fun k' hk' hno=>g3 k' fun s hs=>?_⟩,g2'.coll r hr,g2.own r hr⟩,r3⟩
  rcases List.mem_append.1 hs with hs | hs
  ·exact hno s (List.mem_append_left _ hs)
  ·rcases List.mem_cons.1 hs with rfl | hs
   ·exact fun e=>hk' e.symm
   ·exact hno s (List.mem_append_right _ hs)
 ·have hno:∀ r ∈ rows,r.k ≠ k:=fun r hr e=>hex ⟨r,hr,e⟩
  obtain ⟨w',r1,r2,r3⟩:=Gv xH (w:=w) trivial Tryz.underlying84 (k:=EO k) (z:=.slice none 0 0) g1 (by kernel_rfl) ⟨k,rfl⟩ (fun p hp e=>by
   obtain ⟨r,hr,rfl⟩:=List.mem_map.1 hp
   exact hno r hr (GK e))
  refine ⟨w',.slice none 0 0,c,[],r1,⟨⟨rows,[],c+1,by simpa using r2,by simpa using g2.keep (kp r3),fun r hr=>?_,fun k' hk' hn=>g3 k' fun r hr=>hn r (by simpa using hr)⟩,by rw [g3 k hno]; exact cO.nil _,fun x hx=>by simp [Value.ownBlock] at hx⟩,r3⟩;simp at hr;exact ⟨hno r hr,fun x hx=>by simp [Value.ownBlock] at hx⟩
theorem D.Dt.store {k:WK} {u v':Value} {L L':List Value} {n i:Nat} (h:Dt B mu G ou k u L n w) (hm:mu < B) (hg:w.grownBy w' u.ownBlock) (hc:cO 1 xU B 3 w' v' L' (G k ++ [i]) []) (hloc:v'.ownBlock=u.ownBlock∨v'.ownBlock=some w.heap.size):
  ∃ w2 ou',(Instr.entryStore 84 (.map (some mu)) (.int .i64 (n:Nat)) v').run Tryz.prog w'=.ok () w2∧uj B mu (Du G k i) ou' w2∧w'.grownBy w2 (some mu)∧∀ x ∈ ou',x ∈ ou∨(v'.ownBlock=some x∧x=w.heap.size):=by
 obtain ⟨A1,B1,c,g1,g2,g3,g4⟩:=h.ex
 have hmu:w'.heap[mu]? = w.heap[mu]?:=hg.block mu g1.lt (fun e=>by
  have:=(bD h.coll.own e.symm).1; omega)
 obtain ⟨w2,r1,r2,r3⟩:=BQ (P:=Tryz.prog) (t:=84) v' (g1.same hmu);have kp2:∀ x,B≤x→x < w'.heap.size→w2.heap[x]? = w'.heap[x]?:=fun x h1 h2=>r3.block x h2 (fun e=>by injection e with e; omega)
 have g2':uh B G ou (A1 ++ B1) w2:=g2.keep fun r hr x hx=>by
  obtain ⟨h1,h2⟩:=g2.lt hr hx;exact (kp2 x h1 (Nat.lt_of_lt_of_le h2 hg.size)).trans (hg.block x h2 (fun e=>(g3 r hr).2 x e.symm hx))
 have hc2:cO 1 xU B 3 w2 v' L' (G k ++ [i]) []:=hc.mX iW (fun x hx=>by
  obtain ⟨h1,h2⟩:=bD hc.own hx
  exact kp2 x h1 h2) (fun b hb=>by simp at hb)
 have hdis:∀ r ∈ A1 ++ B1,Wn v' r.v:=fun r hr x hx hx2=>by
  rcases hloc with e | e
  ·exact (g3 r hr).2 x (e ▸ hx) hx2
  ·rw [e] at hx
   have:=(g2.lt hr hx2).2
   injection hx with hx
   omega
 refine ⟨w2,ou ++ v'.ownBlock.toList,r1,⟨A1 ++ ⟨k,v',L',n⟩ :: B1,c,by rw [List.map_append,List.map_cons]; exact r2,⟨fun r hr=>?_,fun r hr s hs hne=>?_,fun r hr x hx=>?_⟩,fun k' hno=>?_⟩,r3,fun x hx=>?_⟩
 ·rcases List.mem_append.1 hr with hr | hr
  ·have:=g2'.coll r (List.mem_append_left _ hr)
   unfold Du; rw [if_neg (g3 r (List.mem_append_left _ hr)).1]; exact this
  ·rcases List.mem_cons.1 hr with rfl | hr
   ·unfold Du; rw [if_pos rfl]; exact hc2
   ·have:=g2'.coll r (List.mem_append_right _ hr)
    unfold Du; rw [if_neg (g3 r (List.mem_append_right _ hr)).1]; exact this
 ·have cs:∀ t ∈ A1 ++ ⟨k,v',L',n⟩ :: B1,t=⟨k,v',L',n⟩∨t ∈ A1 ++ B1:=fun t ht=>by
   rcases List.mem_append.1 ht with ht | ht
   ·exact .inr (List.mem_append_left _ ht)
   ·rcases List.mem_cons.1 ht with rfl | ht
    ·exact .inl rfl
    ·exact .inr (List.mem_append_right _ ht)
  rcases cs r hr with rfl | hr <;> rcases cs s hs with rfl | hs
  ·exact absurd rfl hne
  ·exact hdis s hs
  ·exact (hdis r hr).symm
  ·exact g2.dis r hr s hs hne
 ·rcases List.mem_append.1 hr with hr | hr
  ·exact List.mem_append_left _ (g2.own r (List.mem_append_left _ hr) x hx)
  ·rcases List.mem_cons.1 hr with rfl | hr
   ·have hx':v'.ownBlock=some x:=hx
    exact List.mem_append_right _ (by rw [hx']; simp)
   ·exact List.mem_append_left _ (g2.own r (List.mem_append_right _ hr) x hx)
 ·have hkk:k' ≠ k:=fun e=>hno ⟨k,v',L',n⟩ (by simp) e.symm
  unfold Du;rw [if_neg hkk];exact g4 k' hkk fun r hr=>(List.mem_append.1 hr).elim (fun h=>hno r (List.mem_append_left _ h)) fun h=>hno r (List.mem_append_right _ (List.mem_cons_of_mem _ h))
 ·rcases List.mem_append.1 hx with h' | h'
  ·exact .inl h'
  ·have hx':v'.ownBlock=some x:=by simpa using h'
   rcases hloc with e | e
   ·exact .inl (h.own x (e ▸ hx'))
   ·refine .inr ⟨hx',?_⟩
    rw [e] at hx'
    injection hx' with hx'
    exact hx'.symm
end
end Go.Proofs.YtiidmgchadagbaaGreatDoor
