/- Of the proof of FnExactProofOk: HolI, SetI, WanI, UndI, FineI, RunP. -/
import Derived.Test.YtlmngncogomgeaaGreatDoorM29
import Derived.Test.YtlmngncogomgeaaGreatDoorM31
set_option linter.unusedVariables false
set_option maxHeartbeats 4000000
set_option maxRecDepth 100000
namespace Go.Proofs.YtlmngncogomgeaaGreatDoor
section
open Go.RowKit D
attribute [local go_sem ↓] Go.wp_at_zero Go.wp_at_succ
theorem yR (sb:Nat) (fs:List A) (rn:List Nat) (bs:List Nat) (a:A) (c0 c1:Value) (ba:List Nat) (w:World) (h:jO sb fs rn bs w) (ha:aP w [c0,c1] a ba) (hok:aZ a=true):
  Calls Tryz.prog 65 #[.pointer (some ⟨sb,0,none⟩),.agg #[c0,c1]] w fun e w'=>e=.returned (.bool (decide (dM a ∈ fs.map dM)))∧Below w.heap.size w w':=by
 obtain ⟨J,U,rfl,rfl⟩:=bK ha;have hA:Below w.heap.size w (w.alloc (.cells #[.string a.name,.slice J a.args.length U] 40)).drew:=(ζ).drew;have y:jl a≤16777216:=by have:=Gl hok; omega
 have hT:=η (pY a (.string a.name) (.slice J a.args.length U) ba _ (ak.below ha hA) y);obtain ⟨⟨Af,cf,Ar,cr,mu,mp,bf,br,Lu,Lp,h1,h2,h3,h4,h5,h6,h7,h8,h9,a1,a2,a3⟩,ho,hl⟩:=h;have a4:=hl _ ho;have H5:=η h5;have H7:=η (ι h7 h8);have HA:=η hA;have HM:=η (hl _ a1);have HS:=η (qm hok);have y0:(w.alloc (.cells #[.string a.name,.slice J a.args.length U] 40)).cell? ⟨sb,3,none⟩=some (.map (some mp)):=(World.cell?_alloc_lt _ _ _ a4).trans (aj h1);have y1:(w.alloc (.cells #[.string a.name,.slice J a.args.length U] 40)).cell? ⟨w.heap.size,0,none⟩=some (.string a.name):=by go_simp
 have y2:(w.alloc (.cells #[.string a.name,.slice J a.args.length U] 40)).cell? ⟨w.heap.size,1,none⟩=some (.slice J a.args.length U):=by go_simp
 have a7:sb < (w.alloc (.cells #[.string a.name,.slice J a.args.length U] 40)).heap.size:=by simp; omega
 clear h1 h2 h3 h4 h5 h6 h7 h8 h9 a1 a2 a3 ho hl hA ha hok y;generalize hr:decide (dM a ∈ fs.map dM)=r at *;have HR:=η hr;clear hr
 go_enter Tryz.func65,Tryz.ntmps65
 go_wp2;generalize w.alloc (.cells #[.string a.name,.slice J a.args.length U] 40)=W at *
 go_region_law
  (first
   | (go_simp; go_at_call 60; refine hT.out.mono ?_; rintro e w2 ⟨rfl,I⟩; have a5:=η I; replace y0:=ξ ((Below.refl W.heap.size W).drew.trans I) y0; obtain ⟨vi,a0⟩:=Jm (H5.out.below (HA.out.trans (I.mono HA.out.size)) HM.out) H7.out.1 H7.out.2 (dM a) HS.out; rw [HR.out] at a0; unfold dM at a0; clear I))
 all_goals
  have a6:=η (HA.out.trans (a5.out.mono HA.out.size));clear y0 y1 y2 a0;go_wp2;go_ret;exact ⟨rfl,a6.out⟩
theorem D.O6 {p f:A} {b:Bd} (h:(aC p f b).2=true):(⟨p.name,p.args.length,-1,⟨#[]⟩⟩:WK) ∈ keysOf f:=by
 unfold aC at h
 split at h
 ·rename_i e
  rw [e.1,e.2];exact Γ
 ·cases h
theorem D.Vz {p f:A} {b:Bd} (hf:Gr f) (h:(aC p f b).2=true) {i:Nat} (hi:i < p.args.length) (y:(dw b p.args[i]).name ≠ ⟨#[]⟩):(⟨p.name,p.args.length,i,(dw b p.args[i]).name⟩:WK) ∈ keysOf f:=by
 obtain ⟨h1,J⟩:=lF hf h;have I:=l9 p f b;generalize (aC p f b).1=b' at *;subst J
 have e:(dw b p.args[i]).name=((aY p b').args[i]'(by simp [aY]; exact hi)).name:=by
  simp only [aY,List.getElem_map];unfold dw at *;cases hv:p.args[i].var
  ·rfl
  ·simp only [hv,if_true] at y ⊢
   cases hg:eY b p.args[i].name with
   | none=>unfold iR at y; rw [hg] at y; exact absurd rfl y
   | some v=>unfold iR; rw [hg,I _ _ hg]
 rw [e];have:=O0 (a:=aY p b') (i:=i) (by simp [aY]; exact hi);simpa [aY] using this
theorem Dn (vars:List ByteArray) (hv:ji vars) (b:Bd) (sb:Nat) (fs:List A) (rn:List Nat) (bs:List Nat) (a:A) (Ae:Option Addr) (ce:Nat) (b1:List Nat) (blk o:Nat) (w:World) (h:jO sb fs rn bs w) (hb:fQ vars b blk o w)
  (ha:jG vars w [.slice Ae a.args.length ce] a.args b1) (hin:∀ t ∈ a.args,t.var=true→t.name ∈ vars) (bi:a.args.length≤1000000) (ag:fs.length≤1000000):
  Calls Tryz.prog 275 #[.pointer (some ⟨sb,0,none⟩),.agg #[.string a.name,.slice Ae a.args.length ce],.pointer (some ⟨blk,o,none⟩)] w fun e w'=>
   ∃ A9 c9 k bx,e=.returned (.slice A9 (idxs fs k).length c9)∧jf w' [.slice A9 (idxs fs k).length c9] (idxs fs k) bx∧(∀ x ∈ bx,x ∈ bs)∧(∀ f,Gr f→(aC a f b).2=true→k ∈ keysOf f)∧Below w.heap.size w w':=by
 obtain ⟨an,args⟩:=a;dsimp only at *;obtain ⟨⟨Af,cf,Ar,cr,mu,mp,bf,br,Lu,Lp,h1,h2,h3,h4,h5,h6,h7,h8,h9,aE,aL,aM⟩,ho,hl⟩:=h;have hA:Below w.heap.size w ((w.alloc (.cells #[.string an,.slice Ae args.length ce] 143)).alloc (.cells #[.string an,.int .i64 args.length,.int .i64 (-1),.string ⟨#[]⟩] 256)):=(ζ).alloc (by simp) _;have am:=hb.lt;have aR:=hl _ ho
 have ao:((w.alloc (.cells #[.string an,.slice Ae args.length ce] 143)).alloc (.cells #[.string an,.int .i64 args.length,.int .i64 (-1),.string ⟨#[]⟩] 256)).heap[w.heap.size+1]? = some (.cells #[.string an,.int .i64 args.length,.int .i64 (-1),.string ⟨#[]⟩] 256 (0,0)):=by
  have:=ω (w.alloc (.cells #[.string an,.slice Ae args.length ce] 143)) (.cells #[.string an,.int .i64 args.length,.int .i64 (-1),.string ⟨#[]⟩] 256);simpa using this
 have bj:((w.alloc (.cells #[.string an,.slice Ae args.length ce] 143)).alloc (.cells #[.string an,.int .i64 args.length,.int .i64 (-1),.string ⟨#[]⟩] 256)).drew.cell? ⟨w.heap.size,1,none⟩=some (.slice Ae args.length ce):=by go_simp
 have HX:=η (ι ha hin);have HB:=η hb;have HA:=η hA;have HQ:=η ao;have HS:=η (ι h1 aR);have y0:=ξ hA (show w.cell? ⟨sb,2,none⟩=some (.map (some mu)) from aj h1);have a5:O3 mu fs bs w:=⟨⟨Lu,h4,h6⟩,h9,hl⟩;have HU:=η a5;have ap:=η hl;obtain ⟨A0,c0,b3,aq,ar,ab⟩:=(a5.below (hA.trans ϑ.drew) hl).look ⟨an,args.length,-1,⟨#[]⟩⟩;dsimp only at aq;clear a5;have a8:=η (ι ar (ι ab (fun f (_:Gr f) hm=>O6 (p:=⟨an,args⟩) (f:=f) (b:=b) hm)));clear hA hb ha hin h1 h2 h3 h4 h5 h6 h7 h8 h9 aE aL aM ho hl ao ar ab
 go_enter Tryz.func275,Tryz.ntmps275
 go_wp2;generalize ((w.alloc (.cells #[.string an,.slice Ae args.length ce] 143)).alloc (.cells #[.string an,.int .i64 args.length,.int .i64 (-1),.string ⟨#[]⟩] 256))=W at *;have x0:W.cell? ⟨w.heap.size+1,0,none⟩=some (.string an):=aj HQ.out;have x1:W.cell? ⟨w.heap.size+1,1,none⟩=some (.int .i64 args.length):=aj HQ.out;have x2:W.cell? ⟨w.heap.size+1,2,none⟩=some (.int .i64 (-1)):=aj HQ.out;have x3:W.cell? ⟨w.heap.size+1,3,none⟩=some (.string ⟨#[]⟩):=aj HQ.out;go_region
 have av:Hid (∃ (y:WK) (bx:List Nat) (z:Int) (s:ByteArray),y=⟨an,args.length,-1,⟨#[]⟩⟩∧jf W.drew [.slice A0 (idxs fs ⟨an,args.length,-1,⟨#[]⟩⟩).length c0] (idxs fs ⟨an,args.length,-1,⟨#[]⟩⟩) bx∧(∀ x ∈ bx,x ∈ bs)∧(∀ f,Gr f→(aC ⟨an,args⟩ f b).2=true→(⟨an,args.length,-1,⟨#[]⟩⟩:WK) ∈ keysOf f)∧Below w.heap.size w W.drew∧W.drew.heap[w.heap.size+1]? = some (.cells #[.string an,.int .i64 args.length,.int .i64 z,.string s] 256 (0,0))):=
  η ⟨_,b3,-1,⟨#[]⟩,rfl,a8.out.1,a8.out.2.1,a8.out.2.2,HA.out.drew,HQ.out⟩
 clear a8 HA HQ aq x0 x1 x2 x3 y0;generalize W.drew=W1 at *;go_wp2
 go_loopw [8,28] (fun best i wr=>∃ (k:Nat) (A9:Option Addr) (c9:Nat) (y:WK) (bx:List Nat) (z:Int) (s:ByteArray),k≤args.length∧i=.int .i64 k∧best=.slice A9 (idxs fs y).length c9∧jf wr [.slice A9 (idxs fs y).length c9] (idxs fs y) bx∧(∀ x ∈ bx,x ∈ bs)∧(∀ f,Gr f→(aC ⟨an,args⟩ f b).2=true→y ∈ keysOf f)∧Below w.heap.size w wr∧wr.heap[w.heap.size+1]? = some (.cells #[.string an,.int .i64 args.length,.int .i64 z,.string s] 256 (0,0))) (fun _ i _=>args.length - (intOf i).toNat)
 case atStart=>
  obtain ⟨y,bx,z,s,rfl,h⟩:=av.out;exact ⟨0,A0,c0,_,bx,z,s,ε,rfl,rfl,h⟩
 case round=>
  obtain ⟨k,A9,c9,y,bx,z,s,hk,rfl,rfl,hi,hin,a2,I,hq⟩:=hrel;clear av;by_cases a6:k < args.length
  ·obtain ⟨bq,oq,rfl,_,f0,f1,b4⟩:=xq ((bU vars).below HX.out.1 I) a6
   have bk:(0:Int)≤(k:Int):=by omega
   have b5:(k:Int) < (args.length:Int):=by omega
   have ae:Below wr.heap.size wr (wr.alloc (.cells #[.int .i64 (jE vars args[k]),.string (jF args[k])] 225)):=ζ;have a7:=vM vars hv b args[k] (HX.out.2 _ (δ a6)) blk o _ (HB.out.keep ((I.trans (ae.mono I.size)).block _ am));have a4:=η a6;have b6:Hid (∀ f,Gr f→(aC ⟨an,args⟩ f b).2=true→(dw b args[k]).name ≠ ⟨#[]⟩→(⟨an,args.length,k,(dw b args[k]).name⟩:WK) ∈ keysOf f):=η fun f hf hm hw=>Vz (p:=⟨an,args⟩) hf hm a6 hw
   have HI:=η (ι hi (ι hin (ι a2 (ι I hq))));have af:=η ae;have bl:(idxs fs y).length≤1000000:=τ (lK _ _) ag;clear hi a2 hin I hq ae b4 hk;generalize jE vars args[k]=sn at *;generalize jF args[k]=ss at *;generalize args[k]=t at *;clear a6
   go_wp2_with fail
   refine a7.mono ?_;rintro e w2 ⟨rfl,aw⟩;have a3:=af.out.trans (aw.mono af.out.size);have a1:w2.heap[w.heap.size+1]? = some (.cells #[.string an,.int .i64 args.length,.int .i64 z,.string s] 256 (0,0)):=(a3.block _ (ψ HI.out.2.2.2.2)).trans HI.out.2.2.2.2;have J:=HI.out.2.2.2.1.trans (a3.mono HI.out.2.2.2.1.size);have a9:=dG.below HI.out.1 a3;have aa:=η (ι a9 (ι HI.out.2.1 (ι HI.out.2.2.1 (ι J a1))));clear HI a7 aw a3 af;by_cases hw:(dw b t).name=⟨#[]⟩
   ·have hw':=xK
    rw [hw];clear a1 J a9;go_wp2;go_roundw
    case rel=>exact ⟨k+1,A9,c9,y,bx,z,s,a4.out,by go_num,rfl,aa.out⟩
    case measure=>have:=a4.out; simp [intOf]; omega
   ·have hw':=xJ hw
    have x2:w2.cell? ⟨w.heap.size+1,2,none⟩=some (.int .i64 z):=aj a1;have x3:w2.cell? ⟨w.heap.size+1,3,none⟩=some (.string s):=aj a1;have x4:=fun q=>aB a1 (o:=q)
    have HW:=η hw;have a0:=bY (o:=3) (u:=.string (dw b t).name) (bY (o:=2) (u:=.int .i64 k) a1);have U:Below w.heap.size w ((w2.setCell ⟨w.heap.size+1,2,none⟩ (.int .i64 k)).setCell ⟨w.heap.size+1,3,none⟩ (.string (dw b t).name)).drew:=((J.setCell (p:=⟨w.heap.size+1,2,none⟩) (Nat.le_succ _) _).setCell (p:=⟨w.heap.size+1,3,none⟩) (Nat.le_succ _) _).drew;obtain ⟨A8,c8,b7,b8,az,ac⟩:=(HU.out.below U ap.out).look ⟨an,args.length,k,(dw b t).name⟩;have bh:(idxs fs ⟨an,args.length,k,(dw b t).name⟩).length≤1000000:=τ (lK _ _) ag;dsimp only at b8;simp at a0
    have aD:jf ((w2.setCell ⟨w.heap.size+1,2,none⟩ (.int .i64 k)).setCell ⟨w.heap.size+1,3,none⟩ (.string (dw b t).name)).drew [.slice A9 (idxs fs y).length c9] (idxs fs y) bx:=dG.keep a9 fun x hx=>by
     have:=ap.out _ (aa.out.2.1 x hx);show (World.setCell _ _ _).heap[_]? = _;rw [π _ _ _ _ (by show x ≠ w.heap.size+1; omega),π _ _ _ _ (by show x ≠ w.heap.size+1; omega)]
    have b9:=η (ι aD (ι aa.out.2.1 (ι aa.out.2.2.1 (ι U a0))));have bc:=η (ι az (ι ac (ι (fun f hf hm=>b6.out f hf hm HW.out) (ι U a0))))
    have y2:((w2.setCell ⟨w.heap.size+1,2,none⟩ (.int .i64 k)).setCell ⟨w.heap.size+1,3,none⟩ (.string (dw b t).name)).cell? ⟨sb,2,none⟩=some (.map (some mu)):=by
     rw [World.cell?_setCell_far _ _ _ _ (by show w.heap.size+1 ≠ sb; omega),World.cell?_setCell_far _ _ _ _ (by show w.heap.size+1 ≠ sb; omega)];exact ξ J (aj HS.out.1)
    have z0:((w2.setCell ⟨w.heap.size+1,2,none⟩ (.int .i64 k)).setCell ⟨w.heap.size+1,3,none⟩ (.string (dw b t).name)).cell? ⟨w.heap.size+1,0,none⟩=some (.string an):=aj a0;have z1:((w2.setCell ⟨w.heap.size+1,2,none⟩ (.int .i64 k)).setCell ⟨w.heap.size+1,3,none⟩ (.string (dw b t).name)).cell? ⟨w.heap.size+1,1,none⟩=some (.int .i64 args.length):=aj a0;have z2:((w2.setCell ⟨w.heap.size+1,2,none⟩ (.int .i64 k)).setCell ⟨w.heap.size+1,3,none⟩ (.string (dw b t).name)).cell? ⟨w.heap.size+1,2,none⟩=some (.int .i64 k):=aj a0;have z3:((w2.setCell ⟨w.heap.size+1,2,none⟩ (.int .i64 k)).setCell ⟨w.heap.size+1,3,none⟩ (.string (dw b t).name)).cell? ⟨w.heap.size+1,3,none⟩=some (.string (dw b t).name):=aj a0;clear a1 J a9 a0 U aD az ac;go_wp2;generalize ((w2.setCell ⟨w.heap.size+1,2,none⟩ (.int .i64 k)).setCell ⟨w.heap.size+1,3,none⟩ (.string (dw b t).name))=W3 at *;go_region;by_cases hc:(idxs fs ⟨an,args.length,k,(dw b t).name⟩).length < (idxs fs y).length
    ·have bg:((idxs fs ⟨an,args.length,k,(dw b t).name⟩).length:Int) < ((idxs fs y).length:Int):=by omega
     go_wp2;go_roundw
     case rel=>exact ⟨k+1,A8,c8,_,b7,_,_,a4.out,by go_num,rfl,bc.out⟩
     case measure=>have:=a4.out; simp [intOf]; omega
    ·have bg:¬ ((idxs fs ⟨an,args.length,k,(dw b t).name⟩).length:Int) < ((idxs fs y).length:Int):=by omega
     go_wp2;go_roundw
     case rel=>exact ⟨k+1,A9,c9,y,bx,_,_,a4.out,by go_num,rfl,b9.out⟩
     case measure=>have:=a4.out; simp [intOf]; omega
  ·have he:k=args.length:=by omega
   have b5:¬ (k:Int) < (args.length:Int):=by omega
   have HP:=η (ι hi (ι hin (ι a2 I)));clear hi hin a2 I hq;go_wp2;go_ret;exact ⟨A9,c9,y,rfl,bx,HP.out⟩
theorem D.O7 (cs:Array Value) (k:Nat) (v:Bool) (hk:k < 12) (h:cs[k]? = some (.bool v)) (w:World):(Instr.index 287 (.agg cs) (.int .i64 k)).run Tryz.prog w=.ok (.bool v) w:=by
 have h1:(Tryz.prog.info? 4).map (fun i=>i.size)=some 1:=by kernel_rfl
 obtain ⟨J,y,I⟩:=Option.map_eq_some_iff.1 h1;simp [Instr.index,asIntOf,run_underlying Tryz.underlying287,run_underlying Tryz.underlying4,sizeOf,typeInfo,y,I,part,isAgg,h,hk,Result.andThen]
theorem rO (vars:List ByteArray) (b:Bd) (sk sb:Nat) (v1 v2:Value) (wt:Nat→Bool) (io:Bool) (ah:Int) (tell:Value) (w:World) (h:kP sk sb v1 v2 wt io ah tell w) (hb:fQ vars b sk 18 w):
  Calls Tryz.prog 258 #[.pointer (some ⟨sk,0,none⟩)] w fun e w'=>e=.returned (.bool (setB vars b wt))∧Below w.heap.size w w':=by
 have w0:=h.wd 0 (by omega);have w1:=h.wd 1 (by omega);have w2:=h.wd 2 (by omega);have w3:=h.wd 3 (by omega);have w4:=h.wd 4 (by omega);have w5:=h.wd 5 (by omega);have w6:=h.wd 6 (by omega);have w7:=h.wd 7 (by omega);have w8:=h.wd 8 (by omega);have w9:=h.wd 9 (by omega);have a1:=h.wd 10 (by omega);have a2:=h.wd 11 (by omega);simp only [Nat.add_zero,Nat.reduceAdd] at w0 w1 w2 w3 w4 w5 w6 w7 w8 w9 a1 a2;have HB:=η hb;clear h hb
 go_enter Tryz.func258,Tryz.ntmps258
 go_wp2
 have U:∀ i,i < 12→(#[.bool (wt 0),.bool (wt 1),.bool (wt 2),.bool (wt 3),.bool (wt 4),.bool (wt 5),.bool (wt 6),.bool (wt 7),.bool (wt 8),.bool (wt 9),.bool (wt 10),.bool (wt 11)]:Array Value)[i]? = some (.bool (wt i)):=by
  intro i hi;have:i=0∨i=1∨i=2∨i=3∨i=4∨i=5∨i=6∨i=7∨i=8∨i=9∨i=10∨i=11:=by omega
  rcases this with rfl | rfl | rfl | rfl | rfl | rfl | rfl | rfl | rfl | rfl | rfl | rfl <;> rfl
 have a3:=η U;clear U w0 w1 w2 w3 w4 w5 w6 w7 w8 w9 a1 a2;generalize (#[.bool (wt 0),.bool (wt 1),.bool (wt 2),.bool (wt 3),.bool (wt 4),.bool (wt 5),.bool (wt 6),.bool (wt 7),.bool (wt 8),.bool (wt 9),.bool (wt 10),.bool (wt 11)]:Array Value)=cs at *
 go_loopw [9] (fun i wr=>∃ (k:Nat),k≤12∧i=.int .i64 k∧(∀ j,j < k→wt j=true→Ey vars b j ≠ ⟨#[]⟩)∧wr=w) (fun i _=>12 - (intOf i).toNat)
 case atStart=>exact ⟨0,ε,rfl,fun j hj=>by omega,rfl⟩
 case round=>
  obtain ⟨k,hk,rfl,y,rfl⟩:=hrel;by_cases I:k < 12
  ·have a5:(0:Int)≤(k:Int):=by omega
   have a6:(k:Int) < 12:=by omega
   have hc:=O7 cs k (wt k) I (a3.out k I) wr;have y0:=HB.out.wd k I;have J:=η I;have a0:=η y;clear y hk I;cases hwk:wt k
   ·rw [hwk] at hc
    have HK:Hid (∀ j,j < k+1→wt j=true→Ey vars b j ≠ ⟨#[]⟩):=η fun j hj hw=>by
     rcases Nat.lt_succ_iff_lt_or_eq.1 hj with h | rfl
     ·exact a0.out j h hw
     ·rw [hwk] at hw; cases hw
    go_wp2;go_roundw
    case rel=>exact ⟨k+1,J.out,by go_num,HK.out,by trivial⟩
    case measure=>have:=J.out; simp [intOf]; omega
   ·rw [hwk] at hc
    by_cases hw:Ey vars b k=⟨#[]⟩
    ·have hw':=xK
     rw [hw] at y0
     have HF:Hid (setB vars b wt=false):=η (by
      cases h:setB vars b wt
      ·rfl
      ·exact absurd hw (Dc.1 h k J.out hwk))
     go_wp2;go_ret;rw [HF.out];exact ⟨rfl,ϑ⟩
    ·have hw':=xJ hw
     have HK:Hid (∀ j,j < k+1→wt j=true→Ey vars b j ≠ ⟨#[]⟩):=η fun j hj a4=>by
      rcases Nat.lt_succ_iff_lt_or_eq.1 hj with h | rfl
      ·exact a0.out j h a4
      ·exact hw
     go_wp2;go_roundw
     case rel=>exact ⟨k+1,J.out,by go_num,HK.out,by trivial⟩
     case measure=>have:=J.out; simp [intOf]; omega
  ·have he:k=12:=by omega
   subst he;have HF:Hid (setB vars b wt=true):=η (Dc.2 y);go_wp2;go_ret;rw [HF.out];exact ⟨rfl,ϑ⟩
def D.fG (vars:List ByteArray) (y:List T) (i:Nat):Bool:=y.any fun t=>t.var && vars.idxOf t.name == i
theorem D.MK (vars:List ByteArray) (y:List T) (k i:Nat) (h:k < y.length):fG vars (y.take (k+1)) i=(fG vars (y.take k) i || (y[k].var && vars.idxOf y[k].name == i)):=by
 unfold fG;rw [ρ h,List.any_append];simp
structure D.ig (sk:Nat) (w w':World):Prop where
 grow:w.grownBy w' (some sk)
 rest:∀ q,(q < 4∨16≤q)→w'.cell? ⟨sk,q,none⟩=w.cell? ⟨sk,q,none⟩
 frz:∀ q,w'.frozen? ⟨sk,q,none⟩=w.frozen? ⟨sk,q,none⟩
theorem D.ig.trans {sk:Nat} {w w' I:World} (h:ig sk w w') (k:ig sk w' I):ig sk w I:=
 ⟨⟨k.grow.os.trans h.grow.os,k.grow.tape.trans h.grow.tape,k.grow.output.trans h.grow.output,τ h.grow.size k.grow.size,fun i hi y=>(k.grow.block i (κ hi h.grow.size) y).trans (h.grow.block i hi y)⟩,
  fun q hq=>(k.rest q hq).trans (h.rest q hq),fun q=>(k.frz q).trans (h.frz q)⟩
theorem D.ig.of_below {sk:Nat} {w w':World} (h:Below w.heap.size w w') (y:sk < w.heap.size):ig sk w w':=
 ⟨⟨h.os,h.tape,h.output,h.size,fun i hi _=>h.block i hi⟩,fun q _=>World.cell?_of_block (h.block _ y),fun q=>World.frozen?_of_block (h.block _ y)⟩
theorem D.ig.put {sk:Nat} (w:World) (i:Nat) (hi:i < 12) (v:Value):ig sk w (w.setCell ⟨sk,4+i,none⟩ v):=
 ⟨⟨rfl,rfl,rfl,by simp [World.setCell],fun k _ y=>π _ _ _ _ (fun e=>y (by rw [e]))⟩,
  fun q hq=>World.cell?_setCell_other _ _ _ _ (fun e=>by injection e with _ e2 _; omega),fun q=>World.frozen?_setCell _ _ _ _⟩
theorem D.fQ.wt {vars:List ByteArray} {b:Bd} {sk:Nat} {w w':World} (h:fQ vars b sk 18 w) (k:ig sk w w'):fQ vars b sk 18 w':=
 ⟨fun i hi=>(k.rest _ (by omega)).trans (h.wd i hi),fun i hi=>by obtain ⟨z,h1,y⟩:=h.bd i hi; exact ⟨z,(k.rest _ (by omega)).trans h1,y⟩,(k.rest _ (by omega)).trans h.ct,fun i hi=>(k.frz _).trans (h.fz i hi)⟩
theorem D.kP.put {sk sb:Nat} {I J:Value} {wt:Nat→Bool} {io:Bool} {ah:Int} {tell:Value} {w:World} (h:kP sk sb I J wt io ah tell w) (j:Nat) (U:j < 12) (y:Nat→Bool) (hw:∀ i,i < 12→y i=(wt i || j == i)):
  kP sk sb I J y io ah tell (w.setCell ⟨sk,4+j,none⟩ (.bool true)):=by
 have k:=ig.put (sk:=sk) w j U (.bool true);have c:=D.jH w sk (4+j) (.bool true) (h.wd j U);refine ⟨(k.rest _ (by omega)).trans h.st,(k.rest _ (by omega)).trans h.p1,(k.rest _ (by omega)).trans h.p2,fun i hi=>?_,(k.rest _ (by omega)).trans h.io,(k.rest _ (by omega)).trans h.ah,(k.rest _ (by omega)).trans h.tl⟩;rw [c,hw i hi];by_cases e:i=j
 ·subst e; simp
 ·rw [if_neg (by omega),h.wd i hi]
  have:(j == i)=false:=beq_eq_false_iff_ne.2 (fun e2=>e e2.symm);rw [this,Bool.or_false]
theorem JB (vars : List ByteArray) (hv : ji vars) (a : A) (Ae : Option Addr) (ce : Nat) (b1 : List Nat) (sk sb : Nat) (v1 v2 : Value) (wt : Nat → Bool) (io : Bool) (ah : Int) (tell : Value) (w : World) (h : kP sk sb v1 v2 wt io ah tell w)
    (hf : ∀ q, w.frozen? ⟨sk, q, none⟩ = false) (ha : jG vars w [.slice Ae a.args.length ce] a.args b1) (hin : ∀ t ∈ a.args, t.var = true → t.name ∈ vars) (h1 : sk ∉ b1) (am : a.args.length ≤ 1000000) :
    Calls Tryz.prog 207 #[.pointer (some ⟨sk, 0, none⟩), .agg #[.string a.name, .slice Ae a.args.length ce]] w fun e w' => e = .returned (.tuple #[]) ∧ kP sk sb v1 v2 (fun i => wt i || fG vars a.args i) io ah tell w' ∧ ig sk w w' := by
  obtain ⟨an, args⟩ := a;dsimp only at *;have a5 := h.lt;have hA : Below w.heap.size w (w.alloc (.cells #[.string an, .slice Ae args.length ce] 143)) := (Below.refl _ _).alloc (Nat.le_refl _) _
  have a6 : Hid (kP sk sb v1 v2 (fun i => wt i || fG vars (args.take 0) i) io ah tell (w.alloc (.cells #[.string an, .slice Ae args.length ce] 143)) ∧ ig sk w (w.alloc (.cells #[.string an, .slice Ae args.length ce] 143))) :=
    Lib.hid ⟨by have e : (fun i => wt i || fG vars (args.take 0) i) = wt := funext fun i => by simp [fG]
                rw [e]; exact h.keep (hA.block _ a5), ig.of_below hA a5⟩
  have HX := Lib.hid (And.intro ha (And.intro hin hf));clear h ha hin hf hA
  go_enter Tryz.func207, Tryz.ntmps207
  go_wp2;generalize w.alloc (.cells #[.string an, .slice Ae args.length ce] 143) = W at *
  go_loopw [9] (fun i wr => ∃ (k : Nat), k ≤ args.length ∧ i = .int .i64 k ∧ kP sk sb v1 v2 (fun i => wt i || fG vars (args.take k) i) io ah tell wr ∧ ig sk w wr) (fun i _ => args.length - (intOf i).toNat)
  case atStart => exact ⟨0, Nat.zero_le _, rfl, a6.out⟩
  case round =>
    obtain ⟨k, hk, rfl, hI, hK⟩ := hrel;clear a6;by_cases y : k < args.length
    · have ao := hK.grow.size
      have a7 : jG vars wr [.slice Ae args.length ce] args b1 := (bU vars).keep HX.out.1 fun b hb => hK.grow.block b ((bU vars).lt HX.out.1 b hb) (fun e => h1 (by injection e with e; rw [← e]; exact hb))
      obtain ⟨bq, oq, rfl, _, f0, f1, aa⟩ := xq a7 y;have ap : (0 : Int) ≤ (k : Int) := by omega
      have ab : (k : Int) < (args.length : Int) := by omega
      have a8 := Lib.hid (HX.out.2.1 _ (List.getElem_mem y));have a2 : Hid (∀ i, fG vars (args.take (k + 1)) i = (fG vars (args.take k) i || (args[k].var && vars.idxOf args[k].name == i))) := Lib.hid fun i => MK vars args k i y
      have a3 : Below wr.heap.size wr (wr.alloc (.cells #[.int .i64 (jE vars args[k]), .string (jF args[k])] 225)) := (Below.refl _ _).alloc (Nat.le_refl _) _;have a1 : sk < wr.heap.size := by omega
      have I := hI.keep (a3.block _ a1);have J := Lib.hid (hK.trans (ig.of_below a3 a1));have U := Lib.hid y;have aq : (wr.alloc (.cells #[.int .i64 (jE vars args[k]), .string (jF args[k])] 225)).cell? ⟨wr.heap.size, 0, none⟩ = some (.int .i64 (jE vars args[k])) := by go_simp
      clear hI hK a3 aa hk a7;generalize hsn : jE vars args[k] = sn at *;generalize jF args[k] = ss at *;generalize args[k] = t at *;clear y;have a4 := Lib.hid hsn;have ar : Hid (sk ≠ wr.heap.size) := Lib.hid (by omega);clear hsn;cases htv : t.var
      · have hs : sn = -1 := by rw [← a4.out]; unfold jE; simp [htv]
        subst hs
        have a0 : Hid (kP sk sb v1 v2 (fun i => wt i || fG vars (args.take (k + 1)) i) io ah tell (wr.alloc (.cells #[.int .i64 (-1), .string ss] 225))) := Lib.hid (by
          have e : (fun i => wt i || fG vars (args.take (k + 1)) i) = fun i => wt i || fG vars (args.take k) i := funext fun i => by rw [a2.out]; simp [htv]
          rw [e]; exact I)
        clear I;go_wp2;go_roundw
        case rel => exact ⟨k + 1, U.out, by go_num, a0.out, J.out⟩
        case measure => have := U.out; simp [intOf]; omega
      · have hn := a8.out htv
        have hi := List.idxOf_lt_length_of_mem hn;have ag := hv.few;have hs : sn = ((vars.idxOf t.name : Nat) : Int) := by rw [← a4.out]; unfold jE; simp [htv]
        subst hs;have hj : vars.idxOf t.name < 12 := by omega
        have a9 : ∀ i, i < 12 → (wt i || fG vars (args.take (k + 1)) i) = ((wt i || fG vars (args.take k) i) || vars.idxOf t.name == i) := fun i _ => by rw [a2.out]; simp [htv, Bool.or_assoc]
        clear htv a4 hn hi a8 a2;generalize vars.idxOf t.name = j at *;have y0 := I.wd j hj;have y1 : (wr.alloc (.cells #[.int .i64 (j : Nat), .string ss] 225)).frozen? ⟨sk, 4 + j, none⟩ = false := (J.out.frz _).trans (HX.out.2.2 _);have av : (0 : Int) ≤ (j : Int) := by omega
        have aw : (j : Int) < 12 := by omega
        have a0 := Lib.hid (I.put j hj (fun i => wt i || fG vars (args.take (k + 1)) i) a9);have ac := Lib.hid (J.out.trans (ig.put _ j hj (.bool true)));clear I J a9;go_wp2;generalize wr.alloc (.cells #[.int .i64 (j : Nat), .string ss] 225) = W1 at *;go_region;have ae : Hid (kP sk sb v1 v2 (fun i => wt i || fG vars (args.take (k + 1)) i) io ah tell (W1.setCell ⟨sk, 4 + j, none⟩ (.bool true)).drew) := Lib.hid (a0.out.keep rfl);have af : Hid (ig sk w (W1.setCell ⟨sk, 4 + j, none⟩ (.bool true)).drew) := Lib.hid (ac.out.trans (ig.of_below ((Below.refl _ _).drew) a0.out.lt));go_wp2;go_roundw
        case rel => exact ⟨k + 1, U.out, by go_num, ae.out, af.out⟩
        case measure => have := U.out; simp [intOf]; omega
    · have he : k = args.length := by omega
      have ab : ¬ (k : Int) < (args.length : Int) := by omega
      rw [List.take_of_length_le (Nat.le_of_eq he.symm)] at hI;have HP := Lib.hid (And.intro hI hK);clear hI hK;go_wp2
      go_end0
      exact ⟨rfl, HP.out⟩
def D.JC (w:World) (blk o:Nat):Nat:=match w.cell? ⟨blk,o+24,none⟩ with | some (.int _ n)=>n.toNat | _=>0
theorem D.fQ.cnt {vars:List ByteArray} {b:Bd} {blk o:Nat} {w:World} (h:fQ vars b blk o w):JC w blk o=b.length:=by unfold JC; rw [h.ct]; simp
theorem JD (vars:List ByteArray) (hv:ji vars) (b:Bd) (ac:iW vars b) (m:Nat) (hm:m≤b.length) (blk o:Nat) (w:World) (hb:fQ vars b blk o w):
  Calls Tryz.prog 261 #[.pointer (some ⟨blk,o,none⟩),.int .i64 m] w fun e w'=>e=.returned (.tuple #[])∧jm vars blk o w (b.take m) w':=by
 have a5:=hb.lt;have a6:Hid (jm vars blk o w b w):=η ⟨hb,ac,cO.refl _ _ _⟩;clear hb
 go_enter Tryz.func261,Tryz.ntmps261
 go_wp2
 go_loopw [] (fun wr=>∃ (k:Nat),m≤k∧k≤b.length∧jm vars blk o w (b.take k) wr) (fun wr=>JC wr blk o)
 case atStart=>exact ⟨b.length,hm,ν,by rw [ϕ ν]; exact a6.out⟩
 case round=>
  obtain ⟨k,ae,af,I⟩:=hrel;clear a6;have U:=I.at_.ct;have a0:(b.take k).length=k:=by simp; omega
  rw [a0] at U;by_cases ag:m < k
  ·obtain ⟨k,rfl⟩:∃ k',k=k'+1:=⟨k - 1,by omega⟩
   have a7:k < b.length:=by omega
   have a1:b.take (k+1)=b.take k ++ [(b[k].1,b[k].2)]:=ρ a7;have hok:=I.ok;rw [a1] at hok;have y:(b.take k).length=k:=by simp; omega
   obtain ⟨J,hn,a8⟩:=hok.init;dsimp only at hn a8;have a2:=I.at_;rw [a1] at a2;have a3:=a2.unbind hv hok;rw [y] at a3;have hi:=List.idxOf_lt_length_of_mem hn;have aq:=hv.few;have hlen:=J.len;rw [y] at hlen;obtain ⟨z,a9,aa⟩:=I.at_.bd k (by have:=hok.len; simp at this; omega)
   have am:z=(vars.idxOf b[k].1:Nat):=by
    rw [aa (by omega)];simp
   subst am;have x0:=I.at_.wd (vars.idxOf b[k].1) (by omega);have x1:=I.at_.fz (vars.idxOf b[k].1) (by omega);have x3:=I.at_.fz 24 (by omega);have a4:=I.at_.cnt;rw [a0] at a4;have HK:=η I.kept;have ar:k < 12:=by have:=hok.len; simp at this; omega
   clear I a2 aa hok a1 hn a8;generalize vars.idxOf b[k].1=j at *;have av:(m:Int) < ((k+1:Nat):Int):=by omega
   have aw:(0:Int)≤(k:Int):=by omega
   have ao:(k:Int) < 12:=by omega
   have az:(0:Int)≤(j:Int):=by omega
   have aD:(j:Int) < 12:=by omega
   have e1:((k+1:Nat):Int) - 1=(k:Int):=by omega
   have p1:=D.jH wr blk (o+24) (.int .i64 (k:Nat)) U;have c1:(wr.setCell ⟨blk,o+24,none⟩ (.int .i64 (k:Nat))).cell? ⟨blk,o+24,none⟩=some (.int .i64 (k:Nat)):=(p1 _).trans (if_pos rfl);have c2:(wr.setCell ⟨blk,o+24,none⟩ (.int .i64 (k:Nat))).cell? ⟨blk,o+12+k,none⟩=some (.int .i64 (j:Nat)):=((p1 _).trans (if_neg (by omega))).trans a9;have c3:(wr.setCell ⟨blk,o+24,none⟩ (.int .i64 (k:Nat))).cell? ⟨blk,o+j,none⟩=_:=((p1 _).trans (if_neg (by omega))).trans x0;have c4:(wr.setCell ⟨blk,o+24,none⟩ (.int .i64 (k:Nat))).frozen? ⟨blk,o+j,none⟩=false:=(World.frozen?_setCell _ _ _ _).trans x1
   have ab:cO blk o w (((wr.setCell ⟨blk,o+24,none⟩ (.int .i64 (k:Nat))).setCell ⟨blk,o+j,none⟩ (.string ⟨#[]⟩)).drew):=by
    have k1:=HK.out.trans (cO.put wr 24 (by omega) (.int .i64 (k:Nat)));have k2:=k1.trans (cO.put _ j (by omega) (.string ⟨#[]⟩));exact k2.trans (cO.of_below (ϑ.drew) (κ a5 k2.grow.size))
   have HP:Hid (jm vars blk o w (b.take k) (((wr.setCell ⟨blk,o+24,none⟩ (.int .i64 (k:Nat))).setCell ⟨blk,o+j,none⟩ (.string ⟨#[]⟩)).drew)):=η ⟨a3.keep rfl,J,ab⟩;have HN:=η (ι ae (ι ag af));have ap:=η a4;have HL:=η y;clear a3 J ab p1 a0 y a4;go_wp2;go_region;have HM:Hid (JC (((wr.setCell ⟨blk,o+24,none⟩ (.int .i64 (k:Nat))).setCell ⟨blk,o+j,none⟩ (.string ⟨#[]⟩)).drew) blk o < JC wr blk o):=η (by rw [HP.out.at_.cnt,HL.out,ap.out]; omega);clear c1 c2 c3 c4 x0 x1 x3 U a9;generalize (((wr.setCell ⟨blk,o+24,none⟩ (.int .i64 (k:Nat))).setCell ⟨blk,o+j,none⟩ (.string ⟨#[]⟩)).drew)=S1 at *;go_wp2;go_roundw
   case rel=>exact ⟨k,by have:=HN.out; omega,by have:=HN.out; omega,HP.out⟩
   case measure=>exact HM.out
  ·have he:k=m:=by omega
   subst he;have ao:¬ (k:Int) < (k:Int):=by omega
   have HP:=η I;clear I;go_wp2
   go_end0
   exact ⟨rfl,HP.out⟩
theorem Gs (rs:List Ru) (v:Value) (I:List Nat) (w:World) (h:dD w [v] rs I) (J:oV w):
  Calls Tryz.prog 203 #[v] w fun e w'=>e=.returned (.bool (decide (eH rs=0)))∧Below w.heap.size w w':=by
 have c1:=Dl rs v I w h J;have U:(eH rs:Int)≤5:=by have:=Iq rs; omega
 clear h J;generalize eH rs=c at *;by_cases h0:c=0
 ·subst h0
  go_enter Tryz.func203,Tryz.ntmps203
  go_wp2_with fail
  refine c1.mono ?_;rintro e w1 ⟨rfl,y⟩;go_wp2;go_ret;exact ⟨rfl,y⟩
 ·have h1:¬ (c:Int)=0:=by omega
  have HD:Hid (decide (c=0)=false):=η (decide_eq_false h0);clear h0
  go_enter Tryz.func203,Tryz.ntmps203
  go_wp2_with fail
  refine c1.mono ?_;rintro e w1 ⟨rfl,y⟩;go_wp2;go_ret;exact ⟨aA (by rw [HD.out]; exact beq_eq_false_iff_ne.2 h1),y⟩
end
section
open Go.RowKit D
def D.iU (more:List A) (n:Nat) (r:Rd):Rd:=more.foldl (fun r a=>gI r a n) r
theorem D.JE (more:List A) (n:Nat) (r:Rd) (k:Nat) (h:k < more.length):iU (more.take (k+1)) n r=gI (iU (more.take k) n r) more[k] n:=by
 unfold iU;rw [ρ h,List.foldl_append];rfl
theorem D.sN (r:Rd) (a:A) (n:Nat):(gI r a n).1=fC r.1 a:=by
 unfold gI fC
 split
 ·rfl
 ·rfl
structure D.oG (r:Rd):Prop where
 iF:iF r.1=true
 len:r.2.length=r.1.length
theorem D.oG.put {r:Rd} (h:oG r) (a:A) (n:Nat):oG (gI r a n):=by
 refine ⟨by rw [sN]; exact Fg h.iF a,?_⟩;unfold gI;have J:=(oL h.iF a).2.2;have I:=h.len;by_cases y:hasB r.1 a=true
 ·rw [if_pos y]; exact I
 ·rw [if_neg y]
  show (r.2.take (pl r.1 a) ++ [n] ++ r.2.drop (pl r.1 a)).length=(fC r.1 a).length;unfold fC;rw [if_neg y];simp;omega
theorem D.JF (r:Rd) (a:A) (n:Nat):r.1.length≤(gI r a n).1.length∧(gI r a n).1.length≤r.1.length+1:=by
 rw [sN];refine ⟨?_,Gq _ _⟩;unfold fC
 split
 ·exact ν
 ·simp
  omega
theorem D.mg {r:Rd} (h:oG r) (n:Nat):∀ more,oG (iU more n r)∧r.1.length≤(iU more n r).1.length∧(iU more n r).1.length≤r.1.length+more.length:=by
 intro more
 induction more generalizing r with
 | nil=>exact ⟨h,ν,ν⟩
 | cons a more ih=>
  have h1:=ih (h.put a n);have y:=JF r a n;refine ⟨h1.1,?_,?_⟩
  ·exact τ y.1 h1.2.1
  ·have:=h1.2.2
   simp only [iU,List.foldl_cons,List.length_cons] at *;omega
def D.dZ (rs:List Ru) (lv:List Nat) (level:Nat) (r:Rd) (n:Nat):Rd:=iU (iL r.1 level (rs.zip lv)) n r
def D.AL (rs:List Ru) (lv:List Nat):Nat→Nat→Rd→Nat→Rd × Bool
 | 0,_,r,_=>(r,true)
 | k+1,0,r,_=>(r,false)
 | k+1,fuel+1,r,n=>
  if 300 < (dZ rs lv (rs.length - k) r (n+1)).1.length then (dZ rs lv (rs.length - k) r (n+1),false)
  else if (dZ rs lv (rs.length - k) r (n+1)).1.length=r.1.length then AL rs lv k 302 (dZ rs lv (rs.length - k) r (n+1)) n
  else AL rs lv (k+1) fuel (dZ rs lv (rs.length - k) r (n+1)) (n+1)
 termination_by k fuel=>(k,fuel)
def D.iy (rs:List Ru) (given:List A):Rd × Bool:=AL rs (aF rs) (rs.length+1) 302 (given,List.replicate given.length 0) 0
end
end Go.Proofs.YtlmngncogomgeaaGreatDoor
