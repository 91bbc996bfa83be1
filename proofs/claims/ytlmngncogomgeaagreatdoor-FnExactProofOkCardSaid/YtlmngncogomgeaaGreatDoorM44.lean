/- Of the proof of FnExactProofOk: OkS. -/
import Derived.Test.YtlmngncogomgeaaGreatDoorM41
set_option linter.unusedVariables false
set_option maxHeartbeats 4000000
set_option maxRecDepth 100000
namespace Go.Proofs.YtlmngncogomgeaaGreatDoor
open Go.RowKit D
attribute [local go_sem ↓] Go.wp_at_zero Go.wp_at_succ
theorem D.PU {rs:List Ru} {xs ys:List A} {p:Pf} (h:p.rule = -1):sU rs xs ys p=(p.kids.isEmpty && aW p.fact && hasB xs p.fact):=by
 obtain ⟨f,r,y⟩:=p;change r = -1 at h;rw [sU,if_pos h]; rfl
theorem D.UU {rs:List Ru} {xs ys:List A} {p:Pf} (h:p.rule ≠ -1) (y:¬ (0≤p.rule∧p.rule≤(rs.length:Int) - 1)):sU rs xs ys p=false:=by
 obtain ⟨f,r,I⟩:=p;change r ≠ -1 at h;change ¬ (0≤r∧r≤(rs.length:Int) - 1) at y;rw [sU,if_neg h]
 split
 ·rfl
 ·rw [List.getElem?_eq_none (by omega)]
theorem D.VF {rs:List Ru} {xs ys:List A} {p:Pf} {i:Nat} (h:p.rule=i) (hi:i < rs.length):sU rs xs ys p=(aW p.fact && iV rs[i] p.fact (p.kids.map Pf.fact) ys && p.kids.all (sU rs xs ys)):=by
 obtain ⟨f,r,y⟩:=p;change r=i at h;subst h;rw [sU,if_neg (by omega),if_neg (by omega),Int.toNat_natCast,Ψ hi];dsimp only;rw [xZ];rfl
theorem D.Tv (p:Pf) {k:Pf} (h:k ∈ p.kids):aK k≤aK p:=by
 rw [kV p]
 have:∀ y:List Pf,k ∈ y→aK k≤dh aK y:=by
  intro y hk
  induction y with
  | nil=>simp at hk
  | cons a y ih=>
   have e:dh aK (a :: y)=aK a+dh aK y:=by simp [dh]
   rcases ύ.1 hk with rfl | hk
   ·omega
   ·have:=ih hk
    omega
 have I:=this p.kids h;omega
def D.VQ (rs:List Ru):Prop:=∀ r ∈ rs,r.body.length≤100∧r.head.args.length≤1000∧∀ p ∈ r.body,p.atom.args.length≤1000
theorem UW (rs:List Ru) (xs ys:List A) (ap:VQ rs) (bc:iF xs=true) (bf:iF ys=true):∀ (n:Nat) (p:Pf) (c0 c1 c2 c3 vr vx vy:Value) (bs br bx b3:List Nat) (w:World) (h:dP n w [c0,c1,c2,c3] p bs) (hR:dD w [vr] rs br) (hX:aQ w [vx] xs bx) (hY:aQ w [vy] ys b3) (hs:aK p≤16777216),
  Calls Tryz.prog 37 #[vr,vx,vy,.agg #[c0,c1,c2,c3]] w fun e w'=>e=.returned (.bool (sU rs xs ys p))∧Below w.heap.size w w':=by
 intro n
 induction n with
 | zero=>exact fun p c0 c1 c2 c3 vr vx vy bs br bx b3 w h=>h.elim
 | succ n ih=>
  intro p c0 c1 c2 c3 vr vx vy bs br bx b3 w h hR hX hY hs;have aq:=h;obtain ⟨Ad,cap,Ae,I,b1,b2,rfl,rfl,rfl,rfl,rfl,ar,a5,hq⟩:=gV h;obtain ⟨Ar,cr,rfl,av,aw⟩:=ai hR;have az:=ay (τ av aw)
  have bp:IntKind.i64.wrap ((rs.length:Int) - 1)=(rs.length:Int) - 1:=by
   simp only [IntKind.wrap,IntKind.bits,IntKind.signed]; simp; omega
  have bg:p.kids.length≤16777216:=by have:=AA p; omega
  have hA:Below w.heap.size w (w.alloc (.cells #[.string p.fact.name,.slice Ad p.fact.args.length cap,.int .i64 p.rule,.slice Ae p.kids.length I] 43)):=(Below.refl w.heap.size w).alloc ν _;have HG:=η (fun w' (hb:Below w.heap.size w w')=>lW p.fact _ _ b1 w' (ak.below a5 hb));have HH:=η (fun w' (hb:Below w.heap.size w w')=>yI xs p.fact vx _ _ bx b1 w' (au.below hX hb) (ak.below a5 hb) bc);have HA:=η hA;clear av aw;by_cases hr:p.rule = -1
  ·have HK:Hid (sU rs xs ys p=(p.kids.isEmpty && aW p.fact && hasB xs p.fact)):=η (PU hr)
   clear hR hX hY hs ih ar a5 hq aq h;generalize hP:sU rs xs ys p=OK at *;have HE:Hid (p.kids.isEmpty=true ↔ p.kids.length=0):=η (by cases p.kids <;> simp);generalize p.kids=ks at *;generalize p.fact=f at *;generalize p.rule=ru at *;subst hr;clear hP;by_cases a8:ks.length=0
   ·have hz:=HE.out.2 a8
    rw [hz,Bool.true_and] at HK;obtain rfl:ks = []:=List.eq_nil_of_length_eq_zero a8;clear hz a8 HE;simp only [List.length_nil] at *;cases hfb:aW f
    ·rw [hfb] at HG HK
     go_enter Tryz.func37,Tryz.ntmps37
     go_wp2_with (go_at_call 70; refine (HG.out _ HA.out).mono ?_; rintro e w1 ⟨rfl,U⟩)
     go_wp2;go_ret;exact ⟨aA (by rw [HK.out]; rfl),HA.out.trans (U.mono HA.out.size)⟩
    ·rw [hfb] at HG HK
     go_enter Tryz.func37,Tryz.ntmps37
     go_wp2_with (first
      | (go_at_call 70; refine (HG.out _ HA.out).mono ?_; rintro e w1 ⟨rfl,U⟩; have ab:=HA.out.trans (U.mono HA.out.size); have x0:w1.cell? ⟨w.heap.size,0,none⟩=some (.string f.name):=ξ U (by go_simp); have x1:w1.cell? ⟨w.heap.size,1,none⟩=some (.slice Ad f.args.length cap):=ξ U (by go_simp))
      | (go_at_call 71; refine (HH.out _ ab).mono ?_; rintro e w2 ⟨rfl,a0⟩; have bh:=ab.trans (a0.mono ab.size)))
     go_wp2;go_ret;exact ⟨aA (by rw [HK.out]; rfl),bh⟩
   ·have hz:ks.isEmpty=false:=by rw [Bool.eq_false_iff]; exact fun e=>a8 (HE.out.1 e)
    rw [hz,Bool.false_and,Bool.false_and] at HK;have bi:¬ (ks.length:Int)=0:=by omega
    go_enter Tryz.func37,Tryz.ntmps37
    go_wp2;go_ret;exact ⟨aA HK.out.symm,HA.out⟩
  ·have HR:=η hR
   have bt:=η az;have ac:=η bg;have HS:=η hs;have HQ:=η hq;have HY:=η hY;have HX:=η hX;have bj:=η a5;have IH:=η ih;clear hR hX hY hs ih hq a5 aq h hA ar;have ae:Hid (∀ i:Nat,p.rule=i→(hi:i < rs.length)→sU rs xs ys p=(aW p.fact && iV rs[i] p.fact (p.kids.map Pf.fact) ys && p.kids.all (sU rs xs ys))):=η fun i h1 h2=>VF h1 h2
   have af:Hid (¬ (0≤p.rule∧p.rule≤(rs.length:Int) - 1)→sU rs xs ys p=false):=η fun h=>UU hr h
   generalize p.rule=ru at *;have y0:(w.alloc (.cells #[.string p.fact.name,.slice Ad p.fact.args.length cap,.int .i64 ru,.slice Ae p.kids.length I] 43)).cell? ⟨w.heap.size,0,none⟩=some (.string p.fact.name):=by go_simp
   have y1:(w.alloc (.cells #[.string p.fact.name,.slice Ad p.fact.args.length cap,.int .i64 ru,.slice Ae p.kids.length I] 43)).cell? ⟨w.heap.size,1,none⟩=some (.slice Ad p.fact.args.length cap):=by go_simp
   have y2:(w.alloc (.cells #[.string p.fact.name,.slice Ad p.fact.args.length cap,.int .i64 ru,.slice Ae p.kids.length I] 43)).cell? ⟨w.heap.size,2,none⟩=some (.int .i64 ru):=by go_simp
   have y3:(w.alloc (.cells #[.string p.fact.name,.slice Ad p.fact.args.length cap,.int .i64 ru,.slice Ae p.kids.length I] 43)).cell? ⟨w.heap.size,3,none⟩=some (.slice Ae p.kids.length I):=by go_simp
   by_cases hin:0≤ru∧ru≤(rs.length:Int) - 1
   ·obtain ⟨i,hi⟩:∃ i:Nat,ru=i:=⟨ru.toNat,by omega⟩
    have a6:i < rs.length:=by omega
    have HK:Hid (sU rs xs ys p=(aW p.fact && iV rs[i] p.fact (p.kids.map Pf.fact) ys && p.kids.all (sU rs xs ys))):=η (ae.out i hi a6);have a4:(decide (0≤ru) && decide (ru≤(rs.length:Int) - 1))=true:=by rw [ο,decide_eq_true_eq,decide_eq_true_eq]; exact hin
    have hin:=fun w'=>KE ru 0 ((rs.length:Int) - 1) w'
    rw [a4] at hin;have HI:=η hi;have bu:=η a6;clear hi ae af;cases hfb:aW p.fact
    ·rw [hfb] at HG HK
     clear IH HX HY HS HQ ac a4
     go_enter Tryz.func37,Tryz.ntmps37
     go_wp2;generalize w.alloc (.cells #[.string p.fact.name,.slice Ad p.fact.args.length cap,.int .i64 ru,.slice Ae p.kids.length I] 43)=W at *;refine wp_region_held_drew (S:=(fun w'=>w'.cell? ⟨w.heap.size,0,none⟩=some (.string p.fact.name)∧w'.cell? ⟨w.heap.size,1,none⟩=some (.slice Ad p.fact.args.length cap)∧w'.cell? ⟨w.heap.size,2,none⟩=some (.int .i64 ru))) (by kernel_rfl) ?_ (fun J=>?_)
     ·go_keep
     try simp only [Act.put,List.setIfInBounds_toArray,List.set_cons_zero,List.set_cons_succ]
     refine dB 0 (v:=?_) rfl (by kernel_rfl) (fun _ _ _ h=>h) ?_ (by assumption) ?_
     rotate_left
     ·(intro w y; (try dsimp only at y); go_simp); (first | done | with_reducible rfl)
     try simp only [Act.put,List.setIfInBounds_toArray,List.set_cons_zero,List.set_cons_succ]
     try simp only [Act.put,List.setIfInBounds_toArray,List.set_cons_zero,List.set_cons_succ]
     refine dB 1 (v:=?_) rfl (by kernel_rfl) (fun _ _ _ h=>h) ?_ (by assumption) ?_
     rotate_left
     ·(intro w y; (try dsimp only at y); go_simp); (first | done | with_reducible rfl)
     try simp only [Act.put,List.setIfInBounds_toArray,List.set_cons_zero,List.set_cons_succ]
     try simp only [Act.put,List.setIfInBounds_toArray,List.set_cons_zero,List.set_cons_succ]
     refine dB 2 (v:=?_) rfl (by kernel_rfl) (fun _ _ _ h=>h) ?_ (by assumption) ?_
     rotate_left
     ·(intro w y; (try dsimp only at y); go_simp); (first | done | with_reducible rfl)
     try simp only [Act.put,List.setIfInBounds_toArray,List.set_cons_zero,List.set_cons_succ]
     try simp only [Act.put,List.setIfInBounds_toArray,List.set_cons_zero,List.set_cons_succ]
     refine dB 3 (v:=?_) rfl (by kernel_rfl) (fun _ _ _ h=>h) ?_ (by assumption) ?_
     rotate_left
     ·(intro w y; (try dsimp only at y); go_simp); (first | done | with_reducible rfl)
     try simp only [Act.put,List.setIfInBounds_toArray,List.set_cons_zero,List.set_cons_succ]
     try simp only [Act.put,List.setIfInBounds_toArray,List.set_cons_zero,List.set_cons_succ]
     refine dB 4 (v:=?_) rfl (by kernel_rfl) (fun _ _ _ h=>h) ?_ (by assumption) ?_
     rotate_left
     ·(intro w y; (try dsimp only at y); go_simp); (first | done | with_reducible rfl)
     try simp only [Act.put,List.setIfInBounds_toArray,List.set_cons_zero,List.set_cons_succ]
     refine wpAnyH_ready (rs:=[5]) (by kernel_rfl) (by simp) ?_;refine AllReadyH.cons (o:=⟨_,_,_,_,_,_⟩) rfl (fun K hK=>?_) AllReadyH.nil;rw [if_pos (by rfl)];go_simp
     go_at_call 76
     refine (hin _).mono ?_;rintro e w' ⟨rfl,rfl⟩;clear J;refine hK.out _ _ ?_ (fun J=>?_)
     ·exact ⟨y0,y1,y2⟩
     clear hK;clear K
     try simp only [Act.put,List.setIfInBounds_toArray,List.set_cons_zero,List.set_cons_succ]
     try simp only [Act.put,List.setIfInBounds_toArray,List.set_cons_zero,List.set_cons_succ]
     refine dB 6 (v:=?_) rfl (by kernel_rfl) (fun _ _ _ h=>h) ?_ (by assumption) ?_
     rotate_left
     ·(intro w y; (try dsimp only at y); go_simp); (first | done | with_reducible rfl)
     try simp only [Act.put,List.setIfInBounds_toArray,List.set_cons_zero,List.set_cons_succ]
     try simp only [Act.put,List.setIfInBounds_toArray,List.set_cons_zero,List.set_cons_succ]
     refine dB 7 (v:=?_) rfl (by kernel_rfl) (fun _ _ _ h=>h) ?_ (by assumption) ?_
     rotate_left
     ·(intro w y; (try dsimp only at y); go_simp); (first | done | with_reducible rfl)
     try simp only [Act.put,List.setIfInBounds_toArray,List.set_cons_zero,List.set_cons_succ]
     try simp only [Act.put,List.setIfInBounds_toArray,List.set_cons_zero,List.set_cons_succ]
     refine dB 8 (v:=?_) rfl (by kernel_rfl) (fun _ _ _ h=>h) ?_ (by assumption) ?_
     rotate_left
     ·(intro w y; (try dsimp only at y); go_simp); (first | done | with_reducible rfl)
     try simp only [Act.put,List.setIfInBounds_toArray,List.set_cons_zero,List.set_cons_succ]
     try simp only [Act.put,List.setIfInBounds_toArray,List.set_cons_zero,List.set_cons_succ]
     refine dB 9 (v:=?_) rfl (by kernel_rfl) (fun _ _ _ h=>h) ?_ (by assumption) ?_
     rotate_left
     ·(intro w y; (try dsimp only at y); go_simp); (first | done | with_reducible rfl)
     try simp only [Act.put,List.setIfInBounds_toArray,List.set_cons_zero,List.set_cons_succ]
     refine wpAnyH_ready (rs:=[10]) (by kernel_rfl) (by simp) ?_;refine AllReadyH.cons (o:=⟨_,_,_,_,_,_⟩) rfl (fun K hK=>?_) AllReadyH.nil;rw [if_pos (by rfl)];go_simp
     go_at_call 70
     refine (HG.out _ HA.out.drew).mono ?_;rintro e w1 ⟨rfl,U⟩;clear J;refine hK.out _ _ ?_ (fun J=>?_)
     ·exact ⟨ξ U y0,ξ U y1,ξ U y2⟩
     clear hK;clear K
     try simp only [Act.put,List.setIfInBounds_toArray,List.set_cons_zero,List.set_cons_succ]
     try simp only [Act.put,List.setIfInBounds_toArray,List.set_cons_zero,List.set_cons_succ]
     refine dB 11 (v:=?_) rfl (by kernel_rfl) (fun _ _ _ h=>h) ?_ (by assumption) ?_
     rotate_left
     ·(intro w y; (try dsimp only at y); go_simp); (first | done | with_reducible rfl)
     try simp only [Act.put,List.setIfInBounds_toArray,List.set_cons_zero,List.set_cons_succ]
     try simp only [Act.put,List.setIfInBounds_toArray,List.set_cons_zero,List.set_cons_succ]
     refine dB 12 (v:=?_) rfl (by kernel_rfl) (fun _ _ _ h=>h) ?_ (by assumption) ?_
     rotate_left
     ·(intro w y; (try dsimp only at y); go_simp); (first | done | with_reducible rfl)
     try simp only [Act.put,List.setIfInBounds_toArray,List.set_cons_zero,List.set_cons_succ]
     try simp only [Act.put,List.setIfInBounds_toArray,List.set_cons_zero,List.set_cons_succ]
     refine dB 13 (v:=?_) rfl (by kernel_rfl) (fun _ _ _ h=>h) ?_ (by assumption) ?_
     rotate_left
     ·(intro w y; (try dsimp only at y); go_simp); (first | done | with_reducible rfl)
     try simp only [Act.put,List.setIfInBounds_toArray,List.set_cons_zero,List.set_cons_succ]
     refine bP 14 rfl (by kernel_rfl) (fun _ _ _ h=>h) (by assumption) ?_;refine bP 15 rfl (by kernel_rfl) (fun _ _ _ h=>h) (by assumption) ?_;refine bP 16 rfl (by kernel_rfl) (fun _ _ _ h=>h) (by assumption) ?_;refine bP 17 rfl (by kernel_rfl) (fun _ _ _ h=>h) (by assumption) ?_;refine bP 18 rfl (by kernel_rfl) (fun _ _ _ h=>h) (by assumption) ?_;refine bP 19 rfl (by kernel_rfl) (fun _ _ _ h=>h) (by assumption) ?_;refine bP 20 rfl (by kernel_rfl) (fun _ _ _ h=>h) (by assumption) ?_;refine bP 21 rfl (by kernel_rfl) (fun _ _ _ h=>h) (by assumption) ?_;refine bP 22 rfl (by kernel_rfl) (fun _ _ _ h=>h) (by assumption) ?_;refine bP 23 rfl (by kernel_rfl) (fun _ _ _ h=>h) (by assumption) ?_;refine bP 24 rfl (by kernel_rfl) (fun _ _ _ h=>h) (by assumption) ?_;refine bP 25 rfl (by kernel_rfl) (fun _ _ _ h=>h) (by assumption) ?_;refine bP 26 rfl (by kernel_rfl) (fun _ _ _ h=>h) (by assumption) ?_
     try simp only [Act.put,List.setIfInBounds_toArray,List.set_cons_zero,List.set_cons_succ]
     refine dB 27 (v:=?_) rfl (by kernel_rfl) (fun _ _ _ h=>h) ?_ (by assumption) ?_
     rotate_left
     ·(intro w y; (try dsimp only at y); go_simp); (first | done | with_reducible rfl)
     try simp only [Act.put,List.setIfInBounds_toArray,List.set_cons_zero,List.set_cons_succ]
     clear J;refine wpAnyH_done (by kernel_rfl) ?_ _;go_wp2;go_ret;exact ⟨aA (by rw [HK.out]; rfl),HA.out.drew.trans (U.mono HA.out.drew.size)⟩
    ·rw [hfb,Bool.true_and] at HK
     rw [hfb] at HG;obtain rfl:ru=i:=HI.out;obtain ⟨rb,ro,Rh,bl,Rb,bn,bk,rfl,-,g0,g1,g2,hrel,-⟩:=eF (aI.below HR.out HA.out) a6;have ag:=ap _ (δ a6);have aD:=η (fun (v3:Value) (am:List Nat) (w3:World) (hb:Below (w.alloc (.cells #[.string p.fact.name,.slice Ad p.fact.args.length cap,.int .i64 i,.slice Ae p.kids.length I] 43)).heap.size (w.alloc (.cells #[.string p.fact.name,.slice Ad p.fact.args.length cap,.int .i64 i,.slice Ae p.kids.length I] 43)) w3) (h3:aQ w3 [v3] (p.kids.map Pf.fact) am)=>fits_any rs[i] p.fact (p.kids.map Pf.fact) ys _ _ _ _ _ v3 vy bk b1 am b3 w3 (dL.below hrel hb) (ak.below bj.out (HA.out.trans (hb.mono HA.out.size))) h3 (au.below HY.out (HA.out.trans (hb.mono HA.out.size))) bf ag.1 ag.2);have aE:=η (fun (w':World) (hb:Below w.heap.size w w')=>Lc n p.kids _ b2 w' ((dm n).below HQ.out hb) ac.out);have aL:=η hin;have bv:(0:Int)≤(i:Int):=by omega
     have bw:(i:Int) < (rs.length:Int):=by omega
     clear a4 hrel ag hin;generalize hfit:iV rs[i] p.fact (p.kids.map Pf.fact) ys=FIT at *;generalize hal:p.kids.all (sU rs xs ys)=ALL at *;have aM:=η hal;clear hal;generalize rs[i]=q at *;clear a6 hfit
     go_enter Tryz.func37,Tryz.ntmps37
     go_wp2;generalize hW:w.alloc (.cells #[.string p.fact.name,.slice Ad p.fact.args.length cap,.int .i64 i,.slice Ae p.kids.length I] 43)=W at *;have B0:=Below.refl W.heap.size W
     go_region_held3 (fun w'=>w'.cell? ⟨w.heap.size,0,none⟩=some (.string p.fact.name)∧w'.cell? ⟨w.heap.size,1,none⟩=some (.slice Ad p.fact.args.length cap)∧w'.cell? ⟨w.heap.size,2,none⟩=some (.int .i64 i)∧w'.cell? ⟨w.heap.size,3,none⟩=some (.slice Ae p.kids.length I)∧w'.cell? ⟨rb,ro+i * 3,none⟩=some (.string q.head.name)∧w'.cell? ⟨rb,ro+i * 3+1,none⟩=some (.slice Rh q.head.args.length bl)∧w'.cell? ⟨rb,ro+i * 3+2,none⟩=some (.slice Rb q.body.length bn)) (first | go_keep | exact ⟨y0,y1,y2,y3,g0,g1,g2⟩)
      (first
       | (go_at_call 76; refine (aL.out _).mono ?_; rintro e w9 ⟨rfl,rfl⟩)
       | (go_at_call 70; (with_reducible refine Calls.mono (HG.out _ (HA.out.trans (B0.drew.mono HA.out.size))) ?_); rintro e w2 ⟨rfl,a0⟩; have B2:=B0.drew.trans (a0.mono (Below.size B0.drew)); replace y0:=ξ a0 y0; replace y1:=ξ a0 y1; replace y2:=ξ a0 y2; replace y3:=ξ a0 y3; replace g0:=ξ a0 g0; replace g1:=ξ a0 g1; replace g2:=ξ a0 g2; clear a0)
       | (go_at_call 78; (with_reducible refine Calls.mono (aE.out _ (HA.out.trans (B2.mono HA.out.size))) ?_); rintro e w3 ⟨a1,v3,am,rfl,aR⟩; have B3:=B2.trans (a1.mono (Below.size B2)); replace y0:=ξ a1 y0; replace y1:=ξ a1 y1; replace y2:=ξ a1 y2; replace y3:=ξ a1 y3; replace g0:=ξ a1 g0; replace g1:=ξ a1 g1; replace g2:=ξ a1 g2; clear a1)
       | (go_at_call 77; (with_reducible refine Calls.mono (aD.out _ _ _ B3 aR) ?_); rintro e w4 ⟨rfl,a2⟩; have B4:=B3.trans (a2.mono (Below.size B3)); replace y0:=ξ a2 y0; replace y1:=ξ a2 y1; replace y2:=ξ a2 y2; replace y3:=ξ a2 y3; replace g0:=ξ a2 g0; replace g1:=ξ a2 g1; replace g2:=ξ a2 g2; clear aR a2))
     have b4:=η (HA.out.trans (B4.mono HA.out.size));clear B2 B3 B4 B0 g0 g1 g2;cases FIT
     ·go_wp2
      go_ret;exact ⟨aA (by rw [HK.out]; rfl),b4.out⟩
     ·clear aD aE aL HG HH
      go_wp2
      go_loopw [8,9] (fun _ iv wr=>∃ k:Nat,k≤p.kids.length∧iv=.int .i64 k∧(p.kids.take k).all (sU rs xs ys)=true∧Below w.heap.size w wr∧wr.cell? ⟨w.heap.size,3,none⟩=some (.slice Ae p.kids.length I)) (fun _ i _=>p.kids.length - (intOf i).toNat)
      case atStart=>exact ⟨0,ε,rfl,rfl,b4.out,y3⟩
      case round=>
       obtain ⟨k,hk,rfl,aa,hb,z3⟩:=hrel;have HB:=η hb;have b5:=η aa;clear aa hb;by_cases a3:k < p.kids.length
       ·obtain ⟨b,o,Af,cf,Ag,cg,bq,rfl,_,d0,d1,d2,d3,b6,_⟩:=jJ ((dm n).below HQ.out HB.out) a3
        have b7:aK p.kids[k]≤16777216:=τ (Tv p (δ a3)) HS.out;have a9:=IH.out p.kids[k] _ _ _ _ (.slice (some ⟨rb,ro,none⟩) rs.length cr) vx vy bq br bx b3 wr b6 (aI.below HR.out HB.out) (au.below HX.out HB.out) (au.below HY.out HB.out) b7;have bo:(k:Int) < (p.kids.length:Int):=by omega
        have bi:(0:Int)≤(k:Int):=by omega
        have b8:Hid ((p.kids.take (k+1)).all (sU rs xs ys)=sU rs xs ys p.kids[k]):=η (by rw [ρ a3,List.all_append,b5.out]; simp);have a7:Hid (sU rs xs ys p.kids[k]=false→ALL=false):=η fun e=>by rw [← aM.out,List.all_eq_false]; exact ⟨_,δ a3,by rw [e]; simp⟩
        have b9:=η a3;generalize sU rs xs ys p.kids[k]=O at *;generalize p.kids[k]=kid at *;clear b6 b7 a3 hk;cases O
        ·have HZ:=η (a7.out rfl)
         clear a7 b8
         go_wp2_with (go_at_call 37; refine a9.mono ?_; rintro e w1 ⟨rfl,U⟩; have ao:=η (HB.out.trans (U.mono HB.out.size)); replace z3:=ξ U z3; clear a9 U)
         go_wp2;go_ret;exact ⟨aA (by rw [HK.out,HZ.out]; rfl),ao.out⟩
        ·clear a7
         go_wp2_with (go_at_call 37; refine a9.mono ?_; rintro e w1 ⟨rfl,U⟩; have ao:=η (HB.out.trans (U.mono HB.out.size)); replace z3:=ξ U z3; clear a9 U)
         go_roundw
         case rel=>exact ⟨_,_,_,_,_,_,_,_,_,_,_,_,_,_,_,_,_,_,_,⟨k+1,b9.out,by go_num,b8.out,ao.out,z3⟩,rfl⟩
         case measure=>have:=b9.out; simp [intOf]; omega
       ·have he:k=p.kids.length:=by omega
        have HZ:Hid (ALL=true):=η (by rw [← aM.out,← b5.out,he,ϕ ν]);have bo:¬ (k:Int) < (p.kids.length:Int):=by omega
        clear a3 hk he;go_wp2;go_ret;exact ⟨aA (by rw [HK.out,HZ.out]; rfl),HB.out⟩
   ·have HK:Hid (sU rs xs ys p=false):=η (af.out hin)
    have a4:(decide (0≤ru) && decide (ru≤(rs.length:Int) - 1))=false:=by rw [Bool.and_eq_false_iff,decide_eq_false_iff_not,decide_eq_false_iff_not]; omega
    have hin:=fun w'=>KE ru 0 ((rs.length:Int) - 1) w'
    rw [a4] at hin;clear IH HX HY HS HQ ac a4 ae af
    go_enter Tryz.func37,Tryz.ntmps37
    go_wp2;generalize w.alloc (.cells #[.string p.fact.name,.slice Ad p.fact.args.length cap,.int .i64 ru,.slice Ae p.kids.length I] 43)=W at *;refine wp_region_held_drew (S:=(fun w'=>w'.cell? ⟨w.heap.size,0,none⟩=some (.string p.fact.name)∧w'.cell? ⟨w.heap.size,1,none⟩=some (.slice Ad p.fact.args.length cap)∧w'.cell? ⟨w.heap.size,2,none⟩=some (.int .i64 ru))) (by kernel_rfl) ?_ (fun J=>?_)
    ·go_keep
    try simp only [Act.put,List.setIfInBounds_toArray,List.set_cons_zero,List.set_cons_succ]
    refine dB 0 (v:=?_) rfl (by kernel_rfl) (fun _ _ _ h=>h) ?_ (by assumption) ?_
    rotate_left
    ·(intro w y; (try dsimp only at y); go_simp); (first | done | with_reducible rfl)
    try simp only [Act.put,List.setIfInBounds_toArray,List.set_cons_zero,List.set_cons_succ]
    try simp only [Act.put,List.setIfInBounds_toArray,List.set_cons_zero,List.set_cons_succ]
    refine dB 1 (v:=?_) rfl (by kernel_rfl) (fun _ _ _ h=>h) ?_ (by assumption) ?_
    rotate_left
    ·(intro w y; (try dsimp only at y); go_simp); (first | done | with_reducible rfl)
    try simp only [Act.put,List.setIfInBounds_toArray,List.set_cons_zero,List.set_cons_succ]
    try simp only [Act.put,List.setIfInBounds_toArray,List.set_cons_zero,List.set_cons_succ]
    refine dB 2 (v:=?_) rfl (by kernel_rfl) (fun _ _ _ h=>h) ?_ (by assumption) ?_
    rotate_left
    ·(intro w y; (try dsimp only at y); go_simp); (first | done | with_reducible rfl)
    try simp only [Act.put,List.setIfInBounds_toArray,List.set_cons_zero,List.set_cons_succ]
    try simp only [Act.put,List.setIfInBounds_toArray,List.set_cons_zero,List.set_cons_succ]
    refine dB 3 (v:=?_) rfl (by kernel_rfl) (fun _ _ _ h=>h) ?_ (by assumption) ?_
    rotate_left
    ·(intro w y; (try dsimp only at y); go_simp); (first | done | with_reducible rfl)
    try simp only [Act.put,List.setIfInBounds_toArray,List.set_cons_zero,List.set_cons_succ]
    try simp only [Act.put,List.setIfInBounds_toArray,List.set_cons_zero,List.set_cons_succ]
    refine dB 4 (v:=?_) rfl (by kernel_rfl) (fun _ _ _ h=>h) ?_ (by assumption) ?_
    rotate_left
    ·(intro w y; (try dsimp only at y); go_simp); (first | done | with_reducible rfl)
    try simp only [Act.put,List.setIfInBounds_toArray,List.set_cons_zero,List.set_cons_succ]
    refine wpAnyH_ready (rs:=[5]) (by kernel_rfl) (by simp) ?_;refine AllReadyH.cons (o:=⟨_,_,_,_,_,_⟩) rfl (fun K hK=>?_) AllReadyH.nil;rw [if_pos (by rfl)];go_simp
    go_at_call 76
    refine (hin _).mono ?_;rintro e w' ⟨rfl,rfl⟩;clear J;refine hK.out _ _ ?_ (fun J=>?_)
    ·exact ⟨y0,y1,y2⟩
    clear hK;clear K
    try simp only [Act.put,List.setIfInBounds_toArray,List.set_cons_zero,List.set_cons_succ]
    try simp only [Act.put,List.setIfInBounds_toArray,List.set_cons_zero,List.set_cons_succ]
    refine dB 6 (v:=?_) rfl (by kernel_rfl) (fun _ _ _ h=>h) ?_ (by assumption) ?_
    rotate_left
    ·(intro w y; (try dsimp only at y); go_simp); (first | done | with_reducible rfl)
    try simp only [Act.put,List.setIfInBounds_toArray,List.set_cons_zero,List.set_cons_succ]
    try simp only [Act.put,List.setIfInBounds_toArray,List.set_cons_zero,List.set_cons_succ]
    refine dB 7 (v:=?_) rfl (by kernel_rfl) (fun _ _ _ h=>h) ?_ (by assumption) ?_
    rotate_left
    ·(intro w y; (try dsimp only at y); go_simp); (first | done | with_reducible rfl)
    try simp only [Act.put,List.setIfInBounds_toArray,List.set_cons_zero,List.set_cons_succ]
    refine bP 8 rfl (by kernel_rfl) (fun _ _ _ h=>h) (by assumption) ?_;refine bP 9 rfl (by kernel_rfl) (fun _ _ _ h=>h) (by assumption) ?_;refine bP 10 rfl (by kernel_rfl) (fun _ _ _ h=>h) (by assumption) ?_;refine bP 11 rfl (by kernel_rfl) (fun _ _ _ h=>h) (by assumption) ?_
    try simp only [Act.put,List.setIfInBounds_toArray,List.set_cons_zero,List.set_cons_succ]
    refine dB 12 (v:=?_) rfl (by kernel_rfl) (fun _ _ _ h=>h) ?_ (by assumption) ?_
    rotate_left
    ·(intro w y; (try dsimp only at y); go_simp); (first | done | with_reducible rfl)
    try simp only [Act.put,List.setIfInBounds_toArray,List.set_cons_zero,List.set_cons_succ]
    try simp only [Act.put,List.setIfInBounds_toArray,List.set_cons_zero,List.set_cons_succ]
    refine dB 13 (v:=?_) rfl (by kernel_rfl) (fun _ _ _ h=>h) ?_ (by assumption) ?_
    rotate_left
    ·(intro w y; (try dsimp only at y); go_simp); (first | done | with_reducible rfl)
    try simp only [Act.put,List.setIfInBounds_toArray,List.set_cons_zero,List.set_cons_succ]
    refine bP 14 rfl (by kernel_rfl) (fun _ _ _ h=>h) (by assumption) ?_;refine bP 15 rfl (by kernel_rfl) (fun _ _ _ h=>h) (by assumption) ?_;refine bP 16 rfl (by kernel_rfl) (fun _ _ _ h=>h) (by assumption) ?_;refine bP 17 rfl (by kernel_rfl) (fun _ _ _ h=>h) (by assumption) ?_;refine bP 18 rfl (by kernel_rfl) (fun _ _ _ h=>h) (by assumption) ?_;refine bP 19 rfl (by kernel_rfl) (fun _ _ _ h=>h) (by assumption) ?_;refine bP 20 rfl (by kernel_rfl) (fun _ _ _ h=>h) (by assumption) ?_;refine bP 21 rfl (by kernel_rfl) (fun _ _ _ h=>h) (by assumption) ?_;refine bP 22 rfl (by kernel_rfl) (fun _ _ _ h=>h) (by assumption) ?_;refine bP 23 rfl (by kernel_rfl) (fun _ _ _ h=>h) (by assumption) ?_;refine bP 24 rfl (by kernel_rfl) (fun _ _ _ h=>h) (by assumption) ?_;refine bP 25 rfl (by kernel_rfl) (fun _ _ _ h=>h) (by assumption) ?_;refine bP 26 rfl (by kernel_rfl) (fun _ _ _ h=>h) (by assumption) ?_
    try simp only [Act.put,List.setIfInBounds_toArray,List.set_cons_zero,List.set_cons_succ]
    refine dB 27 (v:=?_) rfl (by kernel_rfl) (fun _ _ _ h=>h) ?_ (by assumption) ?_
    rotate_left
    ·(intro w y; (try dsimp only at y); go_simp); (first | done | with_reducible rfl)
    try simp only [Act.put,List.setIfInBounds_toArray,List.set_cons_zero,List.set_cons_succ]
    clear J;refine wpAnyH_done (by kernel_rfl) ?_ _;go_wp2;go_ret;exact ⟨aA HK.out.symm,HA.out.drew⟩
end Go.Proofs.YtlmngncogomgeaaGreatDoor
