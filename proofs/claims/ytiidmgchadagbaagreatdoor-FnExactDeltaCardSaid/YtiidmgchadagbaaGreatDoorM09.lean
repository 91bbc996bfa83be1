/- Of the proof of FnExactDelta: Cmp, Mark, Eq, MarkPs, EqP, Args, qj. -/
import Derived.Test.YtiidmgchadagbaaGreatDoorRows
import Derived.Test.YtiidmgchadagbaaGreatDoorM06
import Derived.ProofKit
import Derived.OpenShut
import Derived.WideKeyEntry
set_option linter.unusedVariables false
set_option maxHeartbeats 2000000
namespace Go.Proofs.YtiidmgchadagbaaGreatDoor
open Go.RowKit D
attribute [local go_sem ↓] Go.wp_at_zero Go.wp_at_succ
theorem kU (a b:ByteArray) (w:World):
  Calls Tryz.prog 102 #[.string a,.string b] w fun e w'=>e=.returned (.int .i64 (fZ a b))∧w'=w:=by
 rw [← F5];exact Tryz.strings_Compare a b w
theorem MO (t u:T) (w:World):
  Calls Tryz.prog 104 #[.agg #[.bool t.var,.string t.name],.agg #[.bool u.var,.string u.name]] w fun e w'=>e=.returned (.int .i64 (fZ t.name u.name))∧Below w.heap.size w w':=by
 go_enter Tryz.func104,Tryz.ntmps104
 go_wp2_with (go_at_call 102; refine (kU _ _ _).mono ?_; rintro e w' ⟨rfl,rfl⟩)
 go_ret;exact ⟨rfl,((Below.refl _ _).alloc (Nat.le_refl _) _).alloc (by simp) _⟩
theorem zV (ts us:List T) (v1 v2:Value) (b1 b2:List Nat) (w:World) (h1:eY w [v1] ts b1) (h2:eY w [v2] us b2):
  Calls Tryz.prog 103 #[v1,v2,.func (.func 104) #[] #[]] w
   fun e w'=>e=.returned (.int .i64 (lm ts us))∧Below w.heap.size w w':=by
 obtain ⟨Ad,cap,rfl,hl,hm⟩:=af h1;obtain ⟨Ad2,cap2,rfl,hl2,hm2⟩:=af h2;have hlm:=au (Nat.le_trans hl hm);have hlm2:=au (Nat.le_trans hl2 hm2);clear hm hm2
 go_enter Tryz.func103,Tryz.ntmps103
 go_wp2
 go_loopw [13] (fun i wr=>∃ k:Nat,k≤ts.length∧k≤us.length∧i=.int .i64 k∧lm ts us=lm (ts.drop k) (us.drop k)∧Below w.heap.size w wr) (fun i _=>ts.length - (intOf i).toNat)
 case atStart=>exact ⟨0,Nat.zero_le _,Nat.zero_le _,rfl,rfl,Below.refl _ _⟩
 case round=>
  obtain ⟨k,hk,hk2,rfl,hc,hb⟩:=hrel;have HC:=η hc;clear hc;by_cases hlt:k < ts.length
  ·obtain ⟨b,o,rfl,_,c0,c1,_⟩:=dV (aH.below h1 hb) hlt
   have hA:Below wr.heap.size wr (wr.alloc (.cells #[.bool ts[k].var,.string ts[k].name] 109)):=(Below.refl _ _).alloc (Nat.le_refl _) _;by_cases hlt2:k < us.length
   ·obtain ⟨b',o',rfl,_,d0,d1,_⟩:=dV (aH.below h2 (hb.trans (hA.mono hb.size))) hlt2
    have HS:=η (vP hlt hlt2);clear h1 h2
    go_wp2_with fail
    refine (MO ts[k] us[k] _).mono ?_;rintro e w' ⟨rfl,hb'⟩;have B':Below w.heap.size w w':=(((hb.alloc hb.size _).alloc (by have:=hb.size; simp; omega) _)).trans (hb'.mono (by have:=hb.size; simp; omega));by_cases hz:fZ ts[k].name us[k].name=0
    ·have hz':(fZ ts[k].name us[k].name == 0)=true:=by simp [hz]
     have HZ:=η hz;clear hz hA;go_wp2;go_roundw
     case rel=>exact ⟨k+1,by omega,by omega,by go_num,by rw [HC.out,HS.out,if_pos HZ.out],B'⟩
     case measure=>simp [intOf]; omega
    ·have hz':(fZ ts[k].name us[k].name == 0)=false:=by simp [hz]
     have HZ:=η hz;clear hz hA;go_wp2;go_ret;exact ⟨eF (by rw [HC.out,HS.out,if_neg HZ.out]),B'⟩
   ·clear h1 h2
    have HS:=η (vS hlt (Nat.le_of_not_lt hlt2));go_wp2;go_ret;exact ⟨eF (by rw [HC.out,HS.out]),hb.trans (hA.mono hb.size)⟩
  ·have he:ts.length≤k:=by omega
   by_cases hlt2:k < us.length
   ·have HS:=η (vT he hlt2)
    have hx:ts.length < us.length:=by omega
    go_wp2;go_ret;exact ⟨eF (by rw [HC.out,HS.out]),hb⟩
   ·have HS:=η (vU he (Nat.le_of_not_lt hlt2))
    have hx:¬ ts.length < us.length:=by omega
    go_wp2;go_ret;exact ⟨eF (by rw [HC.out,HS.out]),hb⟩
theorem uZ (a b:A) (c0 c1 d0 d1:Value) (b1 b2:List Nat) (w:World) (h1:aU w [c0,c1] a b1) (h2:aU w [d0,d1] b b2):
  Calls Tryz.prog 65 #[.agg #[c0,c1],.agg #[d0,d1]] w fun e w'=>e=.returned (.int .i64 (bQ a b))∧Below w.heap.size w w':=by
 obtain ⟨Ad,cap,rfl,rfl⟩:=bJ h1;obtain ⟨Ae,cape,rfl,rfl⟩:=bJ h2;have hq:=fun w' (hb:Below w.heap.size w w')=>zV a.args b.args (.slice Ad a.args.length cap) (.slice Ae b.args.length cape) b1 b2 w' (eH (aj.below h1 hb)) (eH (aj.below h2 hb))
 have hc:bQ a b=if fZ a.name b.name=0 then lm a.args b.args else fZ a.name b.name:=rfl
 have HC:=η hc;clear h1 h2 hc;have hA:=((Below.refl w.heap.size w).alloc (Nat.le_refl _) (.cells #[.string a.name,.slice Ad a.args.length cap] 68)).alloc (by simp) (.cells #[.string b.name,.slice Ae b.args.length cape] 68);by_cases hz:fZ a.name b.name=0
 ·have hz':(fZ a.name b.name != 0)=false:=by simp [hz]
  have HZ:=η hz;clear hz
  go_enter Tryz.func65,Tryz.ntmps65
  go_wp2_with (go_at_call 102; refine (kU _ _ _).mono ?_; rintro e w' ⟨rfl,rfl⟩)
  refine (hq _ hA).mono ?_;rintro e w' ⟨rfl,hb'⟩;go_wp2;go_ret;exact ⟨eF (by rw [HC.out,if_pos HZ.out]),hA.trans (hb'.mono hA.size)⟩
 ·have hz':(fZ a.name b.name != 0)=true:=by simp [hz]
  have HZ:=η hz;clear hz
  go_enter Tryz.func65,Tryz.ntmps65
  go_wp2_with (go_at_call 102; refine (kU _ _ _).mono ?_; rintro e w' ⟨rfl,rfl⟩)
  go_ret;exact ⟨eF (by rw [HC.out,if_neg HZ.out]),hA⟩
theorem DW (ts:List T) (v:Value) (bs:List Nat) (k:Nat) (w:World) (h:eY w [v] (nY ts k) bs) (hk:k+2 * ts.length≤1000000000000):
  Calls Tryz.prog 42 #[v,.int .i64 k] w (Held (k+2 * ts.length) w):=by
 obtain ⟨Ad,cap,rfl,hl,hm⟩:=af h;have hzl:=uX ts k;rw [hzl] at h hl ⊢;clear hm hl
 go_enter Tryz.func42,Tryz.ntmps42
 go_wp2
 go_loopw [1,5] (fun q j wr=>∃ i:Nat,i≤ts.length∧j=.int .i64 i∧q=.int .i64 (k+2 * i:Nat)∧Below w.heap.size w wr) (fun _ j _=>ts.length - (intOf j).toNat)
 case atStart=>exact ⟨0,Nat.zero_le _,rfl,rfl,Below.refl _ _⟩
 case round=>
  obtain ⟨i,hi,rfl,rfl,hb⟩:=hrel;by_cases hlt:i < ts.length
  ·obtain ⟨b,o,rfl,_,c0,c1,hnm⟩:=dV (aH.below h hb) (k:=i) (by rw [hzl]; exact hlt)
   rw [O5 hlt] at c0 c1;clear h hzl hnm;have hlt':(i:Int) < (ts.length:Int):=by omega
   have hk0:(0:Int)≤(i:Int):=by omega
   obtain ⟨q,hq⟩:∃ q,q=k+2 * i:=⟨_,rfl⟩;rw [← hq] at c0 c1 ⊢;have hq1:q+1≤1000000000000:=by omega
   have HQ:=η hq;clear hq;dsimp only [mkT] at c0 c1;have d0:(0:Int)≤(q:Int)+1:=by omega
   have hx:((q:Int) % 3 == 0)=decide (q % 3=0):=by
    rw [Bool.eq_iff_iff,beq_iff_eq,decide_eq_true_eq]; omega
   rw [← hx] at c0;clear hx;go_wp2
   go_region_held3 (fun w'=>w'.cell? ⟨b,o+i * 2+1,none⟩=some (.string (aW (q+1)))) (first | go_keep | exact cell_later hw2 c1)
    (first | (go_at_call 39; refine (jX (q+1) _ (by omega)).mono ?_; rintro e w2 ⟨rfl,hw2⟩))
   have B2:=hb.trans (((Below.refl _ _).drew.trans hw2).mono hb.size);go_wp2;go_roundw
   case rel=>exact ⟨i+1,by omega,by go_num,by have:=HQ.out; go_num,B2⟩
   case measure=>simp [intOf]; omega
  ·have he:i=ts.length:=by omega
   subst he;go_wp2;go_ret;exact ⟨rfl,hb⟩
theorem wz (a:A) (c0 c1:Value) (bs:List Nat) (left:Int) (w:World) (h:aU w [c0,c1] a bs) (h0:0≤left) (h1:left≤1048576):
  Calls Tryz.prog 30 #[.agg #[c0,c1],.int .i64 left] w (Left left (jm a) w.heap.size w):=by
 obtain ⟨s1,hcs,hnm,ht⟩:=h;simp only [List.cons.injEq,and_true] at hcs;obtain ⟨rfl,rfl⟩:=hcs;have hq:=fun w' (hb:Below w.heap.size w w') (h0:0≤left - (a.name.size:Int))=>IJ a.args c1 bs (left - (a.name.size:Int)) w' (aH.below ht hb) h0 (by omega)
 have hbk:jm a=a.name.size+a.args.length+iT a.args:=rfl;have HB:=η hbk;have hnm':=au hnm;clear ht hbk hnm
 go_enter Tryz.func30,Tryz.ntmps30
 go_wp2_with fail
 ·go_ret
  exact ⟨(Below.refl _ _).alloc (Nat.le_refl _) _,_,rfl,.inl rfl⟩
 ·refine (hq _ ((Below.refl _ _).alloc (Nat.le_refl _) _) (by assumption)).mono ?_
  rintro e w' ⟨hb',r,rfl,hr⟩;have hB:Below w.heap.size w w':=((Below.refl _ _).alloc (Nat.le_refl _) _).trans (hb'.mono (by simp));go_wp2
  ·rcases hr with rfl | ⟨_,_⟩
   ·go_ret
    exact ⟨hB,_,rfl,.inl rfl⟩
   ·exfalso; omega
  ·rcases hr with rfl | ⟨hr0,hr1⟩
   ·exfalso; omega
   ·go_ret
    have:=HB.out;exact ⟨hB,_,rfl,.inr ⟨hr0,by omega⟩⟩
theorem MP (a : A) (c0 c1 : Value) (bs : List Nat) (w : World) (h : aU w [c0, c1] a bs) (hn : a.args.length ≤ 1048576) :
    Calls Tryz.prog 34 #[.agg #[c0, c1]] w (vJ aU a w.heap.size w) := by
  obtain ⟨s1, hcs, hnm, ht⟩ := h;simp only [List.cons.injEq, and_true] at hcs;obtain ⟨rfl, rfl⟩ := hcs;have hq := fun w' (hb : Below w.heap.size w w') => IK a.args c1 bs w' (aH.below ht hb) hn
  clear ht
  go_enter Tryz.func34, Tryz.ntmps34
  go_wp2_with fail
  refine (hq _ (by repeat (first | exact Below.refl _ _ | (refine Below.setCell ?_ (by first | (simp; done) | (simp; omega)) _) | (refine Below.alloc ?_ (by first | (simp; done) | (simp; omega)) _)))).mono ?_;rintro e w' ⟨hb', v, bs', rfl, hR, hN⟩;obtain ⟨Ad, cap, rfl, _, _⟩ := af hR;have hB : Below w.heap.size w w' := Below.trans (by repeat (first | exact Below.refl _ _ | (refine Below.setCell ?_ (by first | (simp; done) | (simp; omega)) _) | (refine Below.alloc ?_ (by first | (simp; done) | (simp; omega)) _))) (hb'.mono (by first | (simp; done) | (simp; omega)));have k0 : w'.cell? ⟨w.heap.size + 1 + 1, 0, none⟩ = some (.string a.name) := cell_later hb' (by go_simp);have k1 : w'.cell? ⟨w.heap.size + 1 + 1, 1, none⟩ = some (.slice none 0 0) := cell_later hb' (by go_simp);have k2 : w'.cell? ⟨w.heap.size + 1, 0, none⟩ = some (.string ⟨#[]⟩) := cell_later hb' (by go_simp);have k3 : w'.cell? ⟨w.heap.size + 1, 1, none⟩ = some (.slice none 0 0) := cell_later hb' (by go_simp)
  have f0 : w'.frozen? ⟨w.heap.size + 1 + 1, 1, none⟩ = false := (hb'.frozen (p := ⟨w.heap.size + 1 + 1, 1, none⟩) (by simp)).trans (by go_simp);have f1 : w'.frozen? ⟨w.heap.size + 1, 0, none⟩ = false := (hb'.frozen (p := ⟨w.heap.size + 1, 0, none⟩) (by simp)).trans (by go_simp);have f2 : w'.frozen? ⟨w.heap.size + 1, 1, none⟩ = false := (hb'.frozen (p := ⟨w.heap.size + 1, 1, none⟩) (by simp)).trans (by go_simp);have hge : ∀ b ∈ bs', w.heap.size + 1 + 1 < b := fun b hb => by have := (hN.own b hb).1; simp at this; omega
  go_wp2
  exact bodyPost_ret (v := .agg #[.string a.name, .slice Ad a.args.length cap]) (by simp [results, Tryz.results34, go_sem, k2, k3]) rfl
    ⟨((hB.setCell (by simp; omega) _).setCell (by simp) _).setCell (by simp) _, _, bs', rfl,
      ⟨_, rfl, hnm, aH.keep hR fun b hb => by have := hge b hb; rw [Below.heap_setCell _ _ _ _ (by simp; omega), Below.heap_setCell _ _ _ _ (by simp; omega), Below.heap_setCell _ _ _ _ (by simp; omega)]⟩,
      (hN.keep fun b hb => by have := hge b hb; rw [Below.heap_setCell _ _ _ _ (by simp; omega), Below.heap_setCell _ _ _ _ (by simp; omega), Below.heap_setCell _ _ _ _ (by simp; omega)]).mono (by simp; omega)⟩
theorem DX (ts:List Pt) (v:Value) (bs:List Nat) (k B:Nat) (w:World) (h:gm w [v] ts bs) (hN:New B w bs) (hk:k+bI qM ts≤1000000000000):
  Calls Tryz.prog 41 #[v,.int .i64 k] w (Marked gm [v] (LP ts k) bs (k+bI qM ts) B w):=by
 obtain ⟨Ad,cap,rfl,hl,hm⟩:=af h;have hlen:ts.length≤1000000000000:=Nat.le_trans (wZ qM Rl ts) (by omega);clear hm
 go_enter Tryz.func41,Tryz.ntmps41
 go_wp2
 go_loopw [1,5] (fun q j wr=>∃ (i:Nat) (ys:List Pt),i≤ts.length∧j=.int .i64 i∧q=.int .i64 (k+bI qM (ts.take i):Nat)∧ys=kN WM qM ts k i∧gm wr [.slice Ad ts.length cap] ys bs∧New B wr bs∧bU bs w wr) (fun _ j _=>ts.length - (intOf j).toNat)
 case atStart=>exact ⟨0,ts,Nat.zero_le _,rfl,rfl,rfl,h,hN,bU.refl _ _⟩
 case round=>
  obtain ⟨i,ys,hi,rfl,rfl,hy,hT,hNr,hK⟩:=hrel;clear h hN;by_cases hlt:i < ts.length
  ·have HLT:=η hlt
   have hle:ys.length=ts.length:=by rw [hy,kF]
   have hey:ys[i]'(by omega)=ts[i]:=by subst hy; exact uI hlt
   have HS:=η (oV (mk:=WM) (cnt:=qM) (k:=k) hlt);have hsn:=jG qM ts i hlt;have hle2:=mg qM ts i hlt;have HY:=η hy;clear hy;obtain ⟨b,o,cs,bk,rfl,hb,hbk,hnd,hsub,hcs,hcell,hat,hput⟩:=oU nX hT hNr.nodup (k:=i) (by omega);rw [hey] at hat;obtain ⟨s,rfl,_,ht⟩:=hat;obtain ⟨u0,c0⟩:∃ u,wr.cell? ⟨b,o+i * 3,none⟩=some u:=⟨_,hcell 0 _ rfl⟩;obtain ⟨u1,c1⟩:∃ u,wr.cell? ⟨b,o+i * 3+1,none⟩=some u:=⟨_,by have:=hcell 1 _ rfl; rwa [← Nat.add_assoc] at this⟩;have c2:wr.cell? ⟨b,o+i * 3+2,none⟩=some s:=by have:=hcell 2 _ rfl; rwa [← Nat.add_assoc] at this
   have hWb:=hNr.VO b hb;have f0:=hWb.frozen (o+i * 3);have f1:=hWb.frozen (o+i * 3+1);have hbl:=hNr.lt hb;generalize ts[i]=a at *;have hca:qM a=2+2 * a.atom.args.length:=rfl;have HP:=η hput;have HL:=η hle;have HN:=η hNr;have HSN:=η hsn;clear hcell hput hT hcs hle hNr hey hsn hWb;obtain ⟨q,hq⟩:∃ q,q=k+bI qM (ts.take i):=⟨_,rfl⟩;rw [← hq] at HS ⊢;have hq9:q+2+2 * a.atom.args.length≤1000000000000:=by omega
   have hq1:(q:Int)+2≤1000000000000:=by omega
   have hq2:q+1≤1000000000000:=by omega
   have HQ:=η hq;have HC:=η hca;clear hq hle2 hca
   go_wp2_with fail
   refine (jX (q+1) _ (by omega)).mono ?_;rintro e w2 ⟨rfl,hb2⟩
   have hdx:((q:Int) % 3 == 0)=decide (q % 3=0):=by
    rw [Bool.eq_iff_iff,beq_iff_eq,decide_eq_true_eq]; omega
   rw [hdx] at hb2;have HDX:=η hdx;clear hdx;generalize hw1:wr.setCell ⟨b,o+i * 3,none⟩ (.bool (decide (q % 3=0)))=w1 at *;have hK1:bU bs wr w1:=by rw [← hw1]; exact (bU.refl bs wr).setCell hb _
   have hN1:New B w1 bs:=by rw [← hw1]; exact HN.out.set _ _
   have k0:w1.cell? ⟨b,o+i * 3,none⟩=some (.bool (decide (q % 3=0))):=by rw [← hw1]; exact World.cell?_setCell_same' wr ⟨b,o+i * 3,none⟩ _ (by rw [c0]; rfl)
   have k1:w1.cell? ⟨b,o+i * 3+1,none⟩=some u1:=by rw [← hw1]; exact dK c1 (by omega)
   have k2:w1.cell? ⟨b,o+i * 3+2,none⟩=some s:=by rw [← hw1]; exact dK c2 (by omega)
   have kf:w1.frozen? ⟨b,o+i * 3+1,none⟩=false:=by rw [← hw1,World.frozen?_setCell]; exact f1
   have hother:∀ p v,wr.cell? ⟨b,o+p,none⟩=some v→(p < i * 3∨i * 3+3≤p)→w1.cell? ⟨b,o+p,none⟩=some v:=fun p v hv hp=>by rw [← hw1]; exact dK hv (by omega)
   have hblk1:∀ c,c ≠ b→w1.heap[c]? = wr.heap[c]?:=fun c hne=>by rw [← hw1]; exact Below.heap_setCell _ _ _ _ hne
   have hbl1:b < w1.heap.size:=hN1.lt hb;have g1:w2.cell? ⟨b,o+i * 3+1,none⟩=some u1:=cell_later hb2 k1;have g2:w2.cell? ⟨b,o+i * 3+2,none⟩=some s:=cell_later hb2 k2;have f2:w2.frozen? ⟨b,o+i * 3+1,none⟩=false:=(hb2.frozen (p:=⟨b,o+i * 3+1,none⟩) hbl1).trans kf
   have ht2:eY w2 [s] a.atom.args bk:=aH.keep ht fun c hc=>by
    have hcb:c ≠ b:=fun e=>hbk (by rw [← e]; exact hc)
    rw [hb2.block c (hN1.lt (hsub c hc)),hblk1 c hcb]
   have HT2:=η ht2;have HOT:=η hother;have HBK:=η hblk1;obtain ⟨Ae,ce,rfl,_⟩:=af ht;have HK0:=η (cell_later hb2 k0);clear ht ht2 c0 c1 c2 f0 f1 hother hblk1 hw1 k0 k1 k2 kf;have g3:(w2.setCell ⟨b,o+i * 3+1,none⟩ (.string (aW (q+1)))).cell? ⟨b,o+i * 3+2,none⟩=some (.slice Ae a.atom.args.length ce):=dK g2 (by omega);have hN2:New B (w2.setCell ⟨b,o+i * 3+1,none⟩ (.string (aW (q+1)))) bs:=(hN1.below hb2).set _ _;have hmt:=pK a.atom.args _ bk (q+2) B _ (aH.keep HT2.out fun c hc=>Below.heap_setCell w2 ⟨b,o+i * 3+1,none⟩ (.string (aW (q+1))) _ fun e=>hbk (by rw [← (show c=b from e)]; exact hc)) (hN2.sub hnd hsub) hq9;have g4:(w2.setCell ⟨b,o+i * 3+1,none⟩ (.string (aW (q+1)))).cell? ⟨b,o+i * 3+1,none⟩=some (.string (aW (q+1))):=World.cell?_setCell_same' _ _ _ (by rw [g1]; rfl);have g5:(w2.setCell ⟨b,o+i * 3+1,none⟩ (.string (aW (q+1)))).cell? ⟨b,o+i * 3,none⟩=some (.bool (decide (q % 3=0))):=dK HK0.out (by omega)
   have hk2:bU bs wr (w2.setCell ⟨b,o+i * 3+1,none⟩ (.string (aW (q+1)))):=(hK1.trans (bU.of_below hb2)).setCell hb _;have hrest:∀ p v,wr.cell? ⟨b,o+p,none⟩=some v→(p < i * 3∨i * 3+3≤p)→(w2.setCell ⟨b,o+i * 3+1,none⟩ (.string (aW (q+1)))).cell? ⟨b,o+p,none⟩=some v:=fun p v hv hp=>dK (cell_later hb2 (HOT.out p v hv hp)) (by omega)
   have hblk:∀ c ∈ bs,c ≠ b→(w2.setCell ⟨b,o+i * 3+1,none⟩ (.string (aW (q+1)))).heap[c]? = wr.heap[c]?:=fun c hc hne=>by rw [Below.heap_setCell _ _ _ _ hne,hb2.block c (hN1.lt hc),HBK.out c hne]
   have HR:=η hrest;have HB:=η hblk;clear hrest hblk hN1 hK1
   go_wp2_with fail
   generalize hw3:w2.setCell ⟨b,o+i * 3+1,none⟩ (.string (aW (q+1)))=w3 at *;clear hw3;refine hmt.mono ?_;rintro e w4 ⟨rfl,hR4,hN4,hK4⟩
   have R:=HP.out w4 [.bool (decide (q % 3=0)),.string (aW (q+1)),.slice Ae a.atom.args.length ce] (WM a q) rfl
    (fun j v hv=>by
     match j,hv with
     | 0,hv=>
      simp only [List.getElem?_cons_zero,Option.some.injEq] at hv;subst hv;rw [Nat.add_zero];exact hK4.cell hbk g5
     | 1,hv=>
      simp only [List.getElem?_cons_succ,List.getElem?_cons_zero,Option.some.injEq] at hv;subst hv;rw [← Nat.add_assoc];exact hK4.cell hbk g4
     | 2,hv=>
      simp only [List.getElem?_cons_succ,List.getElem?_cons_zero,Option.some.injEq] at hv;subst hv;rw [← Nat.add_assoc];exact hK4.cell hbk g3
     | j+3,hv=>simp at hv)
    (fun p v hv hp=>hK4.cell hbk (HR.out p v hv hp))
    (fun c hc hne hnb=>by rw [hK4.block c (hN2.lt hc) hnb,HB.out c hc hne])
    ⟨_,rfl,l9 (k:=q+1) (by omega),hR4⟩
   rw [HY.out,HS.out] at R;have hN5:New B w4 bs:=hN2.mix hN4 hK4;have hK5:bU bs w w4:=hK.trans (hk2.trans (hK4.mono hsub));clear HP HN HR HB hmt g1 g2 f2 g3 g4 g5 hK4 hN4 hN2 hk2 hR4 HY HS HT2 HOT HBK HK0 HDX
   go_wp2_with fail
   go_roundw
   case rel=>exact ⟨i+1,_,HLT.out,by go_num,by have:=HQ.out; have:=HSN.out; have:=HC.out; go_num,rfl,R,hN5,hK5⟩
   case measure=>have:=HLT.out; simp [intOf]; omega
  ·have he:i=ts.length:=by omega
   subst he;have HY:Hid (ys=LP ts k):=η (by rw [hy,qL]; rfl);have HT:Hid (ts.take ts.length=ts):=η (List.take_of_length_le (Nat.le_refl _));clear hy;go_wp2;go_ret;exact ⟨by rw [HT.out]; rfl,by rw [← HY.out]; exact hT,hNr,hK⟩
theorem Jb (p:Pt) (c0 c1 c2 d0 d1 d2:Value) (b1 b2:List Nat) (w:World) (h1:oN w [c0,c1,c2] p b1) (h2:oN w [d0,d1,d2] p b2):
  Calls Tryz.prog 106 #[.agg #[c0,c1,c2],.agg #[d0,d1,d2]] w (Yes w.heap.size w):=by
 have a1:=gK h1;have a2:=gK h2;obtain ⟨Ad,cap,rfl,rfl,rfl⟩:=oP h1;obtain ⟨Ae,cape,rfl,rfl,rfl⟩:=oP h2;have hq:=fun w' (hb:Below w.heap.size w w')=>sH p.atom _ _ _ _ b1 b2 w' (aj.below a1 hb) (aj.below a2 hb)
 clear h1 h2 a1 a2;have hA:=((Below.refl w.heap.size w).alloc (Nat.le_refl _) (.cells #[.bool p.no,.string p.atom.name,.slice Ad p.atom.args.length cap] 111)).alloc (by simp) (.cells #[.bool p.no,.string p.atom.name,.slice Ae p.atom.args.length cape] 111)
 go_enter Tryz.func106,Tryz.ntmps106
 go_wp2_with fail
 refine (hq _ hA).mono ?_;rintro e w' ⟨rfl,hb'⟩;go_wp2;go_ret;exact ⟨rfl,hA.trans (hb'.mono hA.size)⟩
theorem Gs (ts:List Pt) (v1 v2:Value) (b1 b2:List Nat) (w:World) (h1:gm w [v1] ts b1) (h2:gm w [v2] ts b2):
  Calls Tryz.prog 68 #[v1,v2] w (Yes w.heap.size w):=by
 obtain ⟨Ad,cap,rfl,hl,hm⟩:=af h1;obtain ⟨Ad2,cap2,rfl,hl2,hm2⟩:=af h2;have hlm:=au (Nat.le_trans hl hm);clear hm hm2
 go_enter Tryz.func68,Tryz.ntmps68
 go_wp2
 go_loopw [5] (fun i wr=>∃ k:Nat,k≤ts.length∧i=.int .i64 k∧Below w.heap.size w wr) (fun i _=>ts.length - (intOf i).toNat)
 case atStart=>exact ⟨0,Nat.zero_le _,rfl,Below.refl _ _⟩
 case round=>
  obtain ⟨k,hk,rfl,hb⟩:=hrel;by_cases hlt:k < ts.length
  ·obtain ⟨b,o,Ae,ce,bk,rfl,_,c0,c1,c2,hel,_⟩:=gJ (aY.below h1 hb) hlt
   obtain ⟨b',o',Ae',ce',bk',rfl,_,d0,d1,d2,hel',_⟩:=gJ (aY.below h2 hb) hlt;clear h1 h2;have H1:=η (nX.below hel (Below.drew (Below.refl _ _)));have H2:=η (nX.below hel' (Below.drew (Below.refl _ _)));have hlt':(k:Int) < (ts.length:Int):=by omega
   have hk0:(0:Int)≤(k:Int):=by omega
   clear hel hel';go_wp2
   go_region_held3 (fun w'=>w'.cell? ⟨b,o+k * 3,none⟩=some (.bool ts[k].no)∧w'.cell? ⟨b,o+k * 3+1,none⟩=some (.string ts[k].atom.name)∧w'.cell? ⟨b,o+k * 3+2,none⟩=some (.slice Ae ts[k].atom.args.length ce)∧w'.cell? ⟨b',o'+k * 3,none⟩=some (.bool ts[k].no)∧w'.cell? ⟨b',o'+k * 3+1,none⟩=some (.string ts[k].atom.name)∧w'.cell? ⟨b',o'+k * 3+2,none⟩=some (.slice Ae' ts[k].atom.args.length ce')) (first | go_keep | exact ⟨cell_later hb' c0,cell_later hb' c1,cell_later hb' c2,cell_later hb' d0,cell_later hb' d1,cell_later hb' d2⟩)
    (first | (go_at_call 106; refine (Jb ts[k] _ _ _ _ _ _ bk bk' _ H1.out H2.out).mono ?_; rintro e w' ⟨rfl,hb'⟩))
   go_wp2;go_roundw
   case rel=>exact ⟨k+1,by omega,by go_num,hb.trans ((Below.drew (Below.refl _ _)).trans (hb'.mono hb.size))⟩
   case measure=>simp [intOf]; omega
  ·have he:k=ts.length:=by omega
   subst he;go_wp2;go_ret;exact ⟨rfl,hb⟩
end Go.Proofs.YtiidmgchadagbaaGreatDoor
namespace Go.Proofs.YtiidmgchadagbaaGreatDoor
open Go.RowKit D Go.ChangeShapes Go.WideShapes
theorem own:ownKnob Tryz.prog.godebug=none:=by kernel_rfl
theorem laidOut:laidOutB Tryz.prog=true:=by kernel_rfl
theorem Gt {α:Type} {P:Program} {t:TypeId} {R:Rel α} (hO:Opens P t R) {H:Type} {enc:TypeId × Value→H} {w:World} {spare:Nat→Bool} {held:Bool} {v:Value} {d:DataW H} {ps:List MemPlace}
  (h:DataW.Trod enc P w 0 spare held t v d ps):∃ x bs,R w v.cells.toList x bs:=by
 obtain ⟨fuel,hf⟩:=h;exact hO H enc w spare held fuel _ _ hf
theorem WU {cs:Array Value} {n:Nat} (h:cs.size=n) (hn:n=2):∃ a b,cs=#[a,b]:=by
 obtain ⟨l⟩:=cs;subst hn
 match l,h with
 | [a,b],_=>exact ⟨a,b,rfl⟩
theorem VY:Opens Tryz.prog 131 nD:=Me Tryz.underlying131 (by kernel_rfl) Tryz.underlying4 Tryz.underlying9 (by kernel_rfl) (by kernel_rfl) rfl rfl
theorem UW:Opens Tryz.prog 54 eY:=pq Tryz.underlying54 (by kernel_rfl) (by omega) VY
theorem MQ:Opens Tryz.prog 56 aU:=MC Tryz.underlying56 (by kernel_rfl) Tryz.underlying9 UW (by kernel_rfl) (by kernel_rfl) rfl rfl
theorem Gu:Opens Tryz.prog 23 aI:=pq Tryz.underlying23 (by kernel_rfl) (by omega) MQ
theorem VZ:Opens Tryz.prog 129 oN:=MF Tryz.underlying129 (by kernel_rfl) Tryz.underlying4 MQ (by kernel_rfl) (by kernel_rfl) rfl rfl
theorem UX:Opens Tryz.prog 57 gm:=pq Tryz.underlying57 (by kernel_rfl) (by omega) VZ
theorem V3:Opens Tryz.prog 59 jK:=MG Tryz.underlying59 (by kernel_rfl) MQ UX (by kernel_rfl) (by kernel_rfl) rfl rfl
theorem UY:Opens Tryz.prog 22 dO:=pq Tryz.underlying22 (by kernel_rfl) (by omega) V3
theorem Sl:Opens Tryz.prog 43 dU:=Gp Tryz.underlying43 (by kernel_rfl) Gu Gu (by kernel_rfl) (by kernel_rfl) rfl rfl
end Go.Proofs.YtiidmgchadagbaaGreatDoor
namespace Go.Proofs.YtiidmgchadagbaaGreatDoor
open Go.RowKit Go.ChangeMaps Go.MapKept D
structure D.qj (S:Value→Prop) (b:Nat) (L:List (Value × Value × Nat)) (c:Nat) (w:World):Prop where
 blk:∃ es,w.heap[b]? = some (.map es c)∧es.toList.map (fun e=>(e.key,e.val,e.born))=L
 keys:∀ p ∈ L,S p.1
 once:L.Pairwise fun p q=>p.1 ≠ q.1
 nums:(L.map fun p=>p.2.2).Nodup
 less:∀ p ∈ L,p.2.2 < c
section
variable {P:Program} {kt:TypeId} {W:World→Prop} {S:Value→Prop}
theorem D.qj.same {b c:Nat} {L:List (Value × Value × Nat)} {w w':World} (h:qj S b L c w) (e:w'.heap[b]? = w.heap[b]?):qj S b L c w':=by
 obtain ⟨⟨es,h1,h2⟩,h3,h4,h5,h6⟩:=h;exact ⟨⟨es,e.trans h1,h2⟩,h3,h4,h5,h6⟩
theorem D.qj.lt {b c:Nat} {L:List (Value × Value × Nat)} {w:World} (h:qj S b L c w):b < w.heap.size:=by
 obtain ⟨⟨es,h1,h2⟩,h3,h4,h5,h6⟩:=h;exact (Array.getElem?_eq_some_iff.1 h1).1
theorem D.qj.WV {b c:Nat} {L:List (Value × Value × Nat)} {w:World} (h:qj S b L c w):nK S b (L.map fun p=>(p.1,p.2.1)) w:=by
 obtain ⟨⟨es,h1,h2⟩,h3,h4,h5,h6⟩:=h;refine ⟨⟨es,c,h1,?_⟩,?_,?_⟩
 ·rw [← h2,List.map_map]; rfl
 ·intro p hp
  obtain ⟨q,hq,rfl⟩:=List.mem_map.1 hp;exact h3 q hq
 ·exact List.pairwise_map.2 h4
theorem D.qj.made (w:World):qj S w.heap.size [] 0 (w.alloc (.map #[] 0)):=
 ⟨⟨#[],(MapKept.heap_alloc w _).1,rfl⟩,fun p h=>by simp at h,List.Pairwise.nil,List.nodup_nil,fun p h=>by simp at h⟩
theorem D.EL {α:Type} {A B:List α} {p:α}:(A ++ p :: B)[A.length]? = some p:=by simp
theorem Gv (hK:IQ P kt W S) {w:World} (hW:W w) {t e:TypeId} (ht:P.underlying t=some (.map kt e)) {b c:Nat} {L:List (Value × Value × Nat)} {k z:Value} (h:qj S b L c w)
  (hz:(zeroValue e).run P w=.ok z w) (hS:S k) (hk:∀ p ∈ L,p.1 ≠ k):
  ∃ w',(Instr.mapEntry t (.map (some b)) k).run P w=.ok (.tuple #[z,goInt c]) w'∧qj S b (L ++ [(k,z,c)]) (c+1) w'∧w.grownBy w' (some b):=by
 obtain ⟨⟨es,hb,rfl⟩,h2,h3,h4,h5⟩:=h;have hSs:∀ e ∈ es.toList,S e.key:=fun e he=>h2 (e.key,e.val,e.born) (List.mem_map.2 ⟨e,he,rfl⟩)
 rcases lW hK hW hS es.toList hSs with ⟨h6,h7⟩ | ⟨i,e1,h6,h7,h8⟩
 ·refine ⟨setBlock w b (.map (es.push ⟨k,z,c⟩) (c+1)),?_,⟨⟨_,heap_setBlock_same hb _,by simp⟩,?_,?_,?_,?_⟩,lC hb _⟩
  ·simp [Instr.mapEntry,run_underlying ht,MapKept.run_getObj_map hb,hK.check w false hS,h6,hz,MapKept.run_setObj_map _ hb,Result.andThen,setBlock]
  ·intro p hp
   rcases List.mem_append.1 hp with hp | hp
   ·exact h2 p hp
   ·rw [List.mem_singleton.1 hp]; exact hS
  ·refine List.pairwise_append.2 ⟨h3,List.pairwise_singleton _ _,fun p hp q hq=>?_⟩
   rw [List.mem_singleton.1 hq];exact hk p hp
  ·rw [List.map_append]
   refine List.nodup_append.2 ⟨h4,by simp,fun x hx y hy=>?_⟩;obtain ⟨p,hp,rfl⟩:=List.mem_map.1 hx;have:=h5 p hp;simp at hy;omega
  ·intro p hp
   rcases List.mem_append.1 hp with hp | hp
   ·exact Nat.lt_succ_of_lt (h5 p hp)
   ·rw [List.mem_singleton.1 hp]; exact Nat.lt_succ_self _
 ·exact absurd h8 (hk (e1.key,e1.val,e1.born) (List.mem_map.2 ⟨e1,List.mem_of_getElem? h7,rfl⟩))
theorem Gw (hK:IQ P kt W S) {w:World} (hW:W w) {t e:TypeId} (ht:P.underlying t=some (.map kt e)) {b c n:Nat} {A B:List (Value × Value × Nat)} {k u:Value} (h:qj S b (A ++ (k,u,n) :: B) c w):
  ∃ w',(Instr.mapEntry t (.map (some b)) k).run P w=.ok (.tuple #[u,goInt n]) w'∧qj S b (A ++ (k,u,n) :: B) c w'∧w.grownBy w' (some b):=by
 obtain ⟨⟨es,hb,hL⟩,h2,h3,h4,h5⟩:=h;have hS:S k:=h2 (k,u,n) (by simp);have hSs:∀ e ∈ es.toList,S e.key:=fun e he=>h2 (e.key,e.val,e.born) (hL ▸ List.mem_map.2 ⟨e,he,rfl⟩)
 rcases lW hK hW hS es.toList hSs with ⟨h6,h7⟩ | ⟨i,e1,h6,h7,h8⟩
 ·have:(k,u,n) ∈ es.toList.map (fun e=>(e.key,e.val,e.born)):=by rw [hL]; simp
  obtain ⟨e0,he0,hee⟩:=List.mem_map.1 this;simp only [Prod.mk.injEq] at hee;exact absurd hee.1 (h7 e0 he0)
 ·have hi1:(A ++ (k,u,n) :: B)[i]? = some (e1.key,e1.val,e1.born):=by rw [← hL]; simp [h7]
  have hiA:i=A.length:=by
   obtain ⟨hi2,hi3⟩:=List.getElem?_eq_some_iff.1 hi1
   rcases Nat.lt_trichotomy i A.length with hh | hh | hh
   ·exact absurd (by rw [hi3]; simp [h8]) (List.pairwise_iff_getElem.1 h3 i A.length hi2 (by simp) hh)
   ·exact hh
   ·exact absurd (by rw [hi3]; simp [h8]) (List.pairwise_iff_getElem.1 h3 A.length i (by simp) hi2 hh)
  subst hiA;rw [EL] at hi1;simp only [Option.some.injEq,Prod.mk.injEq] at hi1;obtain ⟨g1,g2,g3⟩:=hi1;have hj:es[A.length]? = some e1:=by simpa using h7
  have hst:(Instr.keyThatStays k k).run P w=.ok k w:=by simp [Instr.keyThatStays,hK.same hS]
  have hsame:es.modify A.length (fun e=>{ e with key:=k })=es:=by
   apply Array.ext';rw [Array.toList_modify,modify_eq_set _ _ _ _ h7];have:({ e1 with key:=k }:MapEntry)=e1:=by rw [← h8]
   rw [this];exact WideElems.set_self _ _ _ h7
  refine ⟨setBlock w b (.map es c),?_,⟨⟨_,heap_setBlock_same hb _,hL⟩,h2,h3,h4,h5⟩,lC hb _⟩;simp [Instr.mapEntry,run_underlying ht,MapKept.run_getObj_map hb,hK.check w false hS,h6,hj,h8,hst,hsame,g2,g3,MapKept.run_setObj_map _ hb,Result.andThen,setBlock]
theorem BQ {w:World} {t:TypeId} {b c n:Nat} {A B:List (Value × Value × Nat)} {k u:Value} (v:Value) (h:qj S b (A ++ (k,u,n) :: B) c w):
  ∃ w',(Instr.entryStore t (.map (some b)) (goInt n) v).run P w=.ok () w'∧qj S b (A ++ (k,v,n) :: B) c w'∧w.grownBy w' (some b):=by
 obtain ⟨⟨es,hb,hL⟩,h2,h3,h4,h5⟩:=h
 obtain ⟨e1,he1,g⟩:∃ e1,es.toList[A.length]? = some e1∧(e1.key,e1.val,e1.born)=(k,u,n):=by
  have:(es.toList.map fun e=>(e.key,e.val,e.born))[A.length]? = some (k,u,n):=by rw [hL]; exact EL
  rw [List.getElem?_map] at this;exact Option.map_eq_some_iff.1 this
 simp only [Prod.mk.injEq] at g;obtain ⟨g1,g2,g3⟩:=g
 have hnd:(es.toList.map (·.born)).Nodup:=by
  have e0:es.toList.map (·.born)=(es.toList.map fun e=>(e.key,e.val,e.born)).map fun p=>p.2.2:=by rw [List.map_map]; rfl
  rw [e0,hL];exact h4
 have hidx:es.findIdx? (fun e=>((e.born:Nat):Int) == ((n:Nat):Int))=some A.length:=by
  rw [WideElems.findIdx_arr,← g3];exact WideElems.findIdx_born hnd he1
 have hlist:((es.modify A.length (fun e=>{ e with val:=v })).toList.map fun e=>(e.key,e.val,e.born))=A ++ (k,v,n) :: B:=by
  rw [Array.toList_modify,modify_eq_set _ _ _ _ he1,List.map_set,hL,g1,g3];simp
 refine ⟨setBlock w b (.map (es.modify A.length fun e=>{ e with val:=v }) c),?_,⟨⟨_,heap_setBlock_same hb _,hlist⟩,?_,?_,?_,?_⟩,lC hb _⟩
 ·simp [Instr.entryStore,MapKept.run_getObj_map hb,asInt,asIntOf,goInt,hidx,MapKept.run_setObj_map _ hb,Result.andThen,setBlock]
 ·intro p hp
  rcases List.mem_append.1 hp with hp | hp
  ·exact h2 p (by simp [hp])
  ·rcases List.mem_cons.1 hp with rfl | hp
   ·exact h2 (k,u,n) (by simp)
   ·exact h2 p (by simp [hp])
 ·have:=List.pairwise_append.1 h3
  have h9:=List.pairwise_cons.1 this.2.1;refine List.pairwise_append.2 ⟨this.1,List.pairwise_cons.2 ⟨fun q hq=>h9.1 q hq,h9.2⟩,fun p hp q hq=>?_⟩
  rcases List.mem_cons.1 hq with rfl | hq
  ·exact this.2.2 p hp (k,u,n) (by simp)
  ·exact this.2.2 p hp q (by simp [hq])
 ·simpa using h4
 ·intro p hp
  rcases List.mem_append.1 hp with hp | hp
  ·exact h5 p (by simp [hp])
  ·rcases List.mem_cons.1 hp with rfl | hp
   ·exact h5 (k,u,n) (by simp)
   ·exact h5 p (by simp [hp])
section
variable {ops:Array Oper} {rest:List Oper} {o:Oper} {a:Act} {Q:Exit→Act→World→Prop}
end
end
end Go.Proofs.YtiidmgchadagbaaGreatDoor
