/- Of the proof of FnExactRounds: ChkS, Facts3, MarkI, SeaP, StoW. -/
import Derived.Test.YtiidmgchadagbaaGreatDoorM26
import Derived.Test.YtiidmgchadagbaaGreatDoorM27
import Derived.Test.YtiidmgchadagbaaGreatDoorM25
import Derived.Test.YtiidmgchadagbaaGreatDoorM20
set_option linter.unusedVariables false
set_option maxHeartbeats 4000000
set_option maxRecDepth 100000
namespace Go.Proofs.YtiidmgchadagbaaGreatDoor
open Go.RowKit D
attribute [local go_sem ↓] Go.wp_at_zero Go.wp_at_succ
theorem l2Cycle_any (rs:List Ru) (v:Value) (bs:List Nat) (w:World) (h:rulesK w [v] rs bs) (hf:rs.length≤8) (hok:rs.all ruleOk=true):
  Calls Tryz.prog 90 #[v] w fun e w'=>e=.returned (.bool (cycB rs))∧Below w.heap.size w w':=by
 obtain ⟨Ad,cap,rfl,hl,hm⟩:=sliceK_form h
 have hlm:=nat_ge_max (Nat.le_trans hl hm)
 have c1:=l2Levels_any rs _ bs w h hf hok
 have HC:Hid (cycB rs=(levelsL rs).any fun x=>decide (rs.length≤x)):=η rfl
 have HL:=η (levels_len rs)
 clear hl hm h
 go_enter Tryz.func90,Tryz.ntmps90
 go_wp2_with fail
 refine c1.mono ?_
 rintro e w1 ⟨hB,rfl,hI,hmx⟩
 clear c1 hB
 have HMX:=η hmx
 clear hmx
 generalize levelsL rs=xs at *
 go_wp2
 go_loopw [4] (fun i wr=>∃ k:Nat,k≤rs.length∧i=.int .i64 k∧(∀ i,i < k→atL xs i < rs.length)∧LInv w rs xs wr) (fun i _=>rs.length - (intOf i).toNat)
 case atStart=>exact ⟨0,Nat.zero_le _,rfl,fun i h=>by omega,hI⟩
 case round=>
  obtain ⟨k,hk,rfl,hall,hI⟩:=hrel
  have HA:=η hall
  have HI:=η hI
  clear hall
  by_cases hlt:k < rs.length
  ·have hk0:(0:Int)≤(k:Int):=by omega
   have hk1:(k:Int) < (rs.length:Int):=by omega
   have a1:=hI.at hlt
   have hma:=HMX.out k
   obtain ⟨a,ha⟩:∃ a,a=atL xs k:=⟨_,rfl⟩
   rw [← ha] at a1 hma
   by_cases hge:rs.length≤a
   ·have HZ:Hid (cycB rs=true):=η (by
     rw [HC.out,List.any_eq_true]
     have hkx:k < xs.length:=by rw [HL.out]; exact hlt
     refine ⟨xs[k],List.getElem_mem hkx,decide_eq_true ?_⟩
     have:atL xs k=xs[k]:=by unfold atL; rw [List.getD_eq_getElem?_getD,List.getElem?_eq_getElem hkx]; rfl
     omega)
    have hge1:(rs.length:Int)≤(a:Int):=by omega
    clear HC HA ha hI hge
    go_wp2
    go_ret
    exact ⟨ret_bool HZ.out.symm,HI.out.bel⟩
   ·have HZ:Hid (∀ i,i < k+1→atL xs i < rs.length):=η fun i hi=>by
     by_cases e:i=k
     ·subst e; omega
     ·exact HA.out i (by omega)
    have hge1:¬ (rs.length:Int)≤(a:Int):=by omega
    clear HC HA ha hI hge
    go_wp2
    go_roundw
    case rel=>exact ⟨k+1,hlt,by go_num,HZ.out,HI.out⟩
    case measure=>simp [intOf]; omega
  ·have he:k=rs.length:=by omega
   have hk1:¬ (k:Int) < (rs.length:Int):=by omega
   have HZ:Hid (cycB rs=false):=η (by
    rw [HC.out,List.any_eq_false]
    intro x hx
    obtain ⟨i,hi,rfl⟩:=List.mem_iff_getElem.1 hx
    have h1:=HA.out i (by rw [HL.out] at hi; omega)
    have:atL xs i=xs[i]:=by unfold atL; rw [List.getD_eq_getElem?_getD,List.getElem?_eq_getElem hi]; rfl
    simp; omega)
   clear HC HA hI he
   go_wp2
   go_ret
   exact ⟨ret_bool HZ.out.symm,HI.out.bel⟩
theorem D.ruleOk_sums {r:Ru} (h:ruleOk r=true):sumL (fun p=>p.atom.args.length) r.body≤1000000∧r.head.args.length≤1000000:=by
 obtain ⟨h1,_,h3⟩:=ruleOk_args h
 have h4:=h3 r.head (List.mem_cons_self ..)
 have h5:=sumL_const (fun p:Pt=>p.atom.args.length) 3 r.body fun p hp=>h3 p.atom (List.mem_cons_of_mem _ (List.mem_map.2 ⟨p,hp,rfl⟩))
 omega
theorem D.okS_snoc (rs:List Ru) (k:Nat) (h:k < rs.length) (h0:(rs.take k).all ruleOk=true):(rs.take (k+1)).all ruleOk=ruleOk rs[k]:=by
 rw [List.take_succ_eq_append_getElem h,List.all_append,h0]; simp
theorem D.okS_bad (rs:List Ru) (k:Nat) (h:k < rs.length) (h0:ruleOk rs[k]=false):progC rs=1:=by
 unfold progC
 rw [if_pos (List.all_eq_false.2 ⟨_,List.getElem_mem h,by simp [h0]⟩)]
theorem D.tiS_snoc (rs:List Ru) (k:Nat) (h:k < rs.length) (h0:(rs.take k).all (fun r=>tightB r.head r.body)=true):((rs.take (k+1)).all fun r=>tightB r.head r.body)=tightB rs[k].head rs[k].body:=by
 rw [List.take_succ_eq_append_getElem h,List.all_append,h0]; simp
theorem D.tiS_bad (rs:List Ru) (k:Nat) (h:k < rs.length) (h0:tightB rs[k].head rs[k].body=false):(rs.all fun r=>tightB r.head r.body)=false:=
 List.all_eq_false.2 ⟨_,List.getElem_mem h,by simp [h0]⟩
theorem progCheck_spec (rs:List Ru) (v:Value) (bs:List Nat) (w:World) (h:rulesK w [v] rs bs):
  Calls Tryz.prog 55 #[v] w fun e w'=>e=.returned (.int .i64 (progC rs))∧Below w.heap.size w w':=by
 obtain ⟨Ad,cap,rfl,hl,hm⟩:=sliceK_form h
 have hlm:=nat_ge_max (Nat.le_trans hl hm)
 have C1:=η fun w' (hb:Below w.heap.size w w') (hn:(allAtoms rs).length≤1000000)=>l2Args_any rs _ bs w' (rulesK_good.below h hb) hn
 have C3:=η fun w' (hb:Below w.heap.size w w') (hok:rs.all ruleOk=true) (hf:rs.length≤8)=>l2Cycle_any rs _ bs w' (rulesK_good.below h hb) hf hok
 clear hl hm
 go_enter Tryz.func55,Tryz.ntmps55
 go_wp2
 go_loopw [3] (fun i wr=>∃ k:Nat,k≤rs.length∧i=.int .i64 k∧(rs.take k).all ruleOk=true∧Below w.heap.size w wr) (fun i _=>rs.length - (intOf i).toNat)
 case atStart=>exact ⟨0,Nat.zero_le _,rfl,rfl,Below.refl _ _⟩
 case round=>
  obtain ⟨k,hk,rfl,hall,hb⟩:=hrel
  have HA:=η hall
  clear hall
  by_cases hlt:k < rs.length
  ·clear C1 C3
   obtain ⟨b,o,Ae,ce,Af,cf,bk,rfl,_,d0,d1,d2,hel,_⟩:=rules_el (rulesK_good.below h hb) hlt
   have HS:=η (okS_snoc rs k hlt HA.out)
   have HBAD:=η (okS_bad rs k hlt)
   have hk0:(0:Int)≤(k:Int):=by omega
   have hk1:(k:Int) < (rs.length:Int):=by omega
   have c1:=l1Rule_any rs[k] _ _ _ bk wr hel
   have HLT:=η hlt
   clear h hel
   generalize rs[k]=r at *
   clear hlt
   obtain ⟨⟨nm,args⟩,body⟩:=r
   dsimp only at *
   go_wp2_with fail
   refine c1.mono ?_
   rintro e w2 ⟨rfl,hb2⟩
   have B2:=hb.trans (hb2.mono hb.size)
   clear c1
   cases h1:ruleOk ⟨⟨nm,args⟩,body⟩
   ·have HZ:=η (HBAD.out h1)
    clear h1 HBAD HS
    go_wp2
    go_ret
    exact ⟨ret_int (by simp [HZ.out]),B2⟩
   ·have HZ:=η (HS.out.trans h1)
    clear h1 HBAD HS
    go_wp2
    go_roundw
    case rel=>exact ⟨k+1,HLT.out,by go_num,HZ.out,B2⟩
    case measure=>have:=HLT.out; simp [intOf]; omega
  ·have he:k=rs.length:=by omega
   have hk1:¬ (k:Int) < (rs.length:Int):=by omega
   have hok:rs.all ruleOk=true:=by have:=HA.out; rw [he,List.take_of_length_le (Nat.le_refl _)] at this; exact this
   clear HA he
   by_cases hf:rs.length≤8
   ·have hf1:¬ (8:Int) < (rs.length:Int):=by omega
    have hP:progC rs=if alikeB (allAtoms rs)=false then 3 else if (rs.all fun r=>tightB r.head r.body)=false then 4 else if cycB rs=true then 5 else 0:=by
     unfold progC; rw [if_neg (by simp [hok]),if_neg (by omega)]
    have hn40:(allAtoms rs).length≤1000000:=by have:=(allAtoms_few hok).2; omega
    have C4:=η fun w' hb=>C1.out w' hb hn40
    have C5:=η fun w' hb=>C3.out w' hb hok hf
    have HP:=η hP
    have HOK:=η hok
    clear hok hf hP C1 C3 hn40
    go_wp2_with fail
    refine (C4.out _ hb).mono ?_
    rintro e w2 ⟨rfl,hb2⟩
    have B2:=hb.trans (hb2.mono hb.size)
    clear C4
    cases ha:alikeB (allAtoms rs)
    ·have HZ:Hid (progC rs=3):=η (by rw [HP.out,if_pos ha])
     clear HP ha
     go_wp2
     go_ret
     exact ⟨ret_int (by simp [HZ.out]),B2⟩
    ·replace HP:Hid (progC rs=if (rs.all fun r=>tightB r.head r.body)=false then 4 else if cycB rs=true then 5 else 0):=η (by rw [HP.out,if_neg (by simp [ha])])
     clear ha hb hb2
     go_wp2
     go_loopw [4] (fun i wr=>∃ k:Nat,k≤rs.length∧i=.int .i64 k∧(rs.take k).all (fun r=>tightB r.head r.body)=true∧Below w.heap.size w wr) (fun i _=>rs.length - (intOf i).toNat)
     case atStart=>exact ⟨0,Nat.zero_le _,rfl,rfl,B2⟩
     case round=>
      clear hk hk1
      obtain ⟨k,hk,rfl,hall,hb⟩:=hrel
      have HA:=η hall
      clear hall
      by_cases hlt:k < rs.length
      ·clear C5
       obtain ⟨b,o,Ae,ce,Af,cf,bk,rfl,_,d0,d1,d2,hel,_⟩:=rules_el (rulesK_good.below h hb) hlt
       have HS:=η (tiS_snoc rs k hlt HA.out)
       have HBAD:=η (tiS_bad rs k hlt)
       have hk0:(0:Int)≤(k:Int):=by omega
       have hk1:(k:Int) < (rs.length:Int):=by omega
       have hsum:=ruleOk_sums (List.all_eq_true.1 HOK.out _ (List.getElem_mem hlt))
       have c1:=l2Tight_any rs[k] _ _ _ bk wr hel hsum.1 hsum.2
       have HLT:=η hlt
       clear h hel hsum
       generalize rs[k]=r at *
       clear hlt
       obtain ⟨⟨nm,args⟩,body⟩:=r
       dsimp only at *
       go_wp2_with fail
       refine c1.mono ?_
       rintro e w3 ⟨rfl,hb3⟩
       have B3:=hb.trans (hb3.mono hb.size)
       clear c1
       cases h1:tightB ⟨nm,args⟩ body
       ·have HZ:Hid (progC rs=4):=η (by rw [HP.out,if_pos (HBAD.out h1)])
        clear h1 HBAD HS HP
        go_wp2
        go_ret
        exact ⟨ret_int (by simp [HZ.out]),B3⟩
       ·have HZ:=η (HS.out.trans h1)
        clear h1 HBAD HS
        go_wp2
        go_roundw
        case rel=>exact ⟨k+1,HLT.out,by go_num,HZ.out,B3⟩
        case measure=>have:=HLT.out; simp [intOf]; omega
      ·have he:k=rs.length:=by omega
       have hk1:¬ (k:Int) < (rs.length:Int):=by omega
       have hti:(rs.all fun r=>tightB r.head r.body)=true:=by have:=HA.out; rw [he,List.take_of_length_le (Nat.le_refl _)] at this; exact this
       replace HP:Hid (progC rs=if cycB rs=true then 5 else 0):=η (by rw [HP.out,if_neg (by simp [hti])])
       clear HA he hti h
       go_wp2_with fail
       refine (C5.out _ hb).mono ?_
       rintro e w4 ⟨rfl,hb4⟩
       have B4:=hb.trans (hb4.mono hb.size)
       clear C5
       cases hc:cycB rs
       ·have HZ:Hid (progC rs=0):=η (by rw [HP.out,if_neg (by simp [hc])])
        clear HP hc
        go_wp2
        go_ret
        exact ⟨ret_int (by simp [HZ.out]),B4⟩
       ·have HZ:Hid (progC rs=5):=η (by rw [HP.out,if_pos hc])
        clear HP hc
        go_wp2
        go_ret
        exact ⟨ret_int (by simp [HZ.out]),B4⟩
   ·have hf1:(8:Int) < (rs.length:Int):=by omega
    have HZ:Hid (progC rs=2):=η (by unfold progC; rw [if_neg (by simp [hok]),if_pos (by omega)])
    clear hok hf C1 C3 h
    go_wp2
    go_ret
    exact ⟨ret_int (by simp [HZ.out]),hb⟩
theorem factsOk_impl (xs:List A) (v:Value) (bs:List Nat) (w:World) (h:atomsK w [v] xs bs):
  Calls Tryz.prog 81 #[v] w fun e w'=>e=.returned (.bool (factsOk xs))∧Below w.heap.size w w':=by
 obtain ⟨Ad,cap,rfl,hl,hm⟩:=sliceK_form h
 have hlm:=nat_ge_max (Nat.le_trans hl hm)
 clear hm
 by_cases hle:xs.length≤300
 ·have hle':¬ (300:Int) < (xs.length:Int):=by omega
  have hle2:¬ 300 < xs.length:=by omega
  have HE:Hid (factsOk xs=okB xs):=η (by rw [factsOk_eq,decide_eq_true hle,Bool.and_true])
  clear hle
  go_enter Tryz.func81,Tryz.ntmps81
  go_wp2
  go_loopw [10] (fun i wr=>∃ k:Nat,k≤xs.length∧i=.int .i64 k∧facTo xs k∧Below w.heap.size w wr) (fun i _=>xs.length - (intOf i).toNat)
  case atStart=>exact ⟨0,Nat.zero_le _,rfl,facTo_zero _,Below.refl _ _⟩
  case round=>
   obtain ⟨k,hk,rfl,hall,hb⟩:=hrel
   have HA:=η hall
   clear hall
   by_cases hlt:k < xs.length
   ·have hk0:(0:Int)≤(k:Int):=by omega
    have hk1:(k:Int) < (xs.length:Int):=by omega
    obtain ⟨b,o,Ae,ce,bk,rfl,_,c0,c1,hel,_⟩:=atoms_el (atomsK_good.below h hb) hlt
    have hA:Below wr.heap.size wr (wr.alloc (.cells #[.string xs[k].name,.slice Ae xs[k].args.length ce] 68)):=(Below.refl _ _).alloc (Nat.le_refl _) _
    have hg:=isFact_any xs[k] _ _ bk _ (atomK_good.below hel hA)
    have HF1:=η (fun hf=>facTo_step (k:=k) HA.out hlt hf)
    have HF2:=η (fun hf=>okB_bad hlt hf)
    generalize isFactB xs[k]=x at *
    clear h hel
    go_wp2_with fail
    refine hg.mono ?_
    rintro e w' ⟨rfl,hb'⟩
    have B':=hb.trans ((hA.trans (hb'.mono hA.size)).mono hb.size)
    cases x
    ·go_wp2
     go_ret
     exact ⟨ret_bool (by rw [HE.out,HF2.out (by simp)]),B'⟩
    ·go_wp2
     go_roundw
     case rel=>exact ⟨k+1,by omega,by go_num,HF1.out (by simp),B'⟩
     case measure=>simp [intOf]; omega
   ·have he:k=xs.length:=by omega
    have HO:Hid (okB xs=asc xs):=η (by
     have hf:=HA.out
     rw [he] at hf
     unfold okB
     rw [show xs.all isFactB=true from by
      rw [List.all_eq_true]; intro y hy
      obtain ⟨j,hj,rfl⟩:=List.mem_iff_getElem.1 hy
      exact hf j hj hj,Bool.true_and])
    have he':¬ (k:Int) < (xs.length:Int):=by omega
    have hs:=sortedFacts_any Ad xs.length cap wr
    have has:=fun w' (hb':Below wr.heap.size wr w')=>ascends_any xs _ bs w' (atomsK_good.below (atomsK_good.below h hb) hb')
    clear h he HA
    go_wp2_with fail
    refine hs.mono ?_
    rintro e w1 ⟨rfl,hb1⟩
    go_wp2_with fail
    refine (has _ hb1).mono ?_
    rintro e w2 ⟨rfl,hb2⟩
    go_wp2
    go_ret
    exact ⟨ret_bool (by rw [HE.out,HO.out]),hb.trans ((hb1.trans (hb2.mono hb1.size)).mono hb.size)⟩
 ·have hle':(300:Int) < (xs.length:Int):=by omega
  have hle2:300 < xs.length:=by omega
  have HE:Hid (factsOk xs=false):=η (by rw [factsOk_eq,decide_eq_false hle,Bool.and_false])
  clear hle h
  go_enter Tryz.func81,Tryz.ntmps81
  go_wp2
  go_ret
  exact ⟨ret_bool HE.out.symm,Below.refl _ _⟩
def D.mkI (s:Nat) (k:Nat):Nat:=k
def D.markIs:List Nat→Nat→List Nat:=markL mkI (fun _=>1)
theorem D.sumL_one' {α:Type} (xs:List α):sumL (fun _=>1) xs=xs.length:=by
 unfold sumL; induction xs with
 | nil=>rfl
 | cons x xs ih=>simp only [List.map_cons,List.sum_cons,List.length_cons,ih]; omega
theorem D.markIs_length (xs:List Nat) (k:Nat):(markIs xs k).length=xs.length:=markL_length xs k
theorem D.markIs_at {xs:List Nat} {k i:Nat} (h:i < xs.length):(markIs xs k)[i]'(by rw [markIs_length]; exact h)=k+i:=by
 have:=markL_at (mk:=mkI) (cnt:=fun _=>1) (k:=k) h
 rw [sumL_one',List.length_take,Nat.min_eq_left (by omega)] at this
 exact this
theorem eqIntS_same (ts:List Nat) (v1 v2:Value) (b1 b2:List Nat) (w:World) (h1:intsK w [v1] ts b1) (h2:intsK w [v2] ts b2):
  Calls Tryz.prog 19 #[v1,v2] w (Yes w.heap.size w):=by
 obtain ⟨Ad,cap,rfl,hl,hm⟩:=sliceK_form h1
 obtain ⟨Ad2,cap2,rfl,hl2,hm2⟩:=sliceK_form h2
 have hlm:=nat_ge_max (Nat.le_trans hl hm)
 clear hm hm2
 go_enter Tryz.func19,Tryz.ntmps19
 go_wp2
 go_loopw [5] (fun i wr=>∃ k:Nat,k≤ts.length∧i=.int .i64 k∧Below w.heap.size w wr) (fun i _=>ts.length - (intOf i).toNat)
 case atStart=>exact ⟨0,Nat.zero_le _,rfl,Below.refl _ _⟩
 case round=>
  obtain ⟨k,hk,rfl,hb⟩:=hrel
  by_cases hlt:k < ts.length
  ·obtain ⟨b,o,rfl,_,c0⟩:=intsK_at (intsK_good.below h1 hb) hlt
   obtain ⟨b',o',rfl,_,d0⟩:=intsK_at (intsK_good.below h2 hb) hlt
   clear h1 h2
   have hlt':(k:Int) < (ts.length:Int):=by omega
   have hk0:(0:Int)≤(k:Int):=by omega
   generalize ts[k]=s at *
   go_wp2
   go_quiet (fail)
   go_wp2
   go_roundw
   case rel=>exact ⟨k+1,by omega,by go_num,⟨hb.os,hb.tape,hb.output,hb.size,hb.block⟩⟩
   case measure=>simp [intOf]; omega
  ·have he:k=ts.length:=by omega
   subst he
   go_wp2
   go_ret
   exact ⟨rfl,hb⟩
theorem markIntS_any (ts:List Nat) (v:Value) (bs:List Nat) (k B:Nat) (w:World) (h:intsK w [v] ts bs) (hN:New B w bs) (hk:k+ts.length≤1000000000000):
  Calls Tryz.prog 20 #[v,.int .i64 k] w (Marked intsK [v] (markIs ts k) bs (k+ts.length) B w):=by
 obtain ⟨Ad,cap,rfl,hl,hm⟩:=sliceK_form h
 clear hm
 go_enter Tryz.func20,Tryz.ntmps20
 go_wp2
 go_loopw [1,5] (fun q j wr=>∃ (i:Nat) (ys:List Nat),i≤ts.length∧j=.int .i64 i∧q=.int .i64 (k+i:Nat)∧ys=markTo mkI (fun _=>1) ts k i∧intsK wr [.slice Ad ts.length cap] ys bs∧New B wr bs∧KeptBut bs w wr) (fun _ j _=>ts.length - (intOf j).toNat)
 case atStart=>exact ⟨0,ts,Nat.zero_le _,rfl,rfl,rfl,h,hN,KeptBut.refl _ _⟩
 case round=>
  obtain ⟨i,ys,hi,rfl,rfl,hy,hT,hNr,hK⟩:=hrel
  clear h hN
  by_cases hlt:i < ts.length
  ·have hle:ys.length=ts.length:=by rw [hy,markTo_length]
   have HS:=η (markTo_step (mk:=mkI) (cnt:=fun _=>1) (k:=k) hlt)
   have HY:=η hy
   clear hy
   obtain ⟨b,o,cs,bk,rfl,hb,hbk,hnd,hsub,hcs,hcell,⟨rfl,rfl⟩,hput⟩:=sliceK_open intK_good hT hNr.nodup (k:=i) (by omega)
   obtain ⟨u0,c0⟩:∃ u,wr.cell? ⟨b,o+i,none⟩=some u:=⟨_,by simpa using hcell 0 _ rfl⟩
   have HP:=η hput
   have HW:=η (hNr.wri b hb)
   have f0:=HW.out.frozen (o+i)
   have hbl:=hNr.lt hb
   have HL:=η hle
   have HN:=η hNr
   clear hcell hput hT hnd hsub hcs hle hNr
   obtain ⟨q,hq⟩:∃ q,q=k+i:=⟨_,rfl⟩
   rw [← hq]
   have hq9:q≤1000000000000:=by omega
   have HQ:=η hq
   clear hq
   have HT:Hid ((markTo mkI (fun _=>1) ts k i).set i (q)=markTo mkI (fun _=>1) ts k (i+1)):=η (by
    have:=HS.out
    rw [sumL_one',List.length_take,Nat.min_eq_left (by omega)] at this
    rw [HQ.out]; exact this)
   clear HS
   have hi0:(0:Int)≤(i:Int):=by omega
   have hi1:(i:Int) < (ts.length:Int):=by omega
   have HB:=η hbl
   have R:=HP.out (wr.setCell ⟨b,o+i,none⟩ (.int .i64 (q:Nat))) [.int .i64 (q:Nat)] (q) rfl
    (fun j v hv=>by
     match j,hv with
     | 0,hv=>
      simp only [List.getElem?_cons_zero,Option.some.injEq] at hv
      subst hv
      rw [Nat.mul_one,Nat.add_zero]
      exact World.cell?_setCell_same' _ _ _ (by rw [c0]; rfl)
     | j+1,hv=>simp at hv)
    (fun p v hv hp=>setCell_other hv (by omega))
    (fun c hc hne _=>by
     have hcl:=HN.out.lt hc
     rw [Below.heap_setCell _ _ _ _ hne])
    ⟨rfl,rfl⟩
   rw [HY.out,HT.out] at R
   have hN3:New B (wr.setCell ⟨b,o+i,none⟩ (.int .i64 (q:Nat))) bs:=⟨HN.out.nodup,fun c hc=>⟨(HN.out.own c hc).1,by
    exact Wri.setCell (HN.out.wri c hc) _ _⟩⟩
   have hK3:KeptBut bs w (wr.setCell ⟨b,o+i,none⟩ (.int .i64 (q:Nat))):=hK.setCell hb _
   clear HP HN HW
   go_wp2_with fail
   go_roundw
   case rel=>exact ⟨i+1,_,by omega,by go_num,by have:=HQ.out; go_num,rfl,R,hN3,hK3⟩
   case measure=>simp [intOf]; omega
  ·have he:i=ts.length:=by omega
   subst he
   have HY:Hid (ys=markIs ts k):=η (by rw [hy,markTo_all]; rfl)
   clear hy
   go_wp2
   go_ret
   exact ⟨rfl,by rw [← HY.out]; exact hT,hNr,hK⟩
theorem heldIntS_any (ts:List Nat) (v:Value) (bs:List Nat) (k:Nat) (w:World) (h:intsK w [v] (markIs ts k) bs) (hk:k+ts.length≤1000000000000):
  Calls Tryz.prog 21 #[v,.int .i64 k] w (Held (k+ts.length) w):=by
 obtain ⟨Ad,cap,rfl,hl,hm⟩:=sliceK_form h
 have hzl:=markIs_length ts k
 rw [hzl] at h hl ⊢
 clear hm hl
 go_enter Tryz.func21,Tryz.ntmps21
 go_wp2
 go_loopw [1,5] (fun q j wr=>∃ i:Nat,i≤ts.length∧j=.int .i64 i∧q=.int .i64 (k+i:Nat)∧Below w.heap.size w wr) (fun _ j _=>ts.length - (intOf j).toNat)
 case atStart=>exact ⟨0,Nat.zero_le _,rfl,rfl,Below.refl _ _⟩
 case round=>
  obtain ⟨i,hi,rfl,rfl,hb⟩:=hrel
  by_cases hlt:i < ts.length
  ·obtain ⟨b,o,rfl,_,c0⟩:=intsK_at (intsK_good.below h hb) (k:=i) (by rw [hzl]; exact hlt)
   rw [markIs_at hlt] at c0
   clear h hzl
   have hlt':(i:Int) < (ts.length:Int):=by omega
   have hk0:(0:Int)≤(i:Int):=by omega
   obtain ⟨q,hq⟩:∃ q,q=k+i:=⟨_,rfl⟩
   rw [← hq] at c0 ⊢
   have hq1:q≤1000000000000:=by omega
   have HQ:=η hq
   clear hq
   have B2:=hb
   go_wp2
   go_roundw
   case rel=>exact ⟨i+1,by omega,by go_num,by have:=HQ.out; go_num,B2⟩
   case measure=>simp [intOf]; omega
  ·have he:i=ts.length:=by omega
   subst he
   go_wp2
   go_ret
   exact ⟨rfl,hb⟩
end Go.Proofs.YtiidmgchadagbaaGreatDoor
namespace Go.Proofs.YtiidmgchadagbaaGreatDoor
open Go.RowKit D
structure D.SeaV (sk sb:Nat) (v1 v2:Value) (wt:Nat→Bool) (io:Bool) (ah:Int) (tell:Value) (w:World):Prop where
 st:w.cell? ⟨sk,0,none⟩=some (.pointer (some ⟨sb,0,none⟩))
 p1:w.cell? ⟨sk,1,none⟩=some v1
 p2:w.cell? ⟨sk,2,none⟩=some v2
 wd:∀ i,i < 12→w.cell? ⟨sk,4+i,none⟩=some (.bool (wt i))
 io:w.cell? ⟨sk,16,none⟩=some (.bool io)
 ah:w.cell? ⟨sk,17,none⟩=some (.int .i64 ah)
 tl:w.cell? ⟨sk,43,none⟩=some tell
section
variable {sk sb:Nat} {v1 v2:Value} {wt:Nat→Bool} {io:Bool} {ah:Int} {tell:Value} {w w':World}
theorem D.SeaV.keep (h:SeaV sk sb v1 v2 wt io ah tell w) (e:w'.heap[sk]? = w.heap[sk]?):SeaV sk sb v1 v2 wt io ah tell w':=
 ⟨(World.cell?_of_block e).trans h.st,(World.cell?_of_block e).trans h.p1,(World.cell?_of_block e).trans h.p2,fun i hi=>(World.cell?_of_block e).trans (h.wd i hi),(World.cell?_of_block e).trans h.io,(World.cell?_of_block e).trans h.ah,(World.cell?_of_block e).trans h.tl⟩
theorem D.SeaV.lt (h:SeaV sk sb v1 v2 wt io ah tell w):sk < w.heap.size:=lt_of_cell h.st
end
def D.setB (vars:List ByteArray) (b:Bd) (wt:Nat→Bool):Bool:=(List.range 12).all fun i=>!wt i || decide (wrd vars b i ≠ ⟨#[]⟩)
theorem D.setB_iff {vars:List ByteArray} {b:Bd} {wt:Nat→Bool}:setB vars b wt=true ↔ ∀ i,i < 12→wt i=true→wrd vars b i ≠ ⟨#[]⟩:=by
 unfold setB
 rw [List.all_eq_true]
 constructor
 ·intro h i hi hw
  have:=h i (List.mem_range.2 hi)
  simpa [hw] using this
 ·intro h i hi
  have hi:=List.mem_range.1 hi
  cases hw:wt i
  ·rfl
  ·simpa using h i hi hw
structure D.URow where
 k:WK
 v:Value
 L:List Value
 n:Nat
def D.Dis (u v:Value):Prop:=∀ x,u.ownBlock=some x→v.ownBlock ≠ some x
theorem D.Dis.symm {u v:Value} (h:Dis u v):Dis v u:=fun x e e2=>h x e2 e
abbrev D.entE (r:URow):Value × Value × Nat:=(wkV r.k,r.v,r.n)
structure D.RowsOk (B:Nat) (G:WK→List Nat) (ou:List Nat) (rows:List URow) (w:World):Prop where
 coll:∀ r ∈ rows,Coll 1 intK B 3 w r.v r.L (G r.k) []
 dis:∀ r ∈ rows,∀ s ∈ rows,r.k ≠ s.k→Dis r.v s.v
 own:∀ r ∈ rows,∀ x,r.v.ownBlock=some x→x ∈ ou
structure D.UnderS (B mu:Nat) (G:WK→List Nat) (ou:List Nat) (w:World):Prop where
 ex:∃ rows c,MapE isWK mu (rows.map entE) c w∧RowsOk B G ou rows w∧∀ k,(∀ r ∈ rows,r.k ≠ k)→G k = []
structure D.UPend (B mu:Nat) (G:WK→List Nat) (ou:List Nat) (k:WK) (u:Value) (L:List Value) (n:Nat) (w:World):Prop where
 ex:∃ A1 B1 c,MapE isWK mu (A1.map entE ++ (wkV k,u,n) :: B1.map entE) c w∧RowsOk B G ou (A1 ++ B1) w∧(∀ r ∈ A1 ++ B1,r.k ≠ k∧Dis u r.v)∧∀ k',k' ≠ k→(∀ r ∈ A1 ++ B1,r.k ≠ k')→G k' = []
 coll:Coll 1 intK B 3 w u L (G k) []
 own:∀ x,u.ownBlock=some x→x ∈ ou
def D.updG (G:WK→List Nat) (k:WK) (i:Nat):WK→List Nat:=fun k'=>if k'=k then G k ++ [i] else G k'
section
variable {B mu:Nat} {G:WK→List Nat} {ou:List Nat} {w w':World}
theorem D.RowsOk.keep {rows:List URow} (h:RowsOk B G ou rows w) (hk:∀ r ∈ rows,∀ x,r.v.ownBlock=some x→w'.heap[x]? = w.heap[x]?):RowsOk B G ou rows w':=
 ⟨fun r hr=>(h.coll r hr).keepB intK_good (hk r hr) (fun b hb=>by simp at hb),h.dis,h.own⟩
theorem D.RowsOk.lt {rows:List URow} (h:RowsOk B G ou rows w) {r:URow} (hr:r ∈ rows) {x:Nat} (hx:r.v.ownBlock=some x):B≤x∧x < w.heap.size:=own_block_in (h.coll r hr).own hx
theorem D.UnderS.keep (h:UnderS B mu G ou w) (h1:w'.heap[mu]? = w.heap[mu]?) (h2:∀ x ∈ ou,w'.heap[x]? = w.heap[x]?):UnderS B mu G ou w':=by
 obtain ⟨rows,c,g1,g2,g3⟩:=h.ex
 exact ⟨rows,c,g1.same h1,g2.keep fun r hr x hx=>h2 x (g2.own r hr x hx),g3⟩
theorem D.UPend.keep {k:WK} {u:Value} {L:List Value} {n:Nat} (h:UPend B mu G ou k u L n w) (h1:w'.heap[mu]? = w.heap[mu]?) (h2:∀ x ∈ ou,w'.heap[x]? = w.heap[x]?):UPend B mu G ou k u L n w':=by
 obtain ⟨A1,B1,c,g1,g2,g3,g4⟩:=h.ex
 exact ⟨⟨A1,B1,c,g1.same h1,g2.keep fun r hr x hx=>h2 x (g2.own r hr x hx),g3,g4⟩,h.coll.keepB intK_good (fun x hx=>h2 x (h.own x hx)) (fun b hb=>by simp at hb),h.own⟩
theorem D.UnderS.entry (h:UnderS B mu G ou w) (hm:mu < B) (k:WK):
  ∃ w' u n L,(Instr.mapEntry 84 (.map (some mu)) (.agg #[.string k.name,.int .i64 k.size,.int .i64 k.place,.string k.word])).run Tryz.prog w=.ok (.tuple #[u,.int .i64 (n:Nat)]) w'∧UPend B mu G ou k u L n w'∧w.grownBy w' (some mu):=by
 obtain ⟨rows,c,g1,g2,g3⟩:=h.ex
 have kp:∀ {w':World},w.grownBy w' (some mu)→∀ r ∈ rows,∀ x,r.v.ownBlock=some x→w'.heap[x]? = w.heap[x]?:=fun hg r hr x hx=>by
  obtain ⟨h1,h2⟩:=g2.lt hr hx
  exact hg.block x h2 (fun e=>by injection e with e; omega)
 by_cases hex:∃ r ∈ rows,r.k=k
 ·obtain ⟨r,hr,rfl⟩:=hex
  obtain ⟨A1,B1,rfl⟩:=List.append_of_mem hr
  rw [List.map_append,List.map_cons] at g1
  obtain ⟨w',r1,r2,r3⟩:=run_mape_old keyV_wk (w:=w) trivial Tryz.underlying84 g1
  have hsub:∀ s ∈ A1 ++ B1,s ∈ A1 ++ r :: B1:=fun s hs=>(List.mem_append.1 hs).elim (fun h=>List.mem_append_left _ h) fun h=>List.mem_append_right _ (List.mem_cons_of_mem _ h)
  have hne:∀ s ∈ A1 ++ B1,s.k ≠ r.k:=fun s hs e=>by
   have ho:=r2.once
   obtain ⟨p1,p2,p3⟩:=List.pairwise_append.1 ho
   rcases List.mem_append.1 hs with hs | hs
   ·exact p3 (entE s) (List.mem_map.2 ⟨s,hs,rfl⟩) (entE r) (List.mem_cons_self ..) (by show wkV s.k=wkV r.k; rw [e])
   ·exact (List.pairwise_cons.1 p2).1 (entE s) (List.mem_map.2 ⟨s,hs,rfl⟩) (by show wkV r.k=wkV s.k; rw [e])
  have g2':=g2.keep (kp r3)
  refine ⟨w',r.v,r.n,r.L,r1,⟨⟨A1,B1,c,r2,⟨fun s hs=>g2'.coll s (hsub s hs),fun s hs t ht=>g2'.dis s (hsub s hs) t (hsub t ht),fun s hs=>g2'.own s (hsub s hs)⟩,fun s hs=>⟨hne s hs,g2.dis r hr s (hsub s hs) (fun e=>hne s hs e.symm)⟩,fun k' hk' hno=>g3 k' fun s hs=>?_⟩,g2'.coll r hr,g2.own r hr⟩,r3⟩
  rcases List.mem_append.1 hs with hs | hs
  ·exact hno s (List.mem_append_left _ hs)
  ·rcases List.mem_cons.1 hs with rfl | hs
   ·exact fun e=>hk' e.symm
   ·exact hno s (List.mem_append_right _ hs)
 ·have hno:∀ r ∈ rows,r.k ≠ k:=fun r hr e=>hex ⟨r,hr,e⟩
  obtain ⟨w',r1,r2,r3⟩:=run_mape_new keyV_wk (w:=w) trivial Tryz.underlying84 (k:=wkV k) (z:=.slice none 0 0) g1 (by kernel_rfl) ⟨k,rfl⟩ (fun p hp e=>by
   obtain ⟨r,hr,rfl⟩:=List.mem_map.1 hp
   exact hno r hr (wkV_inj e))
  refine ⟨w',.slice none 0 0,c,[],r1,⟨⟨rows,[],c+1,by simpa using r2,by simpa using g2.keep (kp r3),fun r hr=>?_,fun k' hk' hn=>g3 k' fun r hr=>hn r (by simpa using hr)⟩,by rw [g3 k hno]; exact Coll.nil _,fun x hx=>by simp [Value.ownBlock] at hx⟩,r3⟩
  simp at hr
  exact ⟨hno r hr,fun x hx=>by simp [Value.ownBlock] at hx⟩
theorem D.UPend.store {k:WK} {u v':Value} {L L':List Value} {n i:Nat} (h:UPend B mu G ou k u L n w) (hm:mu < B) (hg:w.grownBy w' u.ownBlock) (hc:Coll 1 intK B 3 w' v' L' (G k ++ [i]) []) (hloc:v'.ownBlock=u.ownBlock∨v'.ownBlock=some w.heap.size):
  ∃ w2 ou',(Instr.entryStore 84 (.map (some mu)) (.int .i64 (n:Nat)) v').run Tryz.prog w'=.ok () w2∧UnderS B mu (updG G k i) ou' w2∧w'.grownBy w2 (some mu)∧∀ x ∈ ou',x ∈ ou∨(v'.ownBlock=some x∧x=w.heap.size):=by
 obtain ⟨A1,B1,c,g1,g2,g3,g4⟩:=h.ex
 have hmu:w'.heap[mu]? = w.heap[mu]?:=hg.block mu g1.lt (fun e=>by
  have:=(own_block_in h.coll.own e.symm).1; omega)
 obtain ⟨w2,r1,r2,r3⟩:=run_mape_store (P:=Tryz.prog) (t:=84) v' (g1.same hmu)
 have kp2:∀ x,B≤x→x < w'.heap.size→w2.heap[x]? = w'.heap[x]?:=fun x h1 h2=>r3.block x h2 (fun e=>by injection e with e; omega)
 have g2':RowsOk B G ou (A1 ++ B1) w2:=g2.keep fun r hr x hx=>by
  obtain ⟨h1,h2⟩:=g2.lt hr hx
  exact (kp2 x h1 (Nat.lt_of_lt_of_le h2 hg.size)).trans (hg.block x h2 (fun e=>(g3 r hr).2 x e.symm hx))
 have hc2:Coll 1 intK B 3 w2 v' L' (G k ++ [i]) []:=hc.keepB intK_good (fun x hx=>by
  obtain ⟨h1,h2⟩:=own_block_in hc.own hx
  exact kp2 x h1 h2) (fun b hb=>by simp at hb)
 have hdis:∀ r ∈ A1 ++ B1,Dis v' r.v:=fun r hr x hx hx2=>by
  rcases hloc with e | e
  ·exact (g3 r hr).2 x (e ▸ hx) hx2
  ·rw [e] at hx
   have:=(g2.lt hr hx2).2
   injection hx with hx
   omega
 refine ⟨w2,ou ++ v'.ownBlock.toList,r1,⟨A1 ++ ⟨k,v',L',n⟩ :: B1,c,by rw [List.map_append,List.map_cons]; exact r2,⟨fun r hr=>?_,fun r hr s hs hne=>?_,fun r hr x hx=>?_⟩,fun k' hno=>?_⟩,r3,fun x hx=>?_⟩
 ·rcases List.mem_append.1 hr with hr | hr
  ·have:=g2'.coll r (List.mem_append_left _ hr)
   unfold updG; rw [if_neg (g3 r (List.mem_append_left _ hr)).1]; exact this
  ·rcases List.mem_cons.1 hr with rfl | hr
   ·unfold updG; rw [if_pos rfl]; exact hc2
   ·have:=g2'.coll r (List.mem_append_right _ hr)
    unfold updG; rw [if_neg (g3 r (List.mem_append_right _ hr)).1]; exact this
 ·have cs:∀ t ∈ A1 ++ ⟨k,v',L',n⟩ :: B1,t=⟨k,v',L',n⟩∨t ∈ A1 ++ B1:=fun t ht=>by
   rcases List.mem_append.1 ht with ht | ht
   ·exact .inr (List.mem_append_left _ ht)
   ·rcases List.mem_cons.1 ht with rfl | ht
    ·exact .inl rfl
    ·exact .inr (List.mem_append_right _ ht)
  rcases cs r hr with rfl | hr <;> rcases cs s hs with rfl | hs
  ·exact absurd rfl hne
  ·exact hdis s hs
  ·exact (hdis r hr).symm
  ·exact g2.dis r hr s hs hne
 ·rcases List.mem_append.1 hr with hr | hr
  ·exact List.mem_append_left _ (g2.own r (List.mem_append_left _ hr) x hx)
  ·rcases List.mem_cons.1 hr with rfl | hr
   ·have hx':v'.ownBlock=some x:=hx
    exact List.mem_append_right _ (by rw [hx']; simp)
   ·exact List.mem_append_left _ (g2.own r (List.mem_append_right _ hr) x hx)
 ·have hkk:k' ≠ k:=fun e=>hno ⟨k,v',L',n⟩ (by simp) e.symm
  unfold updG
  rw [if_neg hkk]
  exact g4 k' hkk fun r hr=>(List.mem_append.1 hr).elim (fun h=>hno r (List.mem_append_left _ h)) fun h=>hno r (List.mem_append_right _ (List.mem_cons_of_mem _ h))
 ·rcases List.mem_append.1 hx with h' | h'
  ·exact .inl h'
  ·have hx':v'.ownBlock=some x:=by simpa using h'
   rcases hloc with e | e
   ·exact .inl (h.own x (e ▸ hx'))
   ·refine .inr ⟨hx',?_⟩
    rw [e] at hx'
    injection hx' with hx'
    exact hx'.symm
end
end Go.Proofs.YtiidmgchadagbaaGreatDoor
