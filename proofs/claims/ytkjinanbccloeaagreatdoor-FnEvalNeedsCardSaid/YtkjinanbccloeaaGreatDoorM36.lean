/- Of the proof of FnEvalNeeds: NeedI, DrawEv. -/
import Derived.Test.YtkjinanbccloeaaGreatDoorM34
set_option linter.unusedVariables false
set_option maxHeartbeats 4000000
set_option maxRecDepth 100000
namespace Go.Proofs.YtkjinanbccloeaaGreatDoor
open Go.RowKit D
attribute [local go_sem ↓] Go.wp_at_zero Go.wp_at_succ
open Classical in
noncomputable def D.iM (rs:List Ru) (s:ByteArray):List ByteArray:=if dJ rs=0∧s ∈ jE rs then needs rs s else []
theorem D.GV {rs:List Ru} (h:Fine rs):(jE rs).length≤40:=by
 have h1:=(jc h.ok).2;have y:=h.few;unfold jE;rw [List.length_map]; omega
structure D.Seen (rs:List Ru) (s:ByteArray) (L:List ByteArray):Prop where
 has:s ∈ L
 reach:∀ x ∈ L,Reach rs s x
 sub:∀ x ∈ L,x ∈ jE rs
 nd:L.Nodup
theorem D.Seen.few {rs:List Ru} {s:ByteArray} {L:List ByteArray} (h:Seen rs s L):L.length≤(jE rs).length:=pG h.nd h.sub
def D.zi (r:Ru) (L:List ByteArray):Prop:=r.head.name ∈ L→∀ p ∈ r.body,p.atom.name ∈ L
theorem D.Seen.put {rs:List Ru} {s:ByteArray} {L:List ByteArray} (h:Seen rs s L) {r:Ru} (hr:r ∈ rs) (J:r.head.name ∈ L) {p:Pt} (I:p ∈ r.body):Seen rs s (dG L p.atom.name):=by
 refine ⟨dw.2 (.inl h.has),fun x y=>?_,fun x y=>?_,pX h.nd _⟩
 ·rcases dw.1 y with y | rfl
  ·exact h.reach x y
  ·exact .step (h.reach _ J) hr I
 ·rcases dw.1 y with y | rfl
  ·exact h.sub x y
  ·exact Fp hr I
theorem D.MX (L:List ByteArray) (s:ByteArray):L.length≤(dG L s).length∧((dG L s).length=L.length→s ∈ L∧dG L s=L):=by
 unfold dG
 split
 ·rename_i h; exact ⟨ν,fun _=>⟨h,rfl⟩⟩
 ·exact ⟨by simp,fun h=>by simp at h⟩
theorem DI (rs:List Ru) (s:ByteArray) (v:Value) (bs:List Nat) (w:World) (h:dI w [v] rs bs) (hg:lY w) (hs:s.size≤maxLen):
  Calls Tryz.prog 21 #[v,.string s] w (Makes fU (iM rs s) w.heap.size w):=by
 have c1:=qo rs v bs w h hg;have C2:=η fun w' (I:Below w.heap.size w w') (hok:rs.all dM=true) (hf:rs.length≤8)=>qf rs v bs w' (bG.below h I) hok hf
 have az:Hid (∀ w',Below w.heap.size w w'→iM rs s = []→Makes fU (iM rs s) w.heap.size w (.returned (.slice none 0 0)) w'):=η fun w' I e=>⟨I,_,[],rfl,by rw [e]; exact ⟨_,_,rfl,ν,ε,fun _=>rfl,fun h=>absurd rfl h⟩,New.nil _ _⟩
 obtain ⟨Ad,cap,rfl,hl,hm⟩:=ak h;have c4:=aA (τ hl hm);have bw:=@run_makeMap Tryz.prog;have HS:=η hs;clear hl hm hg hs;by_cases hp:dJ rs=0
 ·have am:=(lG rs).1 hp
  have HF:=η am;have ao:Hid (∀ x,x ∈ (bZ (aB rs)).1 ↔ x ∈ jE rs):=η fun x=>by rw [(ny (aB rs)).1]; unfold jE; rw [List.mem_map]
  rw [decide_eq_true hp] at c1;by_cases hn:s ∈ jE rs
  ·have HZ:Hid (iM rs s=needs rs s):=η (by unfold iM; rw [if_pos ⟨hp,hn⟩])
   have HD:Hid (decide (s ∈ (bZ (aB rs)).1)=true):=η (decide_eq_true ((ao.out s).2 hn));obtain ⟨x,hx⟩:∃ x:Int,(if s ∈ (bZ (aB rs)).1 then (bZ (aB rs)).2.1 s else 0)=x:=⟨_,rfl⟩;have HX:=η hx;have aD:=η (GV am);have a6:Hid (Seen rs s [s]):=η ⟨by simp,fun x hx=>by rw [List.mem_singleton.1 hx]; exact .self,fun x hx=>by rw [List.mem_singleton.1 hx]; exact hn,by simp⟩;clear hp am hx hn
   go_enter Tryz.func21,Tryz.ntmps21
   go_wp2_with fail
   refine c1.mono ?_;rintro e w1 ⟨rfl,J⟩;clear c1
   go_wp2_with fail
   refine (C2.out _ J HF.out.ok HF.out.few).mono ?_;rintro e w2 ⟨rfl,n,U,a7⟩;have B2:=J.trans (a7.mono J.size);have HM:=η U;have b5:Hid (eU w2.heap.size 0 [] (fun _=>0) (w2.alloc (.map #[] 0))):=η (eU.made w2 _);have hA:Below w2.heap.size w2 (w2.alloc (.map #[] 0)):=ζ;have HA:=η (B2.trans (hA.mono B2.size));have aM:w.heap.size≤w2.heap.size:=B2.size;clear U J a7 C2 B2 hA
   go_wp2_with (first
    | (at_lookup; refine bQ _ rfl _ _ _ rfl Tryz.underlying116 _ _ _ _ rfl HM.out s rfl HS.out true HD.out x HX.out ?_)
    | (with_reducible show Go.wpList _ _ _ (Go.Oper.mk _ (Go.Op.insert _ _ _ _) _ _ _ _ :: _) _ _; refine uH _ rfl _ _ _ _ rfl Tryz.underlying116 _ _ _ _ rfl b5.out s rfl HS.out 0 rfl (by unfold maxLen; omega) (by omega) ?_; intro w3 b6 b8)
    | go_in)
   have aR:Hid (eU w2.heap.size 1 [s] (fun _=>0) w3):=η ((show eU w2.heap.size 1 (dG [] s) _ w3 from b6).congr fun t _=>by split <;> rfl);have b9:=η (HA.out.grown b8 (by have:=HA.out.size; exact this) fun j hj=>by cases hj; exact aM);clear b6 b8 HM b5 HA HX HD;obtain ⟨B,hB⟩:∃ B,B=w2.heap.size:=⟨_,rfl⟩;rw [← hB] at aR aM ⊢;clear hB bw
   go_loopw [10] (fun bf wr=>∃ (k:Nat) (L:List ByteArray),bf=.int .i64 k∧k≤L.length∧eU B L.length L (fun _=>0) wr∧Seen rs s L∧(k=L.length→∀ r ∈ rs,zi r L)∧Below w.heap.size w wr) (fun bf _=>41 - (intOf bf).toNat)
   case atStart=>exact ⟨0,[s],rfl,ε,aR.out,a6.out,fun h=>by simp at h,b9.out⟩
   case round=>
    clear aR a6 b9;obtain ⟨k,L,rfl,hk,U,y,a0,I⟩:=hrel;have bc:L.length≤40:=τ y.few aD.out;have bx:(L.length:Int)≤40:=by omega
    have HM:=η U;have HB:=η I;by_cases bz:k < L.length
    ·have aE:(k:Int) < (L.length:Int):=by omega
     have a2:=η y;obtain ⟨k0,b1⟩:∃ k0,k0=L.length:=⟨_,rfl⟩;have bh:Hid (k0=L.length∧k < k0):=η ⟨b1,by omega⟩;have c3:k0≤40:=by omega
     clear U I y a0
     go_wp2_with (first | (at_len; refine dN _ rfl _ _ rfl Tryz.underlying116 _ _ _ _ rfl HM.out ?_) | go_in)
     rw [← b1];clear b1 bx bc bz aE hk
     go_loopw [44] (fun i wr=>∃ (j:Nat) (M:List ByteArray),j≤rs.length∧i=.int .i64 j∧k0≤M.length∧eU B M.length M (fun _=>0) wr∧Seen rs s M∧(k0=M.length→∀ r ∈ rs.take j,zi r M)∧Below w.heap.size w wr) (fun i _=>rs.length - (intOf i).toNat)
     case atStart=>exact ⟨0,L,ε,rfl,by rw [bh.out.1]; exact ν,HM.out,a2.out,fun _ r hr=>by simp at hr,HB.out⟩
     case round=>
      obtain ⟨j,M,hj,rfl,ap,U,y,a0,I⟩:=hrel;clear HM HB a2;by_cases a3:j < rs.length
      ·obtain ⟨b0,o0,Ae,ce,Af,cf,bk,rfl,_,d0,d1,d2,b2,_⟩:=fZ h a3
       replace d0:=ξ I d0;replace d1:=ξ I d1;replace d2:=ξ I d2;obtain ⟨_,bb,_,_,bi⟩:=gW b2;have bA:=η bi;have c5:(0:Int)≤(j:Int):=by omega
       have bB:(j:Int) < (rs.length:Int):=by omega
       have hA:Below wr.heap.size wr (wr.alloc (.cells #[.string rs[j].head.name,.slice Ae rs[j].head.args.length ce,.slice Af rs[j].body.length cf] 40)):=ζ;have bj:Hid (rs[j].head.name.size≤maxLen):=η (by obtain ⟨_,_,_,_,_,hs,_⟩:=b2; exact hs);have bl:=η (δ a3)
       have a8:Hid (∀ M,(∀ r ∈ rs.take j,zi r M)→zi rs[j] M→∀ r ∈ rs.take (j+1),zi r M):=η fun M h1 h2 r hr=>by
        rw [ρ a3] at hr
        rcases μ.1 hr with hr | hr
        ·exact h1 r hr
        ·rw [List.mem_singleton.1 hr]; exact h2
       have c6:(rs[j].body.length:Int)≤4:=by have:=(jA (List.all_eq_true.1 HF.out.ok _ (δ a3))).1; omega
       have a9:=η (U.below hA U.lt);have aa:=η (I.trans (hA.mono I.size));have a2:=η y;have bn:=η a0;have ab:=η ap;clear b2 bi hA U I y a0 ap;have aq:=η a3;generalize rs[j]=r at *;clear a3;obtain ⟨⟨nm,args⟩,body⟩:=r;dsimp only at *;by_cases hin:nm ∈ M
       ·have HD:Hid (decide (nm ∈ M)=true):=η (decide_eq_true hin)
        have HV:Hid ((if nm ∈ M then (0:Int) else 0)=0):=η (by split <;> rfl);have ao:=η hin;clear hin
        go_wp2_with (first | (at_lookup; refine bQ _ rfl _ _ _ rfl Tryz.underlying116 _ _ M _ rfl a9.out nm rfl bj.out true HD.out 0 HV.out ?_) | go_in)
        generalize wr.alloc (.cells #[.string nm,.slice Ae args.length ce,.slice Af body.length cf] 40)=w5 at *
        go_loopw [61] (fun i wr=>∃ (q:Nat) (P:List ByteArray),q≤body.length∧i=.int .i64 q∧(∀ x ∈ M,x ∈ P)∧M.length≤P.length∧(M.length=P.length→P=M)∧eU B P.length P (fun _=>0) wr∧Seen rs s P∧(∀ p ∈ body.take q,p.atom.name ∈ P)∧Below w.heap.size w wr) (fun i _=>body.length - (intOf i).toNat)
        case atStart=>exact ⟨0,M,ε,rfl,fun x h=>h,ν,fun _=>rfl,a9.out,a2.out,fun p hp=>by simp at hp,aa.out⟩
        case round=>
         clear a9 a2 aa;obtain ⟨q,P,hq,rfl,a1,ar,av,U,y,aw,I⟩:=hrel;by_cases ac:q < body.length
         ·obtain ⟨b4,o4,Ag,cg,bg,rfl,_,f0,f1,f2,aL,_⟩:=gV bA.out ac
          replace f0:=ξ I f0;replace f1:=ξ I f1;replace f2:=ξ I f2;have c8:(0:Int)≤(q:Int):=by omega
          have bE:(q:Int) < (body.length:Int):=by omega
          have bL:Hid (body[q].atom.name.size≤maxLen):=η (by obtain ⟨_,_,hs,_⟩:=aL; exact hs);have hA:Below wr.heap.size wr (wr.alloc (.cells #[.bool body[q].no,.string body[q].atom.name,.slice Ag body[q].atom.args.length cg] 42)):=ζ;have ae:=η (U.below hA U.lt);have a4:=η (I.trans (hA.mono I.size));have af:=η (y.put bl.out (a1 _ ao.out) (δ ac));have b3:=MX P body[q].atom.name
          have ag:Hid ((∀ x ∈ M,x ∈ dG P body[q].atom.name)∧M.length≤(dG P body[q].atom.name).length∧(M.length=(dG P body[q].atom.name).length→dG P body[q].atom.name=M)):=η ⟨fun x hx=>dw.2 (.inl (a1 x hx)),τ ar b3.1,fun e=>by
           have h1:=b3.2 (by omega)
           rw [h1.2]; exact av (by omega)⟩
          have bO:Hid (∀ p ∈ body.take (q+1),p.atom.name ∈ dG P body[q].atom.name):=η fun p hp=>by
           rw [ρ ac] at hp
           rcases μ.1 hp with hp | hp
           ·exact dw.2 (.inl (aw p hp))
           ·rw [List.mem_singleton.1 hp]; exact dw.2 (.inr rfl)
          have bo:P.length < maxLen:=by have h1:=y.few; have h2:=aD.out; unfold maxLen; omega
          clear aL hA U I y a1 ar av aw b3;have bp:=η ac;generalize body[q]=p at *;clear ac;obtain ⟨no,⟨pn,bR⟩⟩:=p;dsimp only at *
          go_wp2_with (first | (at_mapUpdate; refine je _ rfl _ _ _ _ rfl Tryz.underlying116 _ _ P _ rfl ae.out pn rfl bL.out 0 rfl bo (by omega) ?_; intro w6 bq br) | go_in)
          have bX:=η ((bq.congr (g:=fun _=>0) fun t _=>by split <;> rfl).tight);have c0:=η (a4.out.grown br (by have:=a4.out.size; exact this) fun j hj=>by cases hj; exact aM);clear bq br;go_roundw
          case rel=>exact ⟨q+1,_,bp.out,by go_num,ag.out.1,ag.out.2.1,ag.out.2.2,bX.out,af.out,bO.out,c0.out⟩
          case measure=>have:=bp.out; simp [intOf]; omega
         ·have he:q=body.length:=by omega
          have bE:¬ (q:Int) < (body.length:Int):=by omega
          have a5:Hid (k0≤P.length∧(k0=P.length→∀ r ∈ rs.take (j+1),zi r P)):=η ⟨τ ab.out ar,fun e=>by
           have h1:=ab.out;have h2:P=M:=av (by omega);refine a8.out P (by rw [h2]; exact bn.out (by omega)) fun _ p hp=>aw p ?_
           rw [he,ϕ ν]; exact hp⟩
          have ae:=η U;have a4:=η I;have af:=η y;clear U I y a1 ar av aw he;go_wp2;go_roundw
          case rel=>exact ⟨j+1,P,aq.out,by go_num,a5.out.1,ae.out,af.out,a5.out.2,a4.out⟩
          case measure=>have:=aq.out; simp [intOf]; omega
       ·have HD:Hid (decide (nm ∈ M)=false):=η (decide_eq_false hin)
        have HV:Hid ((if nm ∈ M then (0:Int) else 0)=0):=η (by split <;> rfl);have a5:Hid (k0=M.length→∀ r ∈ rs.take (j+1),zi r M):=η fun e=>a8.out M (bn.out e) fun h=>absurd h hin
        clear hin
        go_wp2_with (first | (at_lookup; refine bQ _ rfl _ _ _ rfl Tryz.underlying116 _ _ M _ rfl a9.out nm rfl bj.out false HD.out 0 HV.out ?_) | go_in)
        go_roundw
        case rel=>exact ⟨j+1,M,aq.out,by go_num,ab.out,a9.out,a2.out,a5.out,aa.out⟩
        case measure=>have:=aq.out; simp [intOf]; omega
      ·have he:j=rs.length:=by omega
       have bB:¬ (j:Int) < (rs.length:Int):=by omega
       have a5:Hid (k0=M.length→∀ r ∈ rs,zi r M):=η (by rw [he,ϕ ν] at a0; exact a0);have ae:=η U;have a4:=η I;have af:=η y;have ab:=η ap;clear U I y a0 he ap;go_wp2;go_roundw
       case rel=>exact ⟨k0,M,rfl,ab.out,ae.out,af.out,a5.out,a4.out⟩
       case measure=>have:=bh.out.2; simp [intOf]; omega
    ·have he:k=L.length:=by omega
     have aE:¬ (k:Int) < (L.length:Int):=by omega
     have HE:Hid (lU L=iM rs s):=η (by rw [HZ.out]; exact J6 y.has y.reach fun r hr=>a0 he r hr);have c7:=nU B _ L _ wr U (by omega);rw [HE.out] at c7;clear U I y a0 h
     go_wp2_with (at_len; refine dN _ rfl _ _ rfl Tryz.underlying116 _ _ _ _ rfl HM.out ?_)
     refine c7.mono ?_;rintro e w7 ⟨bt,v7,b7,rfl,bu,bv⟩;have HW:Hid (Makes fU (iM rs s) w.heap.size w (.returned v7) w7):=η ⟨HB.out.trans (bt.mono HB.out.size),v7,b7,rfl,bu,bv.mono HB.out.size⟩;clear c7 bt bu bv;go_wp2;go_ret;exact HW.out
  ·have HZ:Hid (iM rs s = []):=η (by unfold iM; rw [if_neg fun h=>hn h.2])
   have HD:Hid (decide (s ∈ (bZ (aB rs)).1)=false):=η (decide_eq_false fun h=>hn ((ao.out s).1 h));obtain ⟨x,hx⟩:∃ x:Int,(if s ∈ (bZ (aB rs)).1 then (bZ (aB rs)).2.1 s else 0)=x:=⟨_,rfl⟩;have HX:=η hx;clear hp am hx hn h
   go_enter Tryz.func21,Tryz.ntmps21
   go_wp2_with fail
   refine c1.mono ?_;rintro e w1 ⟨rfl,J⟩;clear c1
   go_wp2_with fail
   refine (C2.out _ J HF.out.ok HF.out.few).mono ?_;rintro e w2 ⟨rfl,n,U,a7⟩;have B2:=η (J.trans (a7.mono J.size));have HM:=η U;clear U J a7 C2
   go_wp2_with (first
    | (at_lookup; refine bQ _ rfl _ _ _ rfl Tryz.underlying116 _ _ _ _ rfl HM.out s rfl HS.out false HD.out x HX.out ?_)
    | go_in)
   go_ret;exact az.out _ B2.out HZ.out
 ·have HZ:Hid (iM rs s = []):=η (by unfold iM; rw [if_neg fun h=>hp h.1])
  rw [decide_eq_false hp] at c1;clear hp C2 h
  go_enter Tryz.func21,Tryz.ntmps21
  go_wp2_with fail
  refine c1.mono ?_;rintro e w1 ⟨rfl,J⟩;have aa:=η J;clear J;go_wp2;go_ret;exact az.out _ aa.out HZ.out
def UZ (w:World) (e:Ending) (w':World):Prop:=∃ (rs:List Ru) (y:Option Addr) (I:Nat) (b0:List Nat) (xs:List A) (J:Option Addr) (c1:Nat) (U:List Nat),e=.returned (.tuple #[.slice y rs.length I,.slice J xs.length c1])∧dI w' [.slice y rs.length I] rs b0∧aV w' [.slice J xs.length c1] xs U∧
 rs.length≤9∧xs.length≤50∧Below w.heap.size w w'
def WB (g p:Nat) (w:World) (e:Ending) (w':World):Prop:=∃ i:Nat,e=.returned (.int .i64 i)∧5≤i∧i≤7∧kC g (p+1) w'∧aG [g] w w'
theorem U0 (g p:Nat) (w:World) (h:kC g p w) (hp:p≤1000000):
  Calls Tryz.prog 48 #[.pointer (some ⟨g,0,none⟩),.slice (some ⟨w.heap.size,0,none⟩) 3 3] (w.alloc (.cells #[.int .i64 6,.int .i64 7,.int .i64 5] 3)) (WB g p w):=by
 have hA:Below w.heap.size w (w.alloc (.cells #[.int .i64 6,.int .i64 7,.int .i64 5] 3)):=ζ;have I:=pick_any g p 3 _ (h.below hA) hp (by omega) (by omega);have a2:=h.lt;have x0:(w.alloc (.cells #[.int .i64 6,.int .i64 7,.int .i64 5] 3)).cell? ⟨w.heap.size,0,none⟩=some (.int .i64 6):=by go_simp
 have x1:(w.alloc (.cells #[.int .i64 6,.int .i64 7,.int .i64 5] 3)).cell? ⟨w.heap.size,1,none⟩=some (.int .i64 7):=by go_simp
 have x2:(w.alloc (.cells #[.int .i64 6,.int .i64 7,.int .i64 5] 3)).cell? ⟨w.heap.size,2,none⟩=some (.int .i64 5):=by go_simp
 have HK:=η (fun w1 (J:(w.alloc (.cells #[.int .i64 6,.int .i64 7,.int .i64 5] 3)).grownBy w1 (some g))=>(aG.of_below hA).trans (aG.dV J));generalize hW:w.alloc (.cells #[.int .i64 6,.int .i64 7,.int .i64 5] 3)=W at *;have a0:w.heap.size < W.heap.size:=lt_of_cell x0
 go_enter Tryz.func48,Tryz.ntmps48
 go_wp2_with fail
 refine I.mono ?_;rintro e w1 ⟨i,rfl,hi,hR,J⟩;have U:=J.block w.heap.size a0 (by simp; omega);replace x0:=(World.cell?_of_block U).trans x0;replace x1:=(World.cell?_of_block U).trans x1;replace x2:=(World.cell?_of_block U).trans x2;have y:=η (HK.out w1 J);clear I U J HK;have a1:i=0∨i=1∨i=2:=by omega
 rcases a1 with rfl | rfl | rfl
 all_goals
  go_wp2;go_ret
 ·exact ⟨6,rfl,by omega,by omega,hR,y.out⟩
 ·exact ⟨7,rfl,by omega,by omega,hR,y.out⟩
 ·exact ⟨5,rfl,by omega,by omega,hR,y.out⟩
def D.U1 (n x:ByteArray):A:=⟨n,[⟨true,x⟩]⟩
theorem uS (n x:ByteArray) (w:World) (I:n.size≤maxLen) (J:x.size≤maxLen):
  Calls Tryz.prog 51 #[.string n,.string x] w fun e w'=>Below w.heap.size w w'∧w'.heap.size=w.heap.size+2∧∃ b,e=.returned (.agg #[.string n,.slice (some ⟨b,0,none⟩) 1 1])∧aI w' [.string n,.slice (some ⟨b,0,none⟩) 1 1] (U1 n x) [b]∧b=w.heap.size+1:=by
 go_enter Tryz.func51,Tryz.ntmps51
 go_wp2
 have y:((w.alloc (.cells #[.string n,.slice (some ⟨w.heap.size+1,0,none⟩) 1 1] 33)).alloc (.cells #[.bool true,.string x] 91)).heap[w.heap.size+1]? = some (.cells #[.bool true,.string x] 91 (0,0)):=by
  simpa using ω (w.alloc (.cells #[.string n,.slice (some ⟨w.heap.size+1,0,none⟩) 1 1] 33)) (.cells #[.bool true,.string x] 91)
 have U:((w.alloc (.cells #[.string n,.slice (some ⟨w.heap.size+1,0,none⟩) 1 1] 33)).alloc (.cells #[.bool true,.string x] 91)).cell? ⟨w.heap.size,0,none⟩=some (.string n):=by go_simp
 have z1:((w.alloc (.cells #[.string n,.slice (some ⟨w.heap.size+1,0,none⟩) 1 1] 33)).alloc (.cells #[.bool true,.string x] 91)).cell? ⟨w.heap.size,1,none⟩=some (.slice (some ⟨w.heap.size+1,0,none⟩) 1 1):=by go_simp
 refine bodyPost_ret (v:=.agg #[.string n,.slice (some ⟨w.heap.size+1,0,none⟩) 1 1]) (by simp [results,Tryz.results51,go_sem,U,z1]) rfl ?_;exact ⟨(ζ).alloc (by simp) _,by simp,_,rfl,⟨_,rfl,I,mP y J⟩,rfl⟩
theorem D.MZ (w:World) (y I J:ByteArray) (U s2 s3:Value) {a1 a2 a3:A} {b1 b2 b3:List Nat} (h1:aI w [.string y,U] a1 b1) (h2:aI w [.string I,s2] a2 b2) (h3:aI w [.string J,s3] a3 b3):
  ∃ bs,gU (w.alloc (.cells #[.bool false,.string y,U,.bool false,.string I,s2,.bool false,.string J,s3] 42)) [.slice (some ⟨w.heap.size,0,none⟩) 3 3] [⟨false,a1⟩,⟨false,a2⟩,⟨false,a3⟩] bs:=by
 have hA:Below w.heap.size w (w.alloc (.cells #[.bool false,.string y,U,.bool false,.string I,s2,.bool false,.string J,s3] 42)):=ζ
 have el:∀ {n:ByteArray} {s:Value} {a:A} {b:List Nat},aI w [.string n,s] a b→aQ 3 nJ (w.alloc (.cells #[.bool false,.string y,U,.bool false,.string I,s2,.bool false,.string J,s3] 42)) [.bool false,.string n,s] [⟨false,a⟩] b:=fun h=>by
  obtain ⟨s',a0,hn,ht⟩:=aj.below h hA;simp only [List.cons.injEq,and_true] at a0;obtain ⟨e1,rfl⟩:=a0;exact aQ.cu Bh ⟨_,by rw [e1],hn,ht⟩
 obtain ⟨bs,h,_⟩:=(((el h1).append (el h2)).append (el h3)).slice (World.ownsRow_lit (base:=w.heap.size) (e:=42) w #[.bool false,.string y,U,.bool false,.string I,s2,.bool false,.string J,s3] 3 ν (by unfold maxLen; omega) rfl);exact ⟨bs,h⟩
theorem SK (w:World) (y:ByteArray) (h1:y.size≤100):∃ bs,eH (w.alloc (.cells #[.bool false,.string y] 91)) [.slice (some ⟨w.heap.size,0,none⟩) 1 1] [⟨false,y⟩] bs∧∀ c ∈ bs,w.heap.size≤c:=
 ⟨_,mP (ω w _) (τ h1 (by decide)),fun c hc=>by simp at hc; omega⟩
theorem Na (w:World) (y I J:ByteArray) (h1:y.size≤maxLen) (h2:I.size≤maxLen) (h3:J.size≤maxLen):∃ bs,eH (w.alloc (.cells #[.bool true,.string y,.bool true,.string I,.bool true,.string J] 91)) [.slice (some ⟨w.heap.size,0,none⟩) 3 3] [⟨true,y⟩,⟨true,I⟩,⟨true,J⟩] bs:=by
 have U:∀ {s:ByteArray},s.size≤maxLen→aQ 2 iT (w.alloc (.cells #[.bool true,.string y,.bool true,.string I,.bool true,.string J] 91)) [.bool true,.string s] [⟨true,s⟩] []:=fun h=>aQ.cu (n:=2) (R:=iT) jv ⟨rfl,h,rfl⟩
 obtain ⟨bs,h,_⟩:=(((U h1).append (U h2)).append (U h3)).slice (World.ownsRow_lit (base:=w.heap.size) (e:=91) w #[.bool true,.string y,.bool true,.string I,.bool true,.string J] 3 ν (by unfold maxLen; omega) rfl);exact ⟨bs,h⟩
theorem D.SL (w:World) (n:ByteArray) (s b:Value) {r:Ru} {bs:List Nat} (h:fG w [.string n,s,b] r bs):
  ∃ y,dI (w.alloc (.cells #[.string n,s,b] 40)) [.slice (some ⟨w.heap.size,0,none⟩) 1 1] [r] y:=by
 have I:Below w.heap.size w (w.alloc (.cells #[.string n,s,b] 40)):=ζ;obtain ⟨bs,h,_⟩:=(aQ.cu (n:=3) (R:=fG) kU (aU.below h I)).slice (World.ownsRow_lit (base:=w.heap.size) (e:=40) w #[.string n,s,b] 1 ν (by unfold maxLen; omega) rfl);exact ⟨bs,h⟩
theorem Pz (i:Nat) (w:World) (h:i≤7):Calls Tryz.prog 50 #[.int .i64 i] w fun e w'=>∃ s:ByteArray,e=.returned (.string s)∧s.size=1∧Below w.heap.size w w':=by
 by_cases y:i < 7
 ·exact (rH i w y).mono fun e w' ⟨h1,I⟩=>⟨_,h1,rfl,I⟩
 ·obtain rfl:i=7:=by omega
  have J:=JU
  go_enter Tryz.func50,Tryz.ntmps50
  go_wp2;go_ret;exact ⟨_,rfl,rfl,ζ⟩
theorem GX (v:Value) (cs:List UInt8) (bs:List Nat) (w:World) (h:qL w [v] cs bs) (hn:cs.length≤1048576):
  Calls Tryz.prog 12 #[v] w (UZ w):=by
 have ho:=open_any v cs bs w h hn;clear h
 go_enter Tryz.func12,Tryz.ntmps12
 go_wp2_with fail
 refine ho.mono ?_;rintro e w1 ⟨rfl,hR,hb⟩;have HB:=η hb;have aw:=pick_any _ 0 40 w1 hR (by omega) (by omega) (by omega);have HG:=η hR.lt;have az:Hid (∀ w',aG [w.heap.size] w1 w'→Below w.heap.size w w'):=η fun w' hK=>HB.out.trans (hK.below (fun b hb=>by simp at hb; omega) HB.out.size)
 have a9:Hid (∀ e w',(∃ (rs:List Ru) (A0:Option Addr) (c0:Nat) (b0:List Nat) (xs:List A) (A1:Option Addr) (c1:Nat) (b1:List Nat),e=.returned (.tuple #[.slice A0 rs.length c0,.slice A1 xs.length c1])∧dI w' [.slice A0 rs.length c0] rs b0∧aV w' [.slice A1 xs.length c1] xs b1∧rs.length≤9∧xs.length≤50∧aG [w.heap.size] w1 w')→UZ w e w'):=η fun e w' ⟨rs,A0,c0,b0,xs,A1,c1,b1,e1,e2,e3,e4,e5,e6⟩=>⟨rs,A0,c0,b0,xs,A1,c1,b1,e1,e2,e3,e4,e5,az.out _ e6⟩
 clear az HB;generalize w.heap.size=g at *;clear ho hb hR
 go_wp2_with fail
 refine aw.mono ?_;rintro e w2 ⟨k,rfl,bu,a4,aD⟩;have HK:Hid (aG [g] w1 w2):=η (aG.dV aD);have bv:Hid (g < w2.heap.size):=η (by have:=HG.out; have:=HK.out.size; omega);clear aw aD bu;by_cases hk:k=0
 ·subst hk
  have ag:Below w2.heap.size w2 (w2.alloc (.cells #[] 33)):=ζ;have am:Hid (nG g 1 w2 [] (.slice (some ⟨w2.heap.size,0,none⟩) 0 0) (w2.alloc (.cells #[] 33))):=η ⟨⟨_,_,aW.empty (ω w2 _) ν,fun b hb=>by simp at hb⟩,fun a ha=>by simp at ha,a4.below ag,aG.of_below ag,bv.out⟩;have a1:=U0 g 1 _ am.out.rdr (by omega);simp only [World.size_alloc] at a1;clear ag a4
  go_wp2_with fail
  refine a1.mono ?_;rintro e w3 ⟨i,rfl,bw,aE,aL,aM⟩;have aR:=η (am.out.call aL aM);clear a1 aL aM bw am;go_wp2
  go_loopw [5,6] (fun m i wr=>∃ (n:Nat) (xs:List A) (Am:Option Addr) (cm:Nat),n≤7∧i=.int .i64 n∧m=.slice Am xs.length cm∧gB xs=true∧xs.length+n≤7∧nG g 2 w2 xs (.slice Am xs.length cm) wr) (fun _ i _=>(intOf i).toNat)
  case atStart=>exact ⟨i,[],_,_,aE,rfl,rfl,rfl,by simpa using aE,aR.out⟩
  case round=>
   obtain ⟨n,xs,Am,cm,a5,rfl,rfl,aa,hlen,hF⟩:=hrel;have HF:=η hF;have HX:=η (ι aa hlen);clear hF aa hlen aR;by_cases ao:0 < n
   ·skip
    have bx:(0:Int) < (n:Int):=by omega
    have bR:wrap64 ((n:Int) - 1)=((n - 1:Nat):Int):=by unfold wrap64; omega
    have b2:=Pz n wr a5;have HN:=η (ι ao a5);clear ao a5
    go_wp2_with fail
    refine b2.mono ?_;rintro e w4 ⟨s1,rfl,bz,b3⟩;have ap:=η (HF.out.below b3);have bX:((⟨#[119]⟩:ByteArray) ++ s1).size=2:=by rw [ByteArray.size_append,bz]; rfl
    obtain ⟨bt,ht,b4⟩:=SK w4 ((⟨#[119]⟩:ByteArray) ++ s1) (by omega);have b5:Below w4.heap.size w4 (w4.alloc (.cells #[.bool false,.string ((⟨#[119]⟩:ByteArray) ++ s1)] 91)):=ζ;have bA:Hid (∀ c ∈ bt,w2.heap.size≤c):=η (fun c hc=>τ ap.out.kept.size (b4 c hc));clear b4;have a6:=η (ap.out.below b5);obtain ⟨b6,h6,b8⟩:=a6.out.atoms;have bB:=η b8;clear b8;have ab:=sN xs ⟨⟨#[112]⟩,[⟨false,(⟨#[119]⟩:ByteArray) ++ s1⟩]⟩ _ (.string ⟨#[112]⟩) (.slice (some ⟨w4.heap.size,0,none⟩) 1 1) b6 bt _ h6 ⟨_,rfl,(show (1:Nat)≤maxLen by decide),ht⟩ HX.out.1 (by have:=HX.out.2; omega);clear b2 b3 b5 ht h6 ap
    go_wp2_with fail
    refine ab.mono ?_;rintro e w6 ⟨bE,v6,b7,rfl,b9,ho⟩;have bL:=η (a6.out.put (xs':=dP xs ⟨⟨#[112]⟩,[⟨false,(⟨#[119]⟩:ByteArray) ++ s1⟩]⟩) bE (fun y hy=>by rcases sD hy with hy | rfl; exact a6.out.small y hy; exact (show (1:Nat)≤4 by decide)) ho (fun c hc=>(μ.1 hc).elim (bB.out c) (bA.out c)));obtain ⟨A6,c6,rfl,_,_⟩:=ak b9;have bc:=nV xs ⟨⟨#[112]⟩,[⟨false,(⟨#[119]⟩:ByteArray) ++ s1⟩]⟩;have bf:=vw HX.out.1 ⟨⟨#[112]⟩,[⟨false,(⟨#[119]⟩:ByteArray) ++ s1⟩]⟩;generalize dP xs ⟨⟨#[112]⟩,[⟨false,(⟨#[119]⟩:ByteArray) ++ s1⟩]⟩=ys at *;have HI:=η (ι bc bf);clear ab b9 ho a6 HF bc bf;go_wp2;go_roundw
    case rel=>exact ⟨n - 1,ys,A6,c6,by have:=HN.out; omega,by have:=HN.out; first | go_num | (unfold wrap64; congr 1; omega),rfl,HI.out.2,by have:=HN.out; have:=HX.out.2; have:=HI.out.1; omega,bL.out⟩
    case measure=>have:=HN.out; simp [intOf]; omega
   ·skip
    have bx:¬ (0:Int) < (n:Int):=by omega
    obtain rfl:n=0:=by omega
    clear a5 ao;have aq:Below wr.heap.size wr (wr.alloc (.cells #[.bool true,.string ⟨#[88]⟩,.bool true,.string ⟨#[89]⟩,.bool true,.string ⟨#[90]⟩] 91)):=ζ;have bg:Below wr.heap.size wr ((wr.alloc (.cells #[.bool true,.string ⟨#[88]⟩,.bool true,.string ⟨#[89]⟩,.bool true,.string ⟨#[90]⟩] 91)).alloc (.cells #[.string ⟨#[104]⟩,.slice (some ⟨wr.heap.size,0,none⟩) 3 3] 33)):=aq.alloc aq.size _;have bh:=Below.alloc (Below.refl (wr.alloc (.cells #[.bool true,.string ⟨#[88]⟩,.bool true,.string ⟨#[89]⟩,.bool true,.string ⟨#[90]⟩] 91)).heap.size _) ν (.cells #[.string ⟨#[104]⟩,.slice (some ⟨wr.heap.size,0,none⟩) 3 3] 33);obtain ⟨bt,ht⟩:=Na wr ⟨#[88]⟩ ⟨#[89]⟩ ⟨#[90]⟩ (by decide) (by decide) (by decide);have HT:=η (aN.below ht bh);have bO:=η (HF.out.below bg)
    have y0:((wr.alloc (.cells #[.bool true,.string ⟨#[88]⟩,.bool true,.string ⟨#[89]⟩,.bool true,.string ⟨#[90]⟩] 91)).alloc (.cells #[.string ⟨#[104]⟩,.slice (some ⟨wr.heap.size,0,none⟩) 3 3] 33)).cell? ⟨wr.heap.size+1,0,none⟩=some (.string ⟨#[104]⟩):=by go_simp
    have y1:((wr.alloc (.cells #[.bool true,.string ⟨#[88]⟩,.bool true,.string ⟨#[89]⟩,.bool true,.string ⟨#[90]⟩] 91)).alloc (.cells #[.string ⟨#[104]⟩,.slice (some ⟨wr.heap.size,0,none⟩) 3 3] 33)).cell? ⟨wr.heap.size+1,1,none⟩=some (.slice (some ⟨wr.heap.size,0,none⟩) 3 3):=by go_simp
    clear aq bg bh ht HF
    go_wp2_with fail
    generalize (wr.alloc (.cells #[.bool true,.string ⟨#[88]⟩,.bool true,.string ⟨#[89]⟩,.bool true,.string ⟨#[90]⟩] 91)).alloc (.cells #[.string ⟨#[104]⟩,.slice (some ⟨wr.heap.size,0,none⟩) 3 3] 33)=w7 at *;generalize wr.heap.size=nb at *
    go_region_held3 (fun w'=>w'.cell? ⟨nb+1,0,none⟩=some (.string ⟨#[104]⟩)∧w'.cell? ⟨nb+1,1,none⟩=some (.slice (some ⟨nb,0,none⟩) 3 3)) (first | go_keep | exact ⟨y0,y1⟩)
     (first
      | (go_at_call 51; (with_reducible refine Calls.mono (uS ⟨#[112]⟩ ⟨#[88]⟩ w7.drew (by decide) (by decide)) ?_); rintro e w8 ⟨a0,-,p1,rfl,ac,-⟩; replace a0:=(Below.drew (Below.refl w7.heap.size w7)).trans a0; replace y0:=ξ a0 y0; replace y1:=ξ a0 y1; have a7:=η a0; have bi:=η ac; clear a0 ac)
      | (go_at_call 51; (with_reducible refine Calls.mono (uS ⟨#[112]⟩ ⟨#[89]⟩ w8 (by decide) (by decide)) ?_); rintro e w9 ⟨a8,-,p2,rfl,ae,-⟩; replace y0:=ξ a8 y0; replace y1:=ξ a8 y1; have ar:=η a8; have bj:=η ae; clear a8 ae)
      | (go_at_call 51; (with_reducible refine Calls.mono (uS ⟨#[112]⟩ ⟨#[90]⟩ w9 (by decide) (by decide)) ?_); rintro e I ⟨J,-,p3,rfl,af,-⟩; replace y0:=ξ J y0; replace y1:=ξ J y1; have a2:=η J; have bk:=η af; clear J af))
    have a3:Below w7.heap.size w7 I:=(a7.out.trans (ar.out.mono a7.out.size)).trans (a2.out.mono (a7.out.trans (ar.out.mono a7.out.size)).size);obtain ⟨bp,bl⟩:=MZ I _ _ _ _ _ _ (aj.below (aj.below bi.out ar.out) a2.out) (aj.below bj.out a2.out) bk.out;have bn:Below I.heap.size I (I.alloc (.cells #[.bool false,.string ⟨#[112]⟩,.slice (some ⟨p1,0,none⟩) 1 1,.bool false,.string ⟨#[112]⟩,.slice (some ⟨p2,0,none⟩) 1 1,.bool false,.string ⟨#[112]⟩,.slice (some ⟨p3,0,none⟩) 1 1] 42)):=ζ;have U:=a3.trans (bn.mono a3.size);obtain ⟨br,bo⟩:=SL _ ⟨#[104]⟩ (.slice (some ⟨nb,0,none⟩) 3 3) (.slice (some ⟨I.heap.size,0,none⟩) 3 3) (r:=⟨⟨⟨#[104]⟩,[⟨true,⟨#[88]⟩⟩,⟨true,⟨#[89]⟩⟩,⟨true,⟨#[90]⟩⟩]⟩,[⟨false,U1 ⟨#[112]⟩ ⟨#[88]⟩⟩,⟨false,U1 ⟨#[112]⟩ ⟨#[89]⟩⟩,⟨false,U1 ⟨#[112]⟩ ⟨#[90]⟩⟩]⟩) ⟨_,_,_,_,rfl,(show (⟨#[104]⟩:ByteArray).size≤maxLen from by decide),rfl,aN.below HT.out U,bl⟩
    have bq:=Below.alloc U U.size (.cells #[.string ⟨#[104]⟩,.slice (some ⟨nb,0,none⟩) 3 3,.slice (some ⟨I.heap.size,0,none⟩) 3 3] 40);have av:=bO.out.below bq;obtain ⟨b6,h6,_⟩:=av.atoms;have HZ:Hid (UZ w (.returned (.tuple #[.slice (some ⟨(I.alloc (.cells #[.bool false,.string ⟨#[112]⟩,.slice (some ⟨p1,0,none⟩) 1 1,.bool false,.string ⟨#[112]⟩,.slice (some ⟨p2,0,none⟩) 1 1,.bool false,.string ⟨#[112]⟩,.slice (some ⟨p3,0,none⟩) 1 1] 42)).heap.size,0,none⟩) 1 1,.slice Am xs.length cm])) _):=η (a9.out _ _ ⟨[_],_,_,br,xs,Am,cm,b6,rfl,bo,h6,by simp,by have:=HX.out.2; omega,HK.out.trans av.kept⟩);clear a3 U bl bn bo bq av h6;rw [World.size_alloc] at HZ;go_wp2;go_ret2;exact HZ.out
 ·have c3:¬ ((k:Int)=0):=by omega
  have hd:=GR g 1 w2 a4 (by omega);clear a4 hk
  go_wp2_with fail
  refine hd.mono ?_;rintro e w3 ⟨rs,A0,c0,b0,xs,A1,c1,b1,p',rfl,h1,h2,_,_,h3,h4,h5,h6,_,_,hK⟩;have HZ:Hid (UZ w (.returned (.tuple #[.slice A0 rs.length c0,.slice A1 xs.length c1])) w3):=η (a9.out _ _ ⟨rs,A0,c0,b0,xs,A1,c1,b1,rfl,h1,h2,h3,h5,HK.out.trans hK⟩);clear hd h1 h2 h3 h4 h5 h6 hK;go_wp2;go_ret2;exact HZ.out
end Go.Proofs.YtkjinanbccloeaaGreatDoor
