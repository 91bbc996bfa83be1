/- Of the proof of FnDeltaBoth: ArgsI, TightS, RuleS, Grnd, L3L, DrawB. -/
import Derived.Test.YtkjinanbccloeaaGreatDoorC10
import Derived.Test.YtkjinanbccloeaaGreatDoorC09
set_option linter.unusedVariables false
set_option maxHeartbeats 2000000
set_option maxRecDepth 100000
namespace Go.Proofs.YtkjinanbccloeaaGreatDoor
open Go.RowKit D
attribute [local go_sem ↓] Go.wp_at_zero Go.wp_at_succ
structure D.AL (w:World) (B n:Nat) (st:List ByteArray × (ByteArray→Int) × Bool) (wr:World):Prop where
 map:iQ B n st.1 st.2.1 wr
 bm:wr.heap[B+1]? = some (.cells #[.map (some B)] 116 (0,0))
 bb:wr.heap[B+2]? = some (.cells #[.bool st.2.2] 4 (0,0))
 bel:Below B w wr
theorem D.AL.later {w wr w':World} {B n:Nat} {st:List ByteArray × (ByteArray→Int) × Bool} (h:AL w B n st wr) (hb:Below wr.heap.size wr w'):AL w B n st w':=
 ⟨h.map.below hb h.map.lt,(hb.block _ (ψ h.bm)).trans h.bm,(hb.block _ (ψ h.bb)).trans h.bb,h.bel.trans (hb.mono (Nat.le_of_lt (Nat.lt_of_le_of_lt (Nat.le_add_right _ _) (ψ h.bm))))⟩
theorem note_any (a:A) (c0 c1:Value) (bs:List Nat) (w0 w:World) (B n:Nat) (st:List ByteArray × (ByteArray→Int) × Bool) (h:aK w [c0,c1] a bs) (hI:AL w0 B n st w) (hB:w0.heap.size≤B)
  (hn:n+1≤1000000) (ha:a.args.length≤1000000) (hr:∀ s ∈ st.1,0≤st.2.1 s∧st.2.1 s≤1000000):
  Calls Tryz.prog 131 #[.agg #[c0,c1],.pointer (some ⟨B+1,0,none⟩),.pointer (some ⟨B+2,0,none⟩)] w fun e w'=>e=.returned (.tuple #[])∧AL w0 B (n+1) (lu st a) w'∧∀ c,c < w.heap.size→c ≠ B→c ≠ B+2→w'.heap[c]? = w.heap[c]?:=by
 obtain ⟨s,a2,a3,ht⟩:=h;simp only [List.cons.injEq,and_true] at a2;obtain ⟨rfl,rfl⟩:=a2;obtain ⟨Ad,cap,rfl,hl,hm⟩:=aj ht;have a6:=aB (τ hl hm);obtain ⟨nm,args⟩:=a;obtain ⟨L,f,al⟩:=st;dsimp only at *;have a7:=ψ hI.bm;have a8:=ψ hI.bb;have cM:w.cell? ⟨B+1,0,none⟩=some (.map (some B)):=cell_of_one hI.bm;have cB:w.cell? ⟨B+2,0,none⟩=some (.bool al):=cell_of_one hI.bb;have fB:w.frozen? ⟨B+2,0,none⟩=false:=free_of_one hI.bb;have hM:=hI.map;have HI:=η hI;have y:=η a3;have hA:Below w.heap.size w (w.alloc (.cells #[.string nm,.slice Ad args.length cap] 33)):=ζ;have I:=η (hM.below hA hM.lt);have a4:=η (hI.later hA);have HR:=η hr;clear hl hm ht hI hA hM hr
 have put:∀ w1,iQ B (n+1) (ig L nm) (fun t=>if t=nm then (args.length:Int) else f t) w1→(w.alloc (.cells #[.string nm,.slice Ad args.length cap] 33)).grownBy w1 (some B)→¬ (nm ∈ L∧f nm ≠ args.length)→AL w0 B (n+1) (lu (L,f,al) ⟨nm,args⟩) w1∧∀ c,c < w.heap.size→c ≠ B→c ≠ B+2→w1.heap[c]? = w.heap[c]?:=fun w1 h1 h2 h3=>by
  have e:lu (L,f,al) ⟨nm,args⟩=(ig L nm,fun t=>if t=nm then (args.length:Int) else f t,al):=by unfold lu; rw [if_neg h3]
  have J:=a4.out;rw [e];refine ⟨?_,fun c hc h4 h5=>(h2.block c (by simp; omega) (by simpa using h4)).trans (Below.heap_alloc _ _ _ hc)⟩;exact ⟨h1,(h2.block _ (ψ J.bm) (by simp)).trans J.bm,(h2.block _ (ψ J.bb) (by simp)).trans J.bb,J.bel.grown h2 (by have:=ψ J.bm; omega) fun j hj=>by cases hj; exact ν⟩
 have HP:=η put;clear put;by_cases U:nm ∈ L
 ·have hd:decide (nm ∈ L)=true:=decide_eq_true U
  have hv:(if nm ∈ L then f nm else 0)=f nm:=if_pos U;have a5:=HR.out nm U;by_cases hE:f nm=args.length
  ·have HN:Hid (¬ (nm ∈ L∧f nm ≠ args.length)):=η fun h=>h.2 hE
   have HD:=η hd;have HV:Hid ((if nm ∈ L then f nm else 0)=(args.length:Int)):=η (hv.trans hE);clear U hd hv a5 hE HR
   go_enter Tryz.func131,Tryz.ntmps131
   go_wp2_with (first | (at_lookup; refine dV _ rfl _ _ _ rfl Tryz.underlying116 B n L f rfl I.out nm rfl y.out true HD.out _ HV.out ?_) | (at_mapUpdate; refine lC _ rfl _ _ _ _ rfl Tryz.underlying116 B n L f rfl I.out nm rfl y.out _ rfl (by unfold maxLen; omega) (by omega) ?_; intro w1 a0 a1) | go_in)
   go_end0
   exact ⟨rfl,HP.out w1 a0 a1 HN.out⟩
  ·have HN:Hid (lu (L,f,al) ⟨nm,args⟩=(L,f,false)):=η (by unfold lu; rw [if_pos ⟨U,hE⟩])
   have HD:=η hd;have HV:=η hv
   have HS:Hid (AL w0 B (n+1) (L,f,false) ((w.setCell ⟨B+2,0,none⟩ (.bool false)).alloc (.cells #[.string nm,.slice Ad args.length cap] 33))):=η (by
    have J:=HI.out
    have h1:AL w0 B (n+1) (L,f,false) (w.setCell ⟨B+2,0,none⟩ (.bool false)):=
     ⟨(J.map.mono (Nat.le_succ n)).setCell (by simp) _,(π _ _ _ _ (by simp)).trans J.bm,one_setCell J.bb,J.bel.setCell (by simp) _⟩
    exact h1.later (ζ))
   clear U hd hv HR HP
   go_enter Tryz.func131,Tryz.ntmps131
   go_wp2_with (first | (at_lookup; refine dV _ rfl _ _ _ rfl Tryz.underlying116 B n L f rfl I.out nm rfl y.out true HD.out _ HV.out ?_) | go_in)
   refine bodyPost_ret (results_none rfl _ _ _) rfl ?_;exact ⟨rfl,by rw [HN.out]; exact HS.out,fun c hc h4 h5=>(Below.heap_alloc _ _ _ (by simpa using hc)).trans (π _ _ _ _ h5)⟩
 ·have HD:Hid (decide (nm ∈ L)=false):=η (decide_eq_false U)
  have HV:Hid ((if nm ∈ L then f nm else 0)=0):=η (if_neg U);have HN:Hid (¬ (nm ∈ L∧f nm ≠ args.length)):=η fun h=>U h.1
  clear U HR
  go_enter Tryz.func131,Tryz.ntmps131
  go_wp2_with (first | (at_lookup; refine dV _ rfl _ _ _ rfl Tryz.underlying116 B n L f rfl I.out nm rfl y.out false HD.out _ HV.out ?_) | (at_mapUpdate; refine lC _ rfl _ _ _ _ rfl Tryz.underlying116 B n L f rfl I.out nm rfl y.out _ rfl (by unfold maxLen; omega) (by omega) ?_; intro w1 a0 a1) | go_in)
  go_end0
  exact ⟨rfl,HP.out w1 a0 a1 HN.out⟩
theorem D.CG {rs:List Ru} (hok:rs.all fM=true) (hf:rs.length≤8) {xs:List A} (y:∀ a ∈ xs,a ∈ aJ rs):∀ s ∈ (eF xs).1,0≤(eF xs).2.1 s∧(eF xs).2.1 s≤1000000:=fun s I=>by
 have:=LG (m:=3) (fun a ha=>(l9 hok).1 a (y a ha)) I;omega
theorem D.wM {rs:List Ru} (k:Nat):∀ a ∈ aJ (rs.take k),a ∈ aJ rs:=fun a ha=>by
 obtain ⟨r,hr,h⟩:=yJ ha;exact List.mem_flatMap.2 ⟨r,List.mem_of_mem_take hr,h⟩
theorem D.MF {rs:List Ru} {k:Nat} (h:k < rs.length):∀ a ∈ jU rs[k],a ∈ aJ rs:=fun a ha=>List.mem_flatMap.2 ⟨_,δ h,ha⟩
theorem Fh (rs:List Ru) (v:Value) (bs:List Nat) (w:World) (h:fA w [v] rs bs) (hok:rs.all fM=true) (hf:rs.length≤8):
  Calls Tryz.prog 69 #[v] w fun e w'=>e=.returned (.tuple #[.map (some w.heap.size),.bool (kJ (aJ rs))])∧
   ∃ n,iQ w.heap.size n (eF (aJ rs)).1 (eF (aJ rs)).2.1 w'∧Below w.heap.size w w':=by
 obtain ⟨Ad,cap,rfl,hl,hm⟩:=aj h;have b8:=aB (τ hl hm);have av:=@run_makeMap Tryz.prog
 have a4:Hid (AL w w.heap.size 0 (eF []) (((w.alloc (.map #[] 0)).alloc (.cells #[.map (some w.heap.size)] 116)).alloc (.cells #[.bool true] 4))):=η (by
  refine ⟨((iQ.made w _).same ?_),?_,?_,((((Below.refl _ w).alloc ν _).alloc (by simp) _).alloc (by simp; omega) _)⟩
  ·exact (Below.heap_alloc _ _ _ (by simp; omega)).trans (Below.heap_alloc _ _ _ (by simp))
  ·refine (Below.heap_alloc _ _ _ (by simp)).trans ?_
   simpa using ω (w.alloc (.map #[] 0)) (.cells #[.map (some w.heap.size)] 116)
  ·simpa [eF] using ω ((w.alloc (.map #[] 0)).alloc (.cells #[.map (some w.heap.size)] 116)) (.cells #[.bool true] 4))
 have a5:=η (fun xs hx=>CG hok hf (xs:=xs) hx);have aw:=η hok;have b9:Hid ((aJ rs).length≤40):=η (by have:=(l9 hok).2; omega)
 have a6:Hid (∀ k,(aJ (rs.take k)).length≤40):=η fun k=>by
  have:=(l9 (rs:=rs.take k) (ό.2 fun r hr=>ό.1 hok r (List.mem_of_mem_take hr))).2;rw [List.length_take] at this; omega
 clear hl hm hok hf
 go_enter Tryz.func69,Tryz.ntmps69
 go_wp2;generalize (((w.alloc (.map #[] 0)).alloc (.cells #[.map (some w.heap.size)] 116)).alloc (.cells #[.bool true] 4))=w0 at *
 go_loopw [15] (fun i wr=>∃ k:Nat,k≤rs.length∧i=.int .i64 k∧AL w w.heap.size (aJ (rs.take k)).length (eF (aJ (rs.take k))) wr) (fun i _=>rs.length - (intOf i).toNat)
 case atStart=>exact ⟨0,ε,rfl,a4.out⟩
 case round=>
  obtain ⟨k,hk,rfl,I⟩:=hrel;clear a4 av;by_cases y:k < rs.length
  ·obtain ⟨b,o,Ae,ce,Af,cf,bk,rfl,_,d0,d1,d2,J,_⟩:=iW h y
   replace d0:=ξ I.bel d0;replace d1:=ξ I.bel d1;replace d2:=ξ I.bel d2;have bc:(0:Int)≤(k:Int):=by omega
   have az:(k:Int) < (rs.length:Int):=by omega
   have hA:Below wr.heap.size wr (wr.alloc (.cells #[.string rs[k].head.name,.slice Ae rs[k].head.args.length ce,.slice Af rs[k].body.length cf] 40)):=ζ;obtain ⟨b1,b2,_,a7,a8⟩:=jw J;have aD:=η a8;have a9:=η (au.below (au.below a7 I.bel) hA);have aa:=η y;have aE:=η (qE rs k y);have U:=lN (ό.1 aw.out _ (δ y));have bf:(rs[k].body.length:Int)≤4:=by have:=U.1; omega
   have ab:=η (MF y);have a0:rs[k].head.args.length≤1000000:=by have:=U.2.2 rs[k].head Γ; omega
   have aL:=η U.2.2;have ac:=η (I.later hA);clear h J hA a7 a8 U;generalize rs[k]=r at *;clear y;obtain ⟨⟨nm,args⟩,body⟩:=r;dsimp only at *
   go_wp2_with fail
   have q2:(wr.alloc (.cells #[.string nm,.slice Ae args.length ce,.slice Af body.length cf] 40)).cell? ⟨wr.heap.size,2,none⟩=some (.slice Af body.length cf):=by go_simp
   have q3:w.heap.size+2 < wr.heap.size:=ψ I.bb;clear I;generalize wr.alloc (.cells #[.string nm,.slice Ae args.length ce,.slice Af body.length cf] 40)=w1 at *;refine (note_any ⟨nm,args⟩ _ _ b1 w w1 w.heap.size _ _ a9.out ac.out ν (by have:=a6.out k; omega) a0 (a5.out _ (wM k))).mono ?_;rintro e w2 ⟨rfl,a1,ae⟩;rw [← xI] at a1;have hlen:(aJ (rs.take k) ++ [(⟨nm,args⟩:A)]).length=(aJ (rs.take k)).length+1:=by simp
   rw [← hlen] at a1
   have a2:∀ a ∈ aJ (rs.take k) ++ [(⟨nm,args⟩:A)],a ∈ aJ rs:=fun a ha=>by
    rcases μ.1 ha with ha | ha
    ·exact wM k a ha
    ·rw [ώ.1 ha]; exact ab.out _ Γ
   have e2:w2.cell? ⟨wr.heap.size,2,none⟩=some (.slice Af body.length cf):=by
    rw [World.cell?_of_block (w:=w1) (ae _ (lt_of_cell q2) (by dsimp only; omega) (by dsimp only; omega))]; exact q2
   have aM:=η a2;have af:=η a1;have HX:Hid ((aJ (rs.take k) ++ [(⟨nm,args⟩:A)]).length≤41):=η (by rw [hlen]; have:=a6.out k; omega);clear a2 a1 ae hlen a9 q2 q3;generalize aJ (rs.take k) ++ [(⟨nm,args⟩:A)]=xs at *;go_wp2
   go_loopw [26] (fun i wr=>∃ j:Nat,j≤body.length∧i=.int .i64 j∧AL w w.heap.size (xs ++ gy (body.take j)).length (eF (xs ++ gy (body.take j))) wr) (fun i _=>body.length - (intOf i).toNat)
   case atStart=>exact ⟨0,ε,rfl,by simpa [gy] using af.out⟩
   case round=>
    obtain ⟨j,hj,rfl,I⟩:=hrel;clear af ac;by_cases y:j < body.length
    ·obtain ⟨b0,o0,Ag,cg,bg,rfl,_,f0,f1,f2,J,_⟩:=ji aD.out y
     replace f0:=ξ I.bel f0;replace f1:=ξ I.bel f1;replace f2:=ξ I.bel f2;have bh:(0:Int)≤(j:Int):=by omega
     have aR:(j:Int) < (body.length:Int):=by omega
     have b3:=η (uG body j y);have ag:=η y;have am:body[j].atom ∈ jU ⟨⟨nm,args⟩,body⟩:=Δ _ (List.mem_map.2 ⟨_,δ y,rfl⟩);have b4:body[j].atom.args.length≤1000000:=by have:=aL.out _ am; omega
     have hA:Below wr.heap.size wr (wr.alloc (.cells #[.bool body[j].no,.string body[j].atom.name,.slice Ag body[j].atom.args.length cg] 42)):=ζ;have ao:=η (au.below (au.below (jE J) I.bel) hA);have aq:=η (I.later hA);have b5:Hid ((xs ++ gy (body.take j)).length+1≤1000000):=η (by rw [χ,nI,List.length_take]; have:=HX.out; omega)
     have b6:Hid (∀ a ∈ xs ++ gy (body.take j),a ∈ aJ rs):=η fun a ha=>by
      rcases μ.1 ha with ha | ha
      ·exact aM.out a ha
      ·refine ab.out _ (Δ _ ?_)
       unfold gy at ha;obtain ⟨p,hp,rfl⟩:=List.mem_map.1 ha;exact List.mem_map.2 ⟨p,List.mem_of_mem_take hp,rfl⟩
     clear J hA I am;generalize body[j]=p at *;clear y;obtain ⟨no,⟨pn,a3⟩⟩:=p;dsimp only at *
     go_wp2_with fail
     refine (note_any ⟨pn,a3⟩ _ _ bg w _ w.heap.size _ _ ao.out aq.out ν b5.out b4 (a5.out _ b6.out)).mono ?_;rintro e w3 ⟨rfl,ar,_⟩
     have b7:Hid (AL w w.heap.size (xs ++ gy (body.take (j+1))).length (eF (xs ++ gy (body.take (j+1)))) w3):=η (by
      rw [b3.out,← List.append_assoc,xI,χ]
      exact ar)
     clear ar aq ao;go_wp2;go_roundw
     case rel=>exact ⟨j+1,ag.out,by go_num,b7.out⟩
     case measure=>have:=ag.out; simp [intOf]; omega
    ·have he:j=body.length:=by omega
     have aR:¬ (j:Int) < (body.length:Int):=by omega
     have HE:Hid (AL w w.heap.size (aJ (rs.take (k+1))).length (eF (aJ (rs.take (k+1)))) wr):=η (by
      rw [aE.out];subst he;rw [ϕ ν] at I
      exact I)
     clear I he;go_wp2;go_roundw
     case rel=>exact ⟨k+1,aa.out,by go_num,HE.out⟩
     case measure=>have:=aa.out; simp [intOf]; omega
  ·have he:k=rs.length:=by omega
   have az:¬ (k:Int) < (rs.length:Int):=by omega
   subst he;rw [ϕ ν] at I;have cM:=cell_of_one I.bm;have cB:wr.cell? ⟨w.heap.size+1+1,0,none⟩=_:=cell_of_one I.bb;have a0:=Cc (aJ rs);rw [a0] at cB;have HZ:Hid (∃ n,iQ w.heap.size n (eF (aJ rs)).1 (eF (aJ rs)).2.1 wr∧Below w.heap.size w wr):=η ⟨_,I.map,I.bel⟩;clear I h a0;go_wp2
   go_quiet (fail)
   go_wp2;go_ret2;obtain ⟨n,h1,h2⟩:=HZ.out;exact ⟨rfl,n,h1.same rfl,⟨h2.os,h2.tape,h2.output,h2.size,h2.block⟩⟩
def D.mg (y:List T) (out:List ByteArray):List ByteArray:=y.foldl (fun o t=>if t.var then kU o t.name else o) out
theorem D.MG (y:List T) (k:Nat) (h:k < y.length) (out:List ByteArray):mg (y.take (k+1)) out=if y[k].var then kU (mg (y.take k) out) y[k].name else mg (y.take k) out:=OB ⟨ByteArray.empty,y⟩ k h out
theorem D.Fj {w:World} {g:Nat}:jP w [.slice (some ⟨g,0,none⟩) 0 0] [] []:=⟨_,0,rfl,ν,ε,fun _=>rfl,fun h=>absurd rfl h⟩
theorem xO (a:A) (out:List ByteArray) (c0 c1 v:Value) (b1 b2:List Nat) (w:World) (h:aK w [c0,c1] a b1) (h2:jP w [v] out b2) (hn:out.length+a.args.length≤16777216):
  Calls Tryz.prog 213 #[.agg #[c0,c1],v] w (UL (lJ a out) b2 w.heap.size w):=by
 have ht:=dQ h;obtain ⟨Aa,ca,rfl,rfl⟩:=bY h;obtain ⟨As,cs,rfl,_,_⟩:=aj h2;obtain ⟨_,_,a8,a5,a6⟩:=aj ht;have ac:=aB (τ a5 a6);obtain ⟨an,args⟩:=a;dsimp only at *;have hA:Below w.heap.size w (w.alloc (.cells #[.string an,.slice Aa args.length ca] 33)):=ζ;have x1:(w.alloc (.cells #[.string an,.slice Aa args.length ca] 33)).cell? ⟨w.heap.size,1,none⟩=some (.slice Aa args.length ca):=by go_simp
 have I:=η (ι (dA.below h2 hA) (ι hA x1));have HE:Hid (lJ ⟨an,args⟩ out=mg args out):=η rfl;have HN:=η hn;clear h h2 a5 a6 a8 hA x1 hn
 go_enter Tryz.func213,Tryz.ntmps213
 go_wp2
 go_loopw [1,5] (fun v i wr=>∃ (k m:Nat) (Av:Option Addr) (cp:Nat) (b4:List Nat),k≤args.length∧i=.int .i64 k∧v=.slice Av m cp∧m=(mg (args.take k) out).length∧jP wr [.slice Av m cp] (mg (args.take k) out) b4∧(∀ c ∈ b4,w.heap.size≤c∨c ∈ b2)∧Below w.heap.size w wr∧wr.cell? ⟨w.heap.size,1,none⟩=some (.slice Aa args.length ca)) (fun _ i _=>args.length - (intOf i).toNat)
 case atStart=>exact ⟨0,out.length,As,cs,b2,ε,rfl,rfl,rfl,I.out.1,fun c hc=>.inr hc,I.out.2.1,I.out.2.2⟩
 case round=>
  obtain ⟨k,m,Av,cp,b4,hk,rfl,rfl,a1,hR,a0,hb,x1⟩:=hrel;have a2:=η a0;clear a0;clear I;have HM:=η a1;by_cases J:k < args.length
  ·obtain ⟨b,o,rfl,_,d0,d1,a9⟩:=fP (aT.below ht hb) J
   have ae:(0:Int)≤(k:Int):=by omega
   have aa:(k:Int) < (args.length:Int):=by omega
   have U:=η J
   have hlen:(mg (args.take k) out).length≤16777216:=by
    have h1:=xB (args.take k) out;rw [List.length_take] at h1;have:=HN.out;have h3:(mg (args.take k) out).length≤out.length+min k args.length:=h1;omega
   have hp:=Rk (mg (args.take k) out) args[k].name _ b4 wr hR a9 hlen;have HT:=η (MG args k J out);have HR:=η (ι hR hb);generalize args[k]=t at *;obtain ⟨tv,tn⟩:=t;dsimp only at *;clear a1 hR hb ht hlen J hk;cases tv
   ·have y:Hid (mg (args.take (k+1)) out=mg (args.take k) out):=η (by rw [HT.out]; rfl)
    clear HT hp;go_wp2;go_roundw
    case rel=>exact ⟨k+1,m,Av,cp,b4,U.out,by go_num,rfl,by rw [y.out]; exact HM.out,by rw [y.out]; exact HR.out.1,a2.out,HR.out.2,x1⟩
    case measure=>have:=U.out; simp [intOf]; omega
   ·have y:Hid (mg (args.take (k+1)) out=kU (mg (args.take k) out) tn):=η (by rw [HT.out]; rfl)
    clear HT
    go_wp2_with fail
    refine hp.mono ?_;rintro e w2 ⟨a3,v2,b5,rfl,a4,a7⟩;obtain ⟨A2,p2,rfl,_,_⟩:=aj a4;have HX:=η (ι a4 (ι (HR.out.2.trans (a3.mono HR.out.2.size)) (ξ a3 x1)));have ab:Hid (∀ c ∈ b5,w.heap.size≤c∨c ∈ b2):=η (fun c hc=>(a7 c hc).elim (fun h9=>.inl (τ HR.out.2.size h9)) (a2.out c));clear hp a4 a3 x1 a7;go_wp2;go_roundw
    case rel=>exact ⟨k+1,_,A2,p2,b5,U.out,by go_num,rfl,by rw [y.out],by rw [y.out]; exact HX.out.1,ab.out,HX.out.2.1,HX.out.2.2⟩
    case measure=>have:=U.out; simp [intOf]; omega
  ·have he:=η (show k=args.length by omega)
   have aa:¬ (k:Int) < (args.length:Int):=by omega
   have HX:Hid (jP wr [.slice Av m cp] (mg args out) b4):=η (by rw [he.out,ϕ ν] at hR; exact hR);have HB:=η hb;clear hR a1 hb ht;go_wp2;go_ret;exact ⟨HB.out,_,b4,rfl,by rw [HE.out]; exact HX.out,a2.out⟩
theorem D.MH {α:Type} (f:α→Nat) (q:α→Bool) (xs:List α):je f (xs.filter q)≤je f xs:=by
 induction xs with
 | nil=>simp [je]
 | cons x xs ih=>
  rw [List.filter_cons];have e:je f (x :: xs)=f x+je f xs:=by simp [je]
  split
  ·have y:je f (x :: xs.filter q)=f x+je f (xs.filter q):=by simp [je]
   omega
  ·omega
theorem D.RH {ps:List Pt} {m:Nat} (y:je (fun p=>p.atom.args.length) ps≤m) (k:Nat) (out:List ByteArray):(fO (ps.take k) out).length≤out.length+m:=by
 have h1:=pI (ps.take k) out;have I:=vH (fun p:Pt=>p.atom.args.length) ps k;omega
theorem CJ (r:Ru) (c0 c1 c2:Value) (bs:List Nat) (w:World) (h:iD w [c0,c1,c2] r bs) (hs:je (fun p=>p.atom.args.length) r.body≤1000000) (hh:r.head.args.length≤1000000):
  Calls Tryz.prog 163 #[.agg #[c0,c1,c2]] w fun e w'=>e=.returned (.bool (gm r.head r.body))∧Below w.heap.size w w':=by
 obtain ⟨p1,p2,rfl,af,a1⟩:=jw h;obtain ⟨Ad,cap,Ae,y,rfl,rfl,rfl⟩:=qi h;obtain ⟨_,_,aE,ag,am⟩:=aj a1;have b1:=aB (τ ag am);obtain ⟨I,ps⟩:=r;dsimp only at *;have hA:Below w.heap.size w (w.alloc (.cells #[.string I.name,.slice Ad I.args.length cap,.slice Ae ps.length y] 40)):=ζ;have x2:(w.alloc (.cells #[.string I.name,.slice Ad I.args.length cap,.slice Ae ps.length y] 40)).cell? ⟨w.heap.size,2,none⟩=some (.slice Ae ps.length y):=by go_simp
 have ao:Below w.heap.size w (((w.alloc (.cells #[.string I.name,.slice Ad I.args.length cap,.slice Ae ps.length y] 40)).alloc (.cells #[] 9)).alloc (.cells #[] 9)):=(hA.alloc (by simp) _).alloc (by simp <;> omega) _;have aq:=xO I [] _ _ (.slice (some ⟨w.heap.size+1+1,0,none⟩) 0 0) p1 [] _ (au.below af ao) Fj (by simp; omega);have HE:Hid (gm I ps=decide ((fO ps (lJ I [])).length=(fO (ps.filter fun p=>!p.no) []).length)):=η rfl;have HS:=η hs;have HH:=η hh;have ar:=η ao;have b2:=η x2;clear h ag am aE hA hs hh af;generalize gm I ps=G at *
 go_enter Tryz.func163,Tryz.ntmps163
 go_wp2_with fail
 refine aq.mono ?_;rintro e w1 ⟨a6,v1,b4,rfl,a7,_⟩;obtain ⟨A1,p9,rfl,_,_⟩:=aj a7;have a2:=η (ι a7 (ι (ar.out.trans (a6.mono ar.out.size)) (ξ a6 (show ((((w.alloc (.cells #[.string I.name,.slice Ad I.args.length cap,.slice Ae ps.length y] 40)).alloc (.cells #[] 9)).alloc (.cells #[] 9)).cell? ⟨w.heap.size,2,none⟩=some (.slice Ae ps.length y)) by go_simp))));clear aq a7 a6 x2;go_wp2
 go_loopw [3,4,5] (fun v3 v4 i wr=>∃ (k m q:Nat) (Av Bv:Option Addr) (cp cq:Nat) (b4 b5:List Nat),k≤ps.length∧i=.int .i64 k∧v3=.slice Bv q cq∧v4=.slice Av m cp∧m=(fO (ps.take k) (lJ I [])).length∧jP wr [.slice Av m cp] (fO (ps.take k) (lJ I [])) b4∧
  q=(fO ((ps.take k).filter fun p=>!p.no) []).length∧jP wr [.slice Bv q cq] (fO ((ps.take k).filter fun p=>!p.no) []) b5∧Below w.heap.size w wr∧wr.cell? ⟨w.heap.size,2,none⟩=some (.slice Ae ps.length y)) (fun _ _ i _=>ps.length - (intOf i).toNat)
 case atStart=>exact ⟨0,_,0,A1,_,p9,_,b4,[],ε,rfl,rfl,rfl,rfl,a2.out.1,rfl,Fj,a2.out.2.1,a2.out.2.2⟩
 case round=>
  obtain ⟨k,m,q,Av,Bv,cp,cq,b4,b5,hk,rfl,rfl,rfl,a8,hR,a9,hQ,hb,x2⟩:=hrel;clear a2;have HM:=η (ι a8 a9);by_cases U:k < ps.length
  ·obtain ⟨b,o,Aa,ce,bk,rfl,_,d0,d1,d2,aa,_⟩:=ji (dS.below a1 hb) U
   have b3:(0:Int)≤(k:Int):=by omega
   have aL:(k:Int) < (ps.length:Int):=by omega
   have a3:=η U
   have av:(fO (ps.take k) (lJ I [])).length+ps[k].atom.args.length≤16777216:=by
    have h1:=RH HS.out k (lJ I []);have h2:=Ht I [];have h3:=P8 (fun p:Pt=>p.atom.args.length) ps k U;have:=HS.out;have:=HH.out;simp only [List.length_nil] at h2;omega
   have aw:(fO ((ps.take k).filter fun p=>!p.no) []).length+ps[k].atom.args.length≤16777216:=by
    have h1:=pI ((ps.take k).filter fun p=>!p.no) [];have h4:=MH (fun p:Pt=>p.atom.args.length) (fun p=>!p.no) (ps.take k);have h5:=vH (fun p:Pt=>p.atom.args.length) ps k;have h3:=P8 (fun p:Pt=>p.atom.args.length) ps k U;have:=HS.out;simp only [List.length_nil] at h1;omega
   have hp:=xO ps[k].atom _ _ _ _ bk b4 wr (jE aa) hR av;have az:=fun w' (aD:Below wr.heap.size wr w')=>xO ps[k].atom _ _ _ _ bk b5 w' (au.below (jE aa) aD) (dA.below hQ aD) aw
   have HT:=η (KP ps k U (lJ I []));have a4:=η (KQ ps k U);have HB:=η hb;have HQ:=η hQ;generalize ps[k]=p at *;obtain ⟨no,pa⟩:=p;dsimp only at *;clear a8 a9 hR hQ hb a1 aa U hk av aw
   go_wp2_with fail
   refine hp.mono ?_;rintro e w2 ⟨J,v2,b6,rfl,ab,_⟩;obtain ⟨A2,p2,rfl,_,_⟩:=aj ab;have HX:=η (ι ab (HB.out.trans (J.mono HB.out.size)));replace HQ:=η (dA.below HQ.out J);have ac:=az _ J;replace x2:=ξ J x2;replace d0:=ξ J d0;replace d1:=ξ J d1;replace d2:=ξ J d2;clear hp az ab J;cases no
   ·have a0:Hid (fO ((ps.take (k+1)).filter fun p=>!p.no) []=lJ pa (fO ((ps.take k).filter fun p=>!p.no) [])):=η (by rw [a4.out]; unfold fO; rw [List.foldl_append]; rfl)
    clear a4
    go_wp2_with fail
    refine ac.mono ?_;rintro e w3 ⟨a5,v3,b7,rfl,ae,_⟩;obtain ⟨A3,p3,rfl,_,_⟩:=aj ae;have HY:=η (ι ae (ι (dA.below HX.out.1 a5) (ι (HX.out.2.trans (a5.mono HX.out.2.size)) (ξ a5 x2))));clear ac ae a5 x2 d0 d1 d2;go_wp2;go_roundw
    case rel=>exact ⟨k+1,_,_,A2,A3,p2,p3,b6,b7,a3.out,by go_num,rfl,rfl,by rw [HT.out],by rw [HT.out]; exact HY.out.2.1,by rw [a0.out],by rw [a0.out]; exact HY.out.1,HY.out.2.2.1,HY.out.2.2.2⟩
    case measure=>have:=a3.out; simp [intOf]; omega
   ·have a0:Hid (fO ((ps.take (k+1)).filter fun p=>!p.no) []=fO ((ps.take k).filter fun p=>!p.no) []):=η (by rw [a4.out]; simp)
    clear a4 ac d1 d2;go_wp2;go_roundw
    case rel=>exact ⟨k+1,_,q,A2,Bv,p2,cq,b6,b5,a3.out,by go_num,rfl,rfl,by rw [HT.out],by rw [HT.out]; exact HX.out.1,by rw [a0.out]; exact HM.out.2,by rw [a0.out]; exact HQ.out,HX.out.2,x2⟩
    case measure=>have:=a3.out; simp [intOf]; omega
  ·have he:=η (show k=ps.length by omega)
   have aL:¬ (k:Int) < (ps.length:Int):=by omega
   have aM:Hid (G=decide (m=q)):=η (by
    have h1:=HM.out.1;have h2:=HM.out.2;rw [he.out,ϕ ν] at h1 h2
    rw [HE.out,← h1,← h2])
   have HB:=η hb;clear hR hQ a8 a9 hb a1 HE;go_wp2;go_ret;exact ⟨aH (by rw [aM.out]; first | (simp; omega) | (by_cases aR:m=q <;> simp [aR] <;> omega)),HB.out⟩
theorem D.Fp {α:Type} (f:α→Nat) (c:Nat) (xs:List α) (h:∀ x ∈ xs,f x≤c):je f xs≤c * xs.length:=by
 induction xs with
 | nil=>simp [je]
 | cons x xs ih=>
  have e:je f (x :: xs)=f x+je f xs:=by simp [je]
  have h1:=h x Γ;have J:=ih (fun y I=>h y (Δ _ I));rw [e,List.length_cons,Nat.mul_add];omega
theorem O5 (r:Ru) (c0 c1 c2:Value) (bs:List Nat) (w:World) (h:iD w [c0,c1,c2] r bs):
  Calls Tryz.prog 166 #[.agg #[c0,c1,c2]] w fun e w'=>e=.returned (.bool (fM r))∧Below w.heap.size w w':=by
 obtain ⟨b1,b2,rfl,hp,hq⟩:=jw h;obtain ⟨Ad,cap,Ae,I,rfl,rfl,rfl⟩:=qi h;obtain ⟨_,_,hv,hl,hm⟩:=aj hq;have a3:=aB (τ hl hm);have hok:=fun w' (hb:Below w.heap.size w w')=>uH r.head _ _ b1 w' (au.below hp hb)
 have hr:fM r=(decide (r.body.length≤4) && r.body.all (fun p=>bU p.atom) && bU r.head):=rfl;rw [hr];clear h hp hv hl hm hr;generalize bU r.head=b at *;have hA:=(Below.refl w.heap.size w).alloc ν (.cells #[.string r.head.name,.slice Ad r.head.args.length cap,.slice Ae r.body.length I] 40)
 go_enter Tryz.func166,Tryz.ntmps166
 go_wp2
 go_loopw [3] (fun i wr=>∃ k:Nat,k≤r.body.length∧i=.int .i64 k∧(r.body.take k).all (fun p=>bU p.atom)=true∧Below w.heap.size w wr∧wr.cell? ⟨w.heap.size,0,none⟩=some (.string r.head.name)∧wr.cell? ⟨w.heap.size,1,none⟩=some (.slice Ad r.head.args.length cap)∧wr.cell? ⟨w.heap.size,2,none⟩=some (.slice Ae r.body.length I)∧w.heap.size < wr.heap.size) (fun i _=>r.body.length - (intOf i).toNat)
 case atStart=>exact ⟨0,ε,rfl,rfl,hA,by go_simp,by go_simp,by go_simp,by simp⟩
 case round=>
  obtain ⟨k,hk,rfl,J,hb,x0,x1,x2,a4⟩:=hrel;have HA:=η J;clear J hA;by_cases U:k < r.body.length
  ·obtain ⟨bb,o,Af,cf,bk,rfl,_,d0,d1,d2,a0,_⟩:=ji (dS.below hq hb) U
   have a1:=jE a0;clear hq a0
   go_wp2_with fail
   refine (uH r.body[k].atom _ _ bk _ a1).mono ?_;rintro e w' ⟨rfl,y⟩;have B':=hb.trans (y.mono hb.size);have y0:=ξ y x0;have y1:=ξ y x1;have y2:=ξ y x2;have S':w.heap.size < w'.heap.size:=by have:=y.size; omega
   clear a1 x0 x1 x2;by_cases hx:bU r.body[k].atom=true
   ·have a2:(!bU r.body[k].atom)=false:=by simp [hx]
    have HX:=η hx;clear hx;go_wp2;go_roundw
    case rel=>exact ⟨k+1,by omega,by go_num,by rw [jy r.body k U,HA.out]; exact HX.out,B',y0,y1,y2,S'⟩
    case measure=>simp [intOf]; omega
   ·have a2:(!bU r.body[k].atom)=true:=by simpa using hx
    have HX:=η hx;clear hx;go_wp2;go_ret;exact ⟨aH (by rw [vI r.body k U (by simpa using HX.out)]; simp),B'⟩
  ·have he:=η (show k=r.body.length by omega)
   have ha:Hid (r.body.all (fun p=>bU p.atom)=true):=by have:=HA.out; rw [he.out,ϕ ν] at this; exact this
   go_wp2_with fail
   refine (hok _ hb).mono ?_;rintro e w' ⟨rfl,y⟩;have B':=hb.trans (y.mono hb.size);have y2:=ξ y x2;clear x0 x1 x2 hok;cases b
   all_goals
    go_wp2;go_ret;exact ⟨aH (by rw [ha.out]; first | (simp; done) | (rw [Bool.eq_iff_iff]; simp; omega)),B'⟩
theorem su (a:A) (c0 c1:Value) (bs:List Nat) (w:World) (h:aK w [c0,c1] a bs):
  Calls Tryz.prog 146 #[.agg #[c0,c1]] w fun e w'=>e=.returned (.bool (dM a))∧Below w.heap.size w w':=by
 have U:=dQ h;obtain ⟨Ad,cap,rfl,rfl⟩:=bY h;obtain ⟨_,_,hv,hl,hm⟩:=aj U;have a1:=aB (τ hl hm);have k1:=fun w' (hb:Below w.heap.size w w')=>uH a _ _ bs w' (au.below h hb)
 have hf:dM a=(bU a && !kT a.args):=rfl;have HF:=η hf;clear h hv hl hm hf;have J:=(Below.refl w.heap.size w).alloc ν (.cells #[.string a.name,.slice Ad a.args.length cap] 33)
 go_enter Tryz.func146,Tryz.ntmps146
 go_wp2
 go_loopw [3] (fun i wr=>∃ k:Nat,k≤a.args.length∧i=.int .i64 k∧kT (a.args.take k)=false∧wr=w.alloc (.cells #[.string a.name,.slice Ad a.args.length cap] 33)) (fun i _=>a.args.length - (intOf i).toNat)
 case atStart=>exact ⟨0,ε,rfl,rfl,rfl⟩
 case round=>
  obtain ⟨k,hk,rfl,y,rfl⟩:=hrel;have HA:=η y;clear y;by_cases I:k < a.args.length
  ·obtain ⟨b,o,rfl,_,d0,d1,_⟩:=fP (aT.below U (ϑ.alloc ν (.cells #[.string a.name,.slice Ad a.args.length cap] 33))) I
   clear U;cases hv:a.args[k].var
   ·have HV:=η hv
    rw [hv] at d0;clear hv;go_wp2;go_roundw
    case rel=>exact ⟨k+1,by omega,by go_num,by rw [BH a.args k I,HA.out,HV.out]; rfl,(by simp)⟩
    case measure=>simp [intOf]; omega
   ·have HV:=η (Ea a.args k I hv)
    rw [hv] at d0;clear hv;go_wp2;go_ret;exact ⟨aH (by rw [HF.out,HV.out]; simp),J⟩
  ·have he:=η (show k=a.args.length by omega)
   go_wp2_with fail
   refine (k1 _ J).mono ?_;rintro e w' ⟨rfl,a0⟩;go_wp2;go_ret;exact ⟨aH (by have:=HA.out; rw [he.out,ϕ ν] at this; rw [HF.out,this]; simp),J.trans (a0.mono J.size)⟩
theorem D.Ir (xs ys:List A) (k:Nat) (h:k < xs.length):bP (xs.take (k+1)) ys=if hasB ys xs[k] then bP (xs.take k) ys else bP (xs.take k) ys ++ [xs[k]]:=by
 unfold bP;rw [ρ h,List.filter_append]
 cases h':hasB ys xs[k] <;> simp [h']
theorem D.Jz (xs ys:List A) (k:Nat) (h:k < xs.length) (e:hasB ys xs[k]=false):bP (xs.take (k+1)) ys=bP (xs.take k) ys ++ [xs[k]]:=by rw [Ir xs ys k h,e]; rfl
theorem D.Gq (xs ys:List A) (k:Nat) (h:k < xs.length) (e:hasB ys xs[k]=true):bP (xs.take (k+1)) ys=bP (xs.take k) ys:=by rw [Ir xs ys k h,e]; rfl
theorem D.MI (xs ys:List A):(bP xs ys).length≤xs.length:=List.length_filter_le _ _
theorem Fv (xs ys:List A) (v1 v2:Value) (ar aa:List Nat) (w:World) (h:ay w [v1] xs ar) (h2:ay w [v2] ys aa) (hs:gB ys=true) (hn:xs.length≤16777216) (ha:∀ a ∈ xs,a.args.length≤16777216):
  Calls Tryz.prog 142 #[v1,v2] w fun e w'=>Below w.heap.size w w'∧∃ v L b9,e=.returned v∧bK 2 aK w.heap.size 33 w' v L (bP xs ys) b9∧∀ c ∈ b9,w.heap.size≤c:=by
 obtain ⟨Ad,cap,rfl,hl,hm⟩:=aj h;obtain ⟨b6,cap2,rfl,b7,av⟩:=aj h2;obtain ⟨i0,hi,aw,az,aD⟩:=info_parts qK;clear hm av;have hA:Below w.heap.size w (w.alloc (.cells #[] 33)):=ζ;have ab:=bK.empty (n:=2) (R:=aK) (e:=33) (ω w (.cells #[] 33)) (Nat.le_refl w.heap.size)
 go_enter Tryz.func142,Tryz.ntmps142
 go_wp2
 go_loopw [5,6] (fun v i wr=>∃ (k m:Nat) (A:Option Addr) (cp:Nat) (L:List Value) (b2:List Nat),k≤xs.length∧i=.int .i64 k∧v=.slice A m cp∧m=(bP (xs.take k) ys).length∧bK 2 aK w.heap.size 33 wr (.slice A m cp) L (bP (xs.take k) ys) b2∧Below w.heap.size w wr∧∀ c ∈ b2,w.heap.size≤c) (fun _ i _=>xs.length - (intOf i).toNat)
 case atStart=>exact ⟨0,0,_,_,_,_,ε,rfl,rfl,rfl,ab,hA,fun c hc=>by simp at hc⟩
 case round=>
  obtain ⟨k,m,A,cp,L,b2,hk,rfl,rfl,ac,hC,hb,a1⟩:=hrel;have a2:=η a1;clear a1;clear ab hA;have b8:m≤16777216:=by have:=MI (xs.take k) ys; rw [List.length_take] at this; omega
  have HM:=η ac;clear ac;by_cases J:k < xs.length
  ·have U:=η J
   obtain ⟨b,o,Ae,ce,bk,rfl,_,c0,c1,a3,_⟩:=eG (ak.below h hb) J;have aE:xs[k].args.length≤16777216:=ha _ (δ _);have bc:(0:Int)≤(k:Int):=by omega
   have bf:(k:Int) < (xs.length:Int):=by omega
   have a4:Hid (hasB ys xs[k]=false→bP (xs.take (k+1)) ys=bP (xs.take k) ys ++ [xs[k]]):=η (fun e=>Jz xs ys k J e);have a5:Hid (hasB ys xs[k]=true→bP (xs.take (k+1)) ys=bP (xs.take k) ys):=η (fun e=>Gq xs ys k J e);have hh:=Aj ys xs[k] _ _ _ aa bk wr (ak.below h2 hb) a3 hs;have hc:=fun w' (a6:Below wr.heap.size wr w')=>EH xs[k] _ _ bk w' (au.below a3 a6) aE
   have HC:=η hC;clear h h2 ha hC a3
   go_wp2_with fail
   refine hh.mono ?_;rintro e w0 ⟨rfl,y⟩;have B0:=hb.trans (y.mono hb.size);have e0:=ξ y c0;have e1:=ξ y c1;clear hh;cases hhv:hasB ys xs[k]
   ·have I:Hid (bP (xs.take (k+1)) ys=bP (xs.take k) ys ++ [xs[k]]):=η (a4.out hhv)
    have ae:=hc _ y;have a0:=η (HC.out.below au y);clear hhv a4 a5 hc
    go_wp2_with fail
    refine ae.mono ?_;rintro e w1 ⟨af,bg,b3,rfl,hR,hN⟩;obtain ⟨a7,a8,rfl⟩:=wV hR;clear ae;have ag:Below w1.heap.size w1 (w1.alloc (.cells #[.string xs[k].name,.slice a7 xs[k].args.length a8] 33)):=ζ;have a9:Below w0.heap.size w0 (w1.alloc (.cells #[.string xs[k].name,.slice a7 xs[k].args.length a8] 33)):=af.alloc af.size _;have am:=η (B0.trans (a9.mono B0.size));have aL:=η (a0.out.below au a9);have HL:=η (aV (ω w1 (.cells #[.string xs[k].name,.slice a7 xs[k].args.length a8] 33)));have aM:=η (aW.dP (n:=2) (R:=aK) fJ (au.below hR ag));have HF:Hid (∀ b ∈ b3,(Value.slice A m cp).ownBlock ≠ some b):=η (fun b a6=>jk a0.out.own (hN.own b a6).1);have aR:Hid (∀ c ∈ b2 ++ b3,w.heap.size≤c):=η (fun c hc=>(μ.1 hc).elim (a2.out c) (fun h9=>τ B0.size (hN.own c h9).1));have ao:Hid ((bP (xs.take k) ys).length=m):=η HM.out.symm;clear a9 ag hR hN
    go_wp2_with (at_builtin; refine dG rfl _ _ _ rfl w.heap.size 33 i0 (.agg #[.string ⟨#[]⟩,.slice none 0 0]) 2 40 Tryz.underlying24 hi aw az aD rfl (by omega) au (.slice A m cp) m _ _ _ rfl aL.out ao.out (some ⟨w1.heap.size,0,none⟩) 1 1 _ [xs[k]] _ rfl aM.out rfl HL.out HF.out (by unfold maxLen; omega) (by omega) w w.heap.size am.out ν am.out.size ?_; intro A2 b1 w2 aq b4 bh _)
    have b5:=η aq;clear aq;go_wp2;go_roundw
    case rel=>exact ⟨k+1,m+1,A2,b1,_,_,U.out,by go_num,rfl,by rw [I.out,χ,ao.out]; rfl,by rw [I.out]; exact b5.out,b4,aR.out⟩
    case measure=>have:=U.out; simp [intOf]; omega
   ·have I:Hid (bP (xs.take (k+1)) ys=bP (xs.take k) ys):=η (a5.out hhv)
    have a0:=η (HC.out.below au y);clear hhv a4 a5 hc;go_wp2;go_roundw
    case rel=>exact ⟨k+1,m,A,cp,L,b2,U.out,by go_num,rfl,by rw [I.out]; exact HM.out,by rw [I.out]; exact a0.out,B0,a2.out⟩
    case measure=>have:=U.out; simp [intOf]; omega
  ·have he:k=xs.length:=by omega
   subst he;rw [ϕ ν] at hC;have HS:=η hC;clear hC;go_wp2;go_ret;exact ⟨hb,_,L,b2,rfl,HS.out,a2.out⟩
theorem xP (xs ys:List A) (J U:Value) (y I:List Nat) (w:World) (h:ay w [J] xs y) (h2:ay w [U] ys I) (hs:gB ys=true) (hn:xs.length≤16777216) (ha:∀ a ∈ xs,a.args.length≤16777216):
  Calls Tryz.prog 142 #[J,U] w (Reads ay (bP xs ys) w.heap.size w):=
 (Fv xs ys J U y I w h h2 hs hn ha).mono fun e w' ⟨h1,v,L,b9,h2,h3,_⟩=>by
  obtain ⟨b3,a0,_⟩:=h3.slice;exact ⟨h1,v,b3,h2,a0⟩
theorem Iu:(Tryz.prog.info? 42).map (fun i=>(i.zero,i.size,i.bytes))=some (some (.agg #[.bool false,.string ⟨#[]⟩,.slice none 0 0]),3,48):=by kernel_rfl
def D.XM (p:Pt):Prop:=Sm p.atom.name∧p.atom.args.length≤4∧∀ t ∈ p.atom.args,Sm t.name
structure kS (g p:Nat) (w:World) (xs:List Pt) (v:Value) (wr:World):Prop where
 coll:∃ L bs,bK 3 qI w.heap.size 42 wr v L xs bs∧∀ b ∈ bs,w.heap.size≤b
 small:∀ x ∈ xs,XM x
 rdr:kP g p wr
 kept:aI [g] w wr
 glt:g < w.heap.size
section
variable {g p:Nat} {w:World} {xs:List Pt} {v:Value} {wr:World}
theorem kS.call {p2:Nat} {y:World} (h:kS g p w xs v wr) (U:kP g p2 y) (hK:aI [g] wr y):kS g p2 w xs v y:=by
 obtain ⟨L,bs,J,I⟩:=h.coll;exact ⟨⟨L,bs,J.KA jI hK h.glt (Jk h.rdr.Gm J.row),I⟩,h.small,U,h.kept.trans hK,h.glt⟩
theorem kS.below {I:World} (h:kS g p w xs v wr) (hB:Below wr.heap.size wr I):kS g p w xs v I:=by
 obtain ⟨L,bs,J,y⟩:=h.coll;exact ⟨⟨L,bs,J.below jI hB,y⟩,h.small,h.rdr.below hB,h.kept.fE hB h.kept.size,h.glt⟩
theorem kS.parts (h:kS g p w xs v wr):∃ bs,jd wr [v] xs bs∧∀ b ∈ bs,w.heap.size≤b:=by
 obtain ⟨L,bs,I,y⟩:=h.coll;obtain ⟨J,U,h2⟩:=I.slice;exact ⟨J,U,fun b hb=>(h2 b hb).elim id (y b)⟩
theorem kS.shape (h:kS g p w xs v wr):∃ A c,v=.slice A xs.length c:=by
 obtain ⟨L,bs,y,_⟩:=h.coll;exact dZ y.own
theorem kS.part {a:A} {y:Option Addr} {c2:Nat} {I:List Nat} {N pN:Nat} (h:kS g p w xs v wr) {wN:World} (hN:kS g pN w xs v wN) (a4:wN.heap.size=N) (U:aK wr [.string a.name,.slice y a.args.length c2] a I) (hf:∀ b ∈ I,N≤b) (no:Bool):
  ∃ L bs,bK 3 qI w.heap.size 42 (wr.alloc (.cells #[.bool no,.string a.name,.slice y a.args.length c2] 42)) v L xs bs∧(∀ b ∈ bs ++ I,w.heap.size≤b)∧aW 3 qI (wr.alloc (.cells #[.bool no,.string a.name,.slice y a.args.length c2] 42)) [.bool no,.string a.name,.slice y a.args.length c2] [⟨no,a⟩] I∧
   Lies (wr.alloc (.cells #[.bool no,.string a.name,.slice y a.args.length c2] 42)) (some ⟨wr.heap.size,0,none⟩) [.bool no,.string a.name,.slice y a.args.length c2]∧(∀ b ∈ I,v.ownBlock ≠ some b)∧Below w.heap.size wr (wr.alloc (.cells #[.bool no,.string a.name,.slice y a.args.length c2] 42)):=by
 obtain ⟨L,bs,hC,a0⟩:=h.coll;obtain ⟨L',bs',a1,_⟩:=hN.coll;have hA:Below wr.heap.size wr (wr.alloc (.cells #[.bool no,.string a.name,.slice y a.args.length c2] 42)):=ζ;obtain ⟨s,J,a2,a3⟩:=au.below U hA;simp only [List.cons.injEq,and_true,true_and] at J;subst J;exact ⟨L,bs,hC.below jI hA,fun b hb=>(μ.1 hb).elim (a0 b) (fun hb=>by have:=hf b hb; have:=hN.kept.size; omega),aW.dP Ot ⟨_,rfl,a2,a3⟩,aV (ω _ _),fun b hb=>jk a1.own (by have:=hf b hb; omega),ϑ.alloc h.kept.size _⟩
theorem kS.app {J:World} {v4:Value} {L4:List Value} {I:List Nat} {y:Pt} (h:kS g p w xs v wr) (hC:bK 3 qI w.heap.size 42 J v4 L4 (xs ++ [y]) I) (U:∀ b ∈ I,w.heap.size≤b) (hB:Below w.heap.size wr J) (hy:XM y):kS g p w (xs ++ [y]) v4 J:=
 ⟨⟨L4,I,hC,U⟩,fun x hx=>(μ.1 hx).elim (h.small x) (fun hx=>by rw [ώ.1 hx]; exact hy),h.rdr.fE hB h.glt,h.kept.fE hB ν,h.glt⟩
end
def YJ (k m g p q:Nat) (w:World) (e:Ending) (w':World):Prop:=
 ∃ (xs:List Pt) (v:Value) (y:Nat),e=.returned v∧k≤xs.length∧xs.length≤m∧y≤p+q∧kS g y w xs v w'
theorem CO (g p:Nat) (ws:List ByteArray) (n b:Nat) (w:World) (h:kP g p w) (hb:w.heap[b]? = some (.cells (ws.map Value.string).toArray 9 (0,0))) (b1:g ≠ b) (hp:p≤700000) (hn:ws.length=n) (h1:1≤n) (h2:n≤100) (hs:∀ s ∈ ws,Sm s):
  Calls Tryz.prog 158 #[.pointer (some ⟨g,0,none⟩),.slice (some ⟨b,0,none⟩) n n] w (YJ 1 3 g p 25 w):=by
 obtain ⟨i0,hi,b2,b3,b5⟩:=info_parts Iu;have hA:Below w.heap.size w (w.alloc (.cells #[] 42)):=ζ;have HF:Hid (kS g p w [] (.slice (some ⟨w.heap.size,0,none⟩) 0 0) (w.alloc (.cells #[] 42))):=η ⟨⟨_,_,bK.empty (ω w _) ν,fun b hb=>by simp at hb⟩,fun a ha=>by simp at ha,h.below hA,aI.of_below hA,h.lt⟩;have aw:=pick_any g p 3 _ HF.out.rdr (by omega) (by omega) (by omega);have HP:=η hp;have b6:=η hb;have a0:=fun p' w' hR bn bo=>UR g p' ws n b w' hR bn b1 bo hn h1 h2 hs
 have b7:=η a0;have b8:=η b1;clear h hp hA hb b1 hn h1 h2 hs a0
 go_enter Tryz.func158,Tryz.ntmps158
 go_wp2_with fail
 refine aw.mono ?_;rintro e w1 ⟨m,rfl,hm,bf,bg⟩;have bh:=η (HF.out.call bf (aI.dL bg));have HN:Hid (m < 3):=η (by omega);have bp:(m:Int) < 3:=hm;clear aw bf bg HF hm;go_wp2
 go_loopw [5,6] (fun v i wr=>∃ (k:Nat) (xs:List Pt) (Av:Option Addr) (cp p':Nat),i=.int .i64 k∧v=.slice Av xs.length cp∧xs.length+k=m+1∧p'+8 * k≤p+1+8 * (m+1)∧kS g p' w xs (.slice Av xs.length cp) wr) (fun _ i _=>(intOf i).toNat)
 case atStart=>exact ⟨m+1,[],_,_,p+1,by congr 1; omega,rfl,by simp,by omega,bh.out⟩
 case round=>
  obtain ⟨k,xs,Av,cp,p',rfl,rfl,hk,hp,hF⟩:=hrel;have b9:=η hF;have HX:Hid (xs.length+k=m+1∧p'+8 * k≤p+1+8 * (m+1)):=η ⟨hk,hp⟩;have HQ:Hid (p'≤800000∧k≤3∧xs.length≤3):=η (by have:=HP.out; have:=HN.out; omega);clear hF bh hk hp bp;by_cases bc:0 < k
  ·have br:(0:Int) < (k:Int):=by omega
   have bt:(k:Int)≤3:=by have:=HQ.out.2.1; omega
   have HK:=η bc;have aw:=pick_any g p' 6 wr b9.out.rdr (by have:=HQ.out; omega) (by omega) (by omega);clear bc
   go_wp2_with fail
   refine aw.mono ?_;rintro e w2 ⟨m6,rfl,bq,bi,bj⟩;have a5:=η (b9.out.call bi (aI.dL bj));clear aw bi bj bq;by_cases hz:m6=0
   ·subst hz
    by_cases bu:0 < xs.length
    ·have bk:(0:Int) < (xs.length:Int):=by omega
     have a0:=b7.out (p'+1) w2 a5.out.rdr (a5.out.kept.blk b6.out (by simp; exact fun e=>b8.out e.symm)) (by have:=HQ.out.1; omega)
     go_wp2_with fail
     refine a0.mono ?_;rintro e w3 ⟨s,rfl,hs,a1,a6⟩;have a7:=η (a5.out.call a1 a6);have a8:=oQ s true g (p'+1+1) w3 a1 (by have:=HQ.out.1; omega) hs;clear a0 a1 a6 hs
     go_wp2_with fail
     refine a8.mono ?_;rintro e w4 ⟨a,v4,L4,p4,rfl,a2,a9,a3,aa,az,ab,I⟩;obtain ⟨b4,J,y⟩:=a3.slice;obtain ⟨A4,c4,rfl⟩:=dZ a3.own;have a4:=η (a7.out.call aa ab);have ac:Hid (XM ⟨true,a⟩∧p4≤p'+8):=η ⟨⟨a2,Nat.le_succ_of_le a9,I⟩,by omega⟩;obtain ⟨L5,bl,ae,U,af,ag,am,ao⟩:=a4.out.part a7.out rfl ⟨_,rfl,Sm.max a2,J⟩ (fun b hb=>(y b hb).resolve_right (by simp)) (true);have HY:=η (ι ae (ι U (ι af (ι ag (ι am ao)))));have aq:Hid (xs.length+1≤maxLen∧(xs.length+1) * 48≤140737488355328):=η (by have:=HQ.out; unfold maxLen; omega);clear a8 a2 a9 a3 aa az ab I J y ae U af ag am ao;have aD:Hid (w.heap.size≤(w4.alloc (.cells #[.bool true,.string a.name,.slice A4 a.args.length c4] 42)).heap.size):=η (by have:=a4.out.kept.size; simp; omega)
     go_wp2_with (at_builtin; refine dG rfl _ _ _ rfl w.heap.size 42 i0 (.agg #[.bool false,.string ⟨#[]⟩,.slice none 0 0]) 3 48 Tryz.underlying38 hi b2 b3 b5 rfl (by omega) jI (.slice Av xs.length cp) xs.length _ _ _ rfl HY.out.1 rfl (some ⟨w4.heap.size,0,none⟩) 1 1 _ [⟨true,a⟩] _ rfl HY.out.2.2.1 rfl HY.out.2.2.2.1 HY.out.2.2.2.2.1 aq.out.1 aq.out.2 w4 w.heap.size HY.out.2.2.2.2.2 ν aD.out ?_; intro A6 aE w6 ar av aL aM)
     have aR:=η (a4.out.app ar HY.out.2.1 av ac.out.1);clear ar av aL aM HY;go_wp2;go_roundw
     case rel=>exact ⟨k - 1,xs ++ [⟨true,a⟩],A6,aE,p4,by have:=HK.out; first | (unfold wrap64; congr 1; omega) | go_num,by rw [χ]; rfl,by rw [χ]; have:=HX.out; have:=HK.out; simp; omega,by have:=HX.out; have:=HK.out; have:=ac.out.2; omega,by rw [χ]; exact aR.out⟩
     case measure=>have:=HK.out; simp [intOf]; omega
    ·have bk:¬ (0:Int) < (xs.length:Int):=by omega
     have a0:=b7.out (p'+1) w2 a5.out.rdr (a5.out.kept.blk b6.out (by simp; exact fun e=>b8.out e.symm)) (by have:=HQ.out.1; omega)
     go_wp2_with fail
     refine a0.mono ?_;rintro e w3 ⟨s,rfl,hs,a1,a6⟩;have a7:=η (a5.out.call a1 a6);have a8:=oQ s true g (p'+1+1) w3 a1 (by have:=HQ.out.1; omega) hs;clear a0 a1 a6 hs
     go_wp2_with fail
     refine a8.mono ?_;rintro e w4 ⟨a,v4,L4,p4,rfl,a2,a9,a3,aa,az,ab,I⟩;obtain ⟨b4,J,y⟩:=a3.slice;obtain ⟨A4,c4,rfl⟩:=dZ a3.own;have a4:=η (a7.out.call aa ab);have ac:Hid (XM ⟨false,a⟩∧p4≤p'+8):=η ⟨⟨a2,Nat.le_succ_of_le a9,I⟩,by omega⟩;obtain ⟨L5,bl,ae,U,af,ag,am,ao⟩:=a4.out.part a7.out rfl ⟨_,rfl,Sm.max a2,J⟩ (fun b hb=>(y b hb).resolve_right (by simp)) (false);have HY:=η (ι ae (ι U (ι af (ι ag (ι am ao)))));have aq:Hid (xs.length+1≤maxLen∧(xs.length+1) * 48≤140737488355328):=η (by have:=HQ.out; unfold maxLen; omega);clear a8 a2 a9 a3 aa az ab I J y ae U af ag am ao;have aD:Hid (w.heap.size≤(w4.alloc (.cells #[.bool false,.string a.name,.slice A4 a.args.length c4] 42)).heap.size):=η (by have:=a4.out.kept.size; simp; omega)
     go_wp2_with (at_builtin; refine dG rfl _ _ _ rfl w.heap.size 42 i0 (.agg #[.bool false,.string ⟨#[]⟩,.slice none 0 0]) 3 48 Tryz.underlying38 hi b2 b3 b5 rfl (by omega) jI (.slice Av xs.length cp) xs.length _ _ _ rfl HY.out.1 rfl (some ⟨w4.heap.size,0,none⟩) 1 1 _ [⟨false,a⟩] _ rfl HY.out.2.2.1 rfl HY.out.2.2.2.1 HY.out.2.2.2.2.1 aq.out.1 aq.out.2 w4 w.heap.size HY.out.2.2.2.2.2 ν aD.out ?_; intro A6 aE w6 ar av aL aM)
     have aR:=η (a4.out.app ar HY.out.2.1 av ac.out.1);clear ar av aL aM HY;go_wp2;go_roundw
     case rel=>exact ⟨k - 1,xs ++ [⟨false,a⟩],A6,aE,p4,by have:=HK.out; first | (unfold wrap64; congr 1; omega) | go_num,by rw [χ]; rfl,by rw [χ]; have:=HX.out; have:=HK.out; simp; omega,by have:=HX.out; have:=HK.out; have:=ac.out.2; omega,by rw [χ]; exact aR.out⟩
     case measure=>have:=HK.out; simp [intOf]; omega
   ·have bv:¬ (m6:Int)=0:=by omega
    have a0:=b7.out (p'+1) w2 a5.out.rdr (a5.out.kept.blk b6.out (by simp; exact fun e=>b8.out e.symm)) (by have:=HQ.out.1; omega)
    go_wp2_with fail
    refine a0.mono ?_;rintro e w3 ⟨s,rfl,hs,a1,a6⟩;have a7:=η (a5.out.call a1 a6);have a8:=oQ s true g (p'+1+1) w3 a1 (by have:=HQ.out.1; omega) hs;clear a0 a1 a6 hs
    go_wp2_with fail
    refine a8.mono ?_;rintro e w4 ⟨a,v4,L4,p4,rfl,a2,a9,a3,aa,az,ab,I⟩;obtain ⟨b4,J,y⟩:=a3.slice;obtain ⟨A4,c4,rfl⟩:=dZ a3.own;have a4:=η (a7.out.call aa ab);have ac:Hid (XM ⟨false,a⟩∧p4≤p'+8):=η ⟨⟨a2,Nat.le_succ_of_le a9,I⟩,by omega⟩;obtain ⟨L5,bl,ae,U,af,ag,am,ao⟩:=a4.out.part a7.out rfl ⟨_,rfl,Sm.max a2,J⟩ (fun b hb=>(y b hb).resolve_right (by simp)) (false);have HY:=η (ι ae (ι U (ι af (ι ag (ι am ao)))));have aq:Hid (xs.length+1≤maxLen∧(xs.length+1) * 48≤140737488355328):=η (by have:=HQ.out; unfold maxLen; omega);clear a8 a2 a9 a3 aa az ab I J y ae U af ag am ao;have aD:Hid (w.heap.size≤(w4.alloc (.cells #[.bool false,.string a.name,.slice A4 a.args.length c4] 42)).heap.size):=η (by have:=a4.out.kept.size; simp; omega)
    go_wp2_with (at_builtin; refine dG rfl _ _ _ rfl w.heap.size 42 i0 (.agg #[.bool false,.string ⟨#[]⟩,.slice none 0 0]) 3 48 Tryz.underlying38 hi b2 b3 b5 rfl (by omega) jI (.slice Av xs.length cp) xs.length _ _ _ rfl HY.out.1 rfl (some ⟨w4.heap.size,0,none⟩) 1 1 _ [⟨false,a⟩] _ rfl HY.out.2.2.1 rfl HY.out.2.2.2.1 HY.out.2.2.2.2.1 aq.out.1 aq.out.2 w4 w.heap.size HY.out.2.2.2.2.2 ν aD.out ?_; intro A6 aE w6 ar av aL aM)
    have aR:=η (a4.out.app ar HY.out.2.1 av ac.out.1);clear ar av aL aM HY;go_wp2;go_roundw
    case rel=>exact ⟨k - 1,xs ++ [⟨false,a⟩],A6,aE,p4,by have:=HK.out; first | (unfold wrap64; congr 1; omega) | go_num,by rw [χ]; rfl,by rw [χ]; have:=HX.out; have:=HK.out; simp; omega,by have:=HX.out; have:=HK.out; have:=ac.out.2; omega,by rw [χ]; exact aR.out⟩
    case measure=>have:=HK.out; simp [intOf]; omega
  ·obtain rfl:k=0:=by omega
   clear bc;go_wp2;go_ret;exact ⟨xs,_,p',rfl,by have:=HX.out; omega,by have:=HX.out; have:=HN.out; omega,by have:=HX.out; have:=HN.out; omega,b9.out⟩
end Go.Proofs.YtkjinanbccloeaaGreatDoor
