/- Of the proof of FnEvalOnly: ArgsI, TightS, RuleS, Grnd. -/
import Derived.Test.YtkjinanbccloeaaGreatDoorB12
import Derived.Test.YtkjinanbccloeaaGreatDoorB08
set_option linter.unusedVariables false
set_option maxHeartbeats 2000000
set_option maxRecDepth 100000
namespace Go.Proofs.YtkjinanbccloeaaGreatDoor
open Go.RowKit D
attribute [local go_sem ↓] Go.wp_at_zero Go.wp_at_succ
structure D.yc (w:World) (B n:Nat) (st:List ByteArray × (ByteArray→Int) × Bool) (wr:World):Prop where
 map:gI B n st.1 st.2.1 wr
 bm:wr.heap[B+1]? = some (.cells #[.map (some B)] 116 (0,0))
 bb:wr.heap[B+2]? = some (.cells #[.bool st.2.2] 4 (0,0))
 bel:Below B w wr
theorem D.yc.later {w wr w':World} {B n:Nat} {st:List ByteArray × (ByteArray→Int) × Bool} (h:yc w B n st wr) (y:Below wr.heap.size wr w'):yc w B n st w':=
 ⟨h.map.below y h.map.lt,(y.block _ (ψ h.bm)).trans h.bm,(y.block _ (ψ h.bb)).trans h.bb,h.bel.trans (y.mono (Nat.le_of_lt (Nat.lt_of_le_of_lt (Nat.le_add_right _ _) (ψ h.bm))))⟩
theorem note_any (a:A) (c0 c1:Value) (bs:List Nat) (w0 w:World) (B n:Nat) (st:List ByteArray × (ByteArray→Int) × Bool) (h:aG w [c0,c1] a bs) (hI:yc w0 B n st w) (hB:w0.heap.size≤B)
  (hn:n+1≤1000000) (ha:a.args.length≤1000000) (hr:∀ s ∈ st.1,0≤st.2.1 s∧st.2.1 s≤1000000):
  Calls Tryz.prog 131 #[.agg #[c0,c1],.pointer (some ⟨B+1,0,none⟩),.pointer (some ⟨B+2,0,none⟩)] w fun e w'=>e=.returned (.tuple #[])∧yc w0 B (n+1) (jV st a) w'∧∀ c,c < w.heap.size→c ≠ B→c ≠ B+2→w'.heap[c]? = w.heap[c]?:=by
 obtain ⟨s,a2,a3,ht⟩:=h;simp only [List.cons.injEq,and_true] at a2;obtain ⟨rfl,rfl⟩:=a2;obtain ⟨Ad,cap,rfl,hl,hm⟩:=ak ht;have a6:=aA (τ hl hm);obtain ⟨nm,args⟩:=a;obtain ⟨L,f,al⟩:=st;dsimp only at *;have a7:=ψ hI.bm;have a8:=ψ hI.bb;have cM:w.cell? ⟨B+1,0,none⟩=some (.map (some B)):=cell_of_one hI.bm;have cB:w.cell? ⟨B+2,0,none⟩=some (.bool al):=cell_of_one hI.bb;have fB:w.frozen? ⟨B+2,0,none⟩=false:=free_of_one hI.bb;have hM:=hI.map;have HI:=η hI;have y:=η a3;have hA:Below w.heap.size w (w.alloc (.cells #[.string nm,.slice Ad args.length cap] 33)):=ζ;have I:=η (hM.below hA hM.lt);have a4:=η (hI.later hA);have HR:=η hr;clear hl hm ht hI hA hM hr
 have put:∀ w1,gI B (n+1) (fO L nm) (fun t=>if t=nm then (args.length:Int) else f t) w1→(w.alloc (.cells #[.string nm,.slice Ad args.length cap] 33)).grownBy w1 (some B)→¬ (nm ∈ L∧f nm ≠ args.length)→yc w0 B (n+1) (jV (L,f,al) ⟨nm,args⟩) w1∧∀ c,c < w.heap.size→c ≠ B→c ≠ B+2→w1.heap[c]? = w.heap[c]?:=fun w1 h1 h2 h3=>by
  have e:jV (L,f,al) ⟨nm,args⟩=(fO L nm,fun t=>if t=nm then (args.length:Int) else f t,al):=by unfold jV; rw [if_neg h3]
  have J:=a4.out;rw [e];refine ⟨?_,fun c hc h4 h5=>(h2.block c (by simp; omega) (by simpa using h4)).trans (Below.heap_alloc _ _ _ hc)⟩;exact ⟨h1,(h2.block _ (ψ J.bm) (by simp)).trans J.bm,(h2.block _ (ψ J.bb) (by simp)).trans J.bb,J.bel.grown h2 (by have:=ψ J.bm; omega) fun j hj=>by cases hj; exact ν⟩
 have HP:=η put;clear put;by_cases U:nm ∈ L
 ·have hd:decide (nm ∈ L)=true:=decide_eq_true U
  have hv:(if nm ∈ L then f nm else 0)=f nm:=if_pos U;have a5:=HR.out nm U;by_cases hE:f nm=args.length
  ·have HN:Hid (¬ (nm ∈ L∧f nm ≠ args.length)):=η fun h=>h.2 hE
   have HD:=η hd;have HV:Hid ((if nm ∈ L then f nm else 0)=(args.length:Int)):=η (hv.trans hE);clear U hd hv a5 hE HR
   go_enter Tryz.func131,Tryz.ntmps131
   go_wp2_with (first | (at_lookup; refine dB _ rfl _ _ _ rfl Tryz.underlying116 B n L f rfl I.out nm rfl y.out true HD.out _ HV.out ?_) | (at_mapUpdate; refine jW _ rfl _ _ _ _ rfl Tryz.underlying116 B n L f rfl I.out nm rfl y.out _ rfl (by unfold maxLen; omega) (by omega) ?_; intro w1 a0 a1) | go_in)
   go_end0
   exact ⟨rfl,HP.out w1 a0 a1 HN.out⟩
  ·have HN:Hid (jV (L,f,al) ⟨nm,args⟩=(L,f,false)):=η (by unfold jV; rw [if_pos ⟨U,hE⟩])
   have HD:=η hd;have HV:=η hv
   have HS:Hid (yc w0 B (n+1) (L,f,false) ((w.setCell ⟨B+2,0,none⟩ (.bool false)).alloc (.cells #[.string nm,.slice Ad args.length cap] 33))):=η (by
    have J:=HI.out
    have h1:yc w0 B (n+1) (L,f,false) (w.setCell ⟨B+2,0,none⟩ (.bool false)):=
     ⟨(J.map.mono (Nat.le_succ n)).setCell (by simp) _,(π _ _ _ _ (by simp)).trans J.bm,one_setCell J.bb,J.bel.setCell (by simp) _⟩
    exact h1.later (ζ))
   clear U hd hv HR HP
   go_enter Tryz.func131,Tryz.ntmps131
   go_wp2_with (first | (at_lookup; refine dB _ rfl _ _ _ rfl Tryz.underlying116 B n L f rfl I.out nm rfl y.out true HD.out _ HV.out ?_) | go_in)
   refine bodyPost_ret (results_none rfl _ _ _) rfl ?_;exact ⟨rfl,by rw [HN.out]; exact HS.out,fun c hc h4 h5=>(Below.heap_alloc _ _ _ (by simpa using hc)).trans (π _ _ _ _ h5)⟩
 ·have HD:Hid (decide (nm ∈ L)=false):=η (decide_eq_false U)
  have HV:Hid ((if nm ∈ L then f nm else 0)=0):=η (if_neg U);have HN:Hid (¬ (nm ∈ L∧f nm ≠ args.length)):=η fun h=>U h.1
  clear U HR
  go_enter Tryz.func131,Tryz.ntmps131
  go_wp2_with (first | (at_lookup; refine dB _ rfl _ _ _ rfl Tryz.underlying116 B n L f rfl I.out nm rfl y.out false HD.out _ HV.out ?_) | (at_mapUpdate; refine jW _ rfl _ _ _ _ rfl Tryz.underlying116 B n L f rfl I.out nm rfl y.out _ rfl (by unfold maxLen; omega) (by omega) ?_; intro w1 a0 a1) | go_in)
  go_end0
  exact ⟨rfl,HP.out w1 a0 a1 HN.out⟩
theorem D.zh {rs:List Ru} (hok:rs.all dN=true) (hf:rs.length≤8) {xs:List A} (y:∀ a ∈ xs,a ∈ aF rs):∀ s ∈ (dG xs).1,0≤(dG xs).2.1 s∧(dG xs).2.1 s≤1000000:=fun s I=>by
 have:=Jw (m:=3) (fun a ha=>(kQ hok).1 a (y a ha)) I;omega
theorem D.tV {rs:List Ru} (k:Nat):∀ a ∈ aF (rs.take k),a ∈ aF rs:=fun a ha=>by
 obtain ⟨r,hr,h⟩:=vZ ha;exact List.mem_flatMap.2 ⟨r,List.mem_of_mem_take hr,h⟩
theorem D.JR {rs:List Ru} {k:Nat} (h:k < rs.length):∀ a ∈ iZ rs[k],a ∈ aF rs:=fun a ha=>List.mem_flatMap.2 ⟨_,δ h,ha⟩
theorem Dj (rs:List Ru) (v:Value) (bs:List Nat) (w:World) (h:dS w [v] rs bs) (hok:rs.all dN=true) (hf:rs.length≤8):
  Calls Tryz.prog 69 #[v] w fun e w'=>e=.returned (.tuple #[.map (some w.heap.size),.bool (jH (aF rs))])∧
   ∃ n,gI w.heap.size n (dG (aF rs)).1 (dG (aF rs)).2.1 w'∧Below w.heap.size w w':=by
 obtain ⟨Ad,cap,rfl,hl,hm⟩:=ak h;have b7:=aA (τ hl hm);have ar:=@run_makeMap Tryz.prog
 have a4:Hid (yc w w.heap.size 0 (dG []) (((w.alloc (.map #[] 0)).alloc (.cells #[.map (some w.heap.size)] 116)).alloc (.cells #[.bool true] 4))):=η (by
  refine ⟨((gI.made w _).same ?_),?_,?_,((((Below.refl _ w).alloc ν _).alloc (by simp) _).alloc (by simp; omega) _)⟩
  ·exact (Below.heap_alloc _ _ _ (by simp; omega)).trans (Below.heap_alloc _ _ _ (by simp))
  ·refine (Below.heap_alloc _ _ _ (by simp)).trans ?_
   simpa using ω (w.alloc (.map #[] 0)) (.cells #[.map (some w.heap.size)] 116)
  ·simpa [dG] using ω ((w.alloc (.map #[] 0)).alloc (.cells #[.map (some w.heap.size)] 116)) (.cells #[.bool true] 4))
 have a5:=η (fun xs hx=>zh hok hf (xs:=xs) hx);have av:=η hok;have b8:Hid ((aF rs).length≤40):=η (by have:=(kQ hok).2; omega)
 have a6:Hid (∀ k,(aF (rs.take k)).length≤40):=η fun k=>by
  have:=(kQ (rs:=rs.take k) (List.all_eq_true.2 fun r hr=>List.all_eq_true.1 hok r (List.mem_of_mem_take hr))).2;rw [List.length_take] at this; omega
 clear hl hm hok hf
 go_enter Tryz.func69,Tryz.ntmps69
 go_wp2;generalize (((w.alloc (.map #[] 0)).alloc (.cells #[.map (some w.heap.size)] 116)).alloc (.cells #[.bool true] 4))=w0 at *
 go_loopw [15] (fun i wr=>∃ k:Nat,k≤rs.length∧i=.int .i64 k∧yc w w.heap.size (aF (rs.take k)).length (dG (aF (rs.take k))) wr) (fun i _=>rs.length - (intOf i).toNat)
 case atStart=>exact ⟨0,ε,rfl,a4.out⟩
 case round=>
  obtain ⟨k,hk,rfl,I⟩:=hrel;clear a4 ar;by_cases y:k < rs.length
  ·obtain ⟨b,o,Ae,ce,Af,cf,bk,rfl,_,d0,d1,d2,J,_⟩:=gy h y
   replace d0:=ξ I.bel d0;replace d1:=ξ I.bel d1;replace d2:=ξ I.bel d2;have b9:(0:Int)≤(k:Int):=by omega
   have aw:(k:Int) < (rs.length:Int):=by omega
   have hA:Below wr.heap.size wr (wr.alloc (.cells #[.string rs[k].head.name,.slice Ae rs[k].head.args.length ce,.slice Af rs[k].body.length cf] 40)):=ζ;obtain ⟨b1,b2,_,a7,a8⟩:=iO J;have az:=η a8;have a9:=η (aj.below (aj.below a7 I.bel) hA);have aa:=η y;have aD:=η (oI rs k y);have U:=kF (List.all_eq_true.1 av.out _ (δ y));have bc:(rs[k].body.length:Int)≤4:=by have:=U.1; omega
   have ab:=η (JR y);have a0:rs[k].head.args.length≤1000000:=by have:=U.2.2 rs[k].head Γ; omega
   have aE:=η U.2.2;have ac:=η (I.later hA);clear h J hA a7 a8 U;generalize rs[k]=r at *;clear y;obtain ⟨⟨nm,args⟩,body⟩:=r;dsimp only at *
   go_wp2_with fail
   have q2:(wr.alloc (.cells #[.string nm,.slice Ae args.length ce,.slice Af body.length cf] 40)).cell? ⟨wr.heap.size,2,none⟩=some (.slice Af body.length cf):=by go_simp
   have q3:w.heap.size+2 < wr.heap.size:=ψ I.bb;clear I;generalize wr.alloc (.cells #[.string nm,.slice Ae args.length ce,.slice Af body.length cf] 40)=w1 at *;refine (note_any ⟨nm,args⟩ _ _ b1 w w1 w.heap.size _ _ a9.out ac.out ν (by have:=a6.out k; omega) a0 (a5.out _ (tV k))).mono ?_;rintro e w2 ⟨rfl,a1,ae⟩;rw [← uK] at a1;have hlen:(aF (rs.take k) ++ [(⟨nm,args⟩:A)]).length=(aF (rs.take k)).length+1:=by simp
   rw [← hlen] at a1
   have a2:∀ a ∈ aF (rs.take k) ++ [(⟨nm,args⟩:A)],a ∈ aF rs:=fun a ha=>by
    rcases μ.1 ha with ha | ha
    ·exact tV k a ha
    ·rw [List.mem_singleton.1 ha]; exact ab.out _ Γ
   have e2:w2.cell? ⟨wr.heap.size,2,none⟩=some (.slice Af body.length cf):=by
    rw [World.cell?_of_block (w:=w1) (ae _ (lt_of_cell q2) (by dsimp only; omega) (by dsimp only; omega))]; exact q2
   have aL:=η a2;have af:=η a1;have HX:Hid ((aF (rs.take k) ++ [(⟨nm,args⟩:A)]).length≤41):=η (by rw [hlen]; have:=a6.out k; omega);clear a2 a1 ae hlen a9 q2 q3;generalize aF (rs.take k) ++ [(⟨nm,args⟩:A)]=xs at *;go_wp2
   go_loopw [26] (fun i wr=>∃ j:Nat,j≤body.length∧i=.int .i64 j∧yc w w.heap.size (xs ++ eG (body.take j)).length (dG (xs ++ eG (body.take j))) wr) (fun i _=>body.length - (intOf i).toNat)
   case atStart=>exact ⟨0,ε,rfl,by simpa [eG] using af.out⟩
   case round=>
    obtain ⟨j,hj,rfl,I⟩:=hrel;clear af ac;by_cases y:j < body.length
    ·obtain ⟨b0,o0,Ag,cg,bg,rfl,_,f0,f1,f2,J,_⟩:=iH az.out y
     replace f0:=ξ I.bel f0;replace f1:=ξ I.bel f1;replace f2:=ξ I.bel f2;have bf:(0:Int)≤(j:Int):=by omega
     have aM:(j:Int) < (body.length:Int):=by omega
     have aR:=η (qU body j y);have ag:=η y;have am:body[j].atom ∈ iZ ⟨⟨nm,args⟩,body⟩:=Δ _ (List.mem_map.2 ⟨_,δ y,rfl⟩);have b3:body[j].atom.args.length≤1000000:=by have:=aE.out _ am; omega
     have hA:Below wr.heap.size wr (wr.alloc (.cells #[.bool body[j].no,.string body[j].atom.name,.slice Ag body[j].atom.args.length cg] 42)):=ζ;have ao:=η (aj.below (aj.below (iV J) I.bel) hA);have ap:=η (I.later hA);have b4:Hid ((xs ++ eG (body.take j)).length+1≤1000000):=η (by rw [χ,lu,List.length_take]; have:=HX.out; omega)
     have b5:Hid (∀ a ∈ xs ++ eG (body.take j),a ∈ aF rs):=η fun a ha=>by
      rcases μ.1 ha with ha | ha
      ·exact aL.out a ha
      ·refine ab.out _ (Δ _ ?_)
       unfold eG at ha;obtain ⟨p,hp,rfl⟩:=List.mem_map.1 ha;exact List.mem_map.2 ⟨p,List.mem_of_mem_take hp,rfl⟩
     clear J hA I am;generalize body[j]=p at *;clear y;obtain ⟨no,⟨pn,a3⟩⟩:=p;dsimp only at *
     go_wp2_with fail
     refine (note_any ⟨pn,a3⟩ _ _ bg w _ w.heap.size _ _ ao.out ap.out ν b4.out b3 (a5.out _ b5.out)).mono ?_;rintro e w3 ⟨rfl,aq,_⟩
     have b6:Hid (yc w w.heap.size (xs ++ eG (body.take (j+1))).length (dG (xs ++ eG (body.take (j+1)))) w3):=η (by
      rw [aR.out,← List.append_assoc,uK,χ]
      exact aq)
     clear aq ap ao;go_wp2;go_roundw
     case rel=>exact ⟨j+1,ag.out,by go_num,b6.out⟩
     case measure=>have:=ag.out; simp [intOf]; omega
    ·have he:j=body.length:=by omega
     have aM:¬ (j:Int) < (body.length:Int):=by omega
     have HE:Hid (yc w w.heap.size (aF (rs.take (k+1))).length (dG (aF (rs.take (k+1)))) wr):=η (by
      rw [aD.out];subst he;rw [ϕ ν] at I
      exact I)
     clear I he;go_wp2;go_roundw
     case rel=>exact ⟨k+1,aa.out,by go_num,HE.out⟩
     case measure=>have:=aa.out; simp [intOf]; omega
  ·have he:k=rs.length:=by omega
   have aw:¬ (k:Int) < (rs.length:Int):=by omega
   subst he;rw [ϕ ν] at I;have cM:=cell_of_one I.bm;have cB:wr.cell? ⟨w.heap.size+1+1,0,none⟩=_:=cell_of_one I.bb;have a0:=yZ (aF rs);rw [a0] at cB;have HZ:Hid (∃ n,gI w.heap.size n (dG (aF rs)).1 (dG (aF rs)).2.1 wr∧Below w.heap.size w wr):=η ⟨_,I.map,I.bel⟩;clear I h a0;go_wp2
   go_quiet (fail)
   go_wp2;go_ret2;obtain ⟨n,h1,h2⟩:=HZ.out;exact ⟨rfl,n,h1.same rfl,⟨h2.os,h2.tape,h2.output,h2.size,h2.block⟩⟩
def D.kR (y:List T) (out:List ByteArray):List ByteArray:=y.foldl (fun o t=>if t.var then jR o t.name else o) out
theorem D.JS (y:List T) (k:Nat) (h:k < y.length) (out:List ByteArray):kR (y.take (k+1)) out=if y[k].var then jR (kR (y.take k) out) y[k].name else kR (y.take k) out:=MK ⟨ByteArray.empty,y⟩ k h out
theorem D.Dk {w:World} {g:Nat}:ji w [.slice (some ⟨g,0,none⟩) 0 0] [] []:=⟨_,0,rfl,ν,ε,fun _=>rfl,fun h=>absurd rfl h⟩
theorem uQ (a:A) (out:List ByteArray) (c0 c1 v:Value) (b1 b2:List Nat) (w:World) (h:aG w [c0,c1] a b1) (h2:ji w [v] out b2) (hn:out.length+a.args.length≤16777216):
  Calls Tryz.prog 213 #[.agg #[c0,c1],v] w (SI (kD a out) b2 w.heap.size w):=by
 have ht:=dm h;obtain ⟨Aa,ca,rfl,rfl⟩:=aY h;obtain ⟨As,cs,rfl,_,_⟩:=ak h2;obtain ⟨_,_,a8,a5,a6⟩:=ak ht;have ac:=aA (τ a5 a6);obtain ⟨an,args⟩:=a;dsimp only at *;have hA:Below w.heap.size w (w.alloc (.cells #[.string an,.slice Aa args.length ca] 33)):=ζ;have x1:(w.alloc (.cells #[.string an,.slice Aa args.length ca] 33)).cell? ⟨w.heap.size,1,none⟩=some (.slice Aa args.length ca):=by go_simp
 have I:=η (ι (bV.below h2 hA) (ι hA x1));have HE:Hid (kD ⟨an,args⟩ out=kR args out):=η rfl;have HN:=η hn;clear h h2 a5 a6 a8 hA x1 hn
 go_enter Tryz.func213,Tryz.ntmps213
 go_wp2
 go_loopw [1,5] (fun v i wr=>∃ (k m:Nat) (Av:Option Addr) (cp:Nat) (b4:List Nat),k≤args.length∧i=.int .i64 k∧v=.slice Av m cp∧m=(kR (args.take k) out).length∧ji wr [.slice Av m cp] (kR (args.take k) out) b4∧(∀ c ∈ b4,w.heap.size≤c∨c ∈ b2)∧Below w.heap.size w wr∧wr.cell? ⟨w.heap.size,1,none⟩=some (.slice Aa args.length ca)) (fun _ i _=>args.length - (intOf i).toNat)
 case atStart=>exact ⟨0,out.length,As,cs,b2,ε,rfl,rfl,rfl,I.out.1,fun c hc=>.inr hc,I.out.2.1,I.out.2.2⟩
 case round=>
  obtain ⟨k,m,Av,cp,b4,hk,rfl,rfl,a1,hR,a0,hb,x1⟩:=hrel;have a2:=η a0;clear a0;clear I;have HM:=η a1;by_cases J:k < args.length
  ·obtain ⟨b,o,rfl,_,d0,d1,a9⟩:=dY (aN.below ht hb) J
   have ae:(0:Int)≤(k:Int):=by omega
   have aa:(k:Int) < (args.length:Int):=by omega
   have U:=η J
   have hlen:(kR (args.take k) out).length≤16777216:=by
    have h1:=uG (args.take k) out;rw [List.length_take] at h1;have:=HN.out;have h3:(kR (args.take k) out).length≤out.length+min k args.length:=h1;omega
   have hp:=Pq (kR (args.take k) out) args[k].name _ b4 wr hR a9 hlen;have HT:=η (JS args k J out);have HR:=η (ι hR hb);generalize args[k]=t at *;obtain ⟨tv,tn⟩:=t;dsimp only at *;clear a1 hR hb ht hlen J hk;cases tv
   ·have y:Hid (kR (args.take (k+1)) out=kR (args.take k) out):=η (by rw [HT.out]; rfl)
    clear HT hp;go_wp2;go_roundw
    case rel=>exact ⟨k+1,m,Av,cp,b4,U.out,by go_num,rfl,by rw [y.out]; exact HM.out,by rw [y.out]; exact HR.out.1,a2.out,HR.out.2,x1⟩
    case measure=>have:=U.out; simp [intOf]; omega
   ·have y:Hid (kR (args.take (k+1)) out=jR (kR (args.take k) out) tn):=η (by rw [HT.out]; rfl)
    clear HT
    go_wp2_with fail
    refine hp.mono ?_;rintro e w2 ⟨a3,v2,b5,rfl,a4,a7⟩;obtain ⟨A2,p2,rfl,_,_⟩:=ak a4;have HX:=η (ι a4 (ι (HR.out.2.trans (a3.mono HR.out.2.size)) (ξ a3 x1)));have ab:Hid (∀ c ∈ b5,w.heap.size≤c∨c ∈ b2):=η (fun c hc=>(a7 c hc).elim (fun h9=>.inl (τ HR.out.2.size h9)) (a2.out c));clear hp a4 a3 x1 a7;go_wp2;go_roundw
    case rel=>exact ⟨k+1,_,A2,p2,b5,U.out,by go_num,rfl,by rw [y.out],by rw [y.out]; exact HX.out.1,ab.out,HX.out.2.1,HX.out.2.2⟩
    case measure=>have:=U.out; simp [intOf]; omega
  ·have he:=η (show k=args.length by omega)
   have aa:¬ (k:Int) < (args.length:Int):=by omega
   have HX:Hid (ji wr [.slice Av m cp] (kR args out) b4):=η (by rw [he.out,ϕ ν] at hR; exact hR);have HB:=η hb;clear hR a1 hb ht;go_wp2;go_ret;exact ⟨HB.out,_,b4,rfl,by rw [HE.out]; exact HX.out,a2.out⟩
theorem D.JU {α:Type} (f:α→Nat) (q:α→Bool) (xs:List α):iq f (xs.filter q)≤iq f xs:=by
 induction xs with
 | nil=>simp [iq]
 | cons x xs ih=>
  rw [List.filter_cons];have e:iq f (x :: xs)=f x+iq f xs:=by simp [iq]
  split
  ·have y:iq f (x :: xs.filter q)=f x+iq f (xs.filter q):=by simp [iq]
   omega
  ·omega
theorem D.PS {ps:List Pt} {m:Nat} (y:iq (fun p=>p.atom.args.length) ps≤m) (k:Nat) (out:List ByteArray):(dU (ps.take k) out).length≤out.length+m:=by
 have h1:=ny (ps.take k) out;have I:=rY (fun p:Pt=>p.atom.args.length) ps k;omega
theorem zi (r:Ru) (c0 c1 c2:Value) (bs:List Nat) (w:World) (h:fG w [c0,c1,c2] r bs) (hs:iq (fun p=>p.atom.args.length) r.body≤1000000) (hh:r.head.args.length≤1000000):
  Calls Tryz.prog 163 #[.agg #[c0,c1,c2]] w fun e w'=>e=.returned (.bool (dZ r.head r.body))∧Below w.heap.size w w':=by
 obtain ⟨p1,p2,rfl,af,a1⟩:=iO h;obtain ⟨Ad,cap,Ae,y,rfl,rfl,rfl⟩:=nV h;obtain ⟨_,_,aD,ag,am⟩:=ak a1;have aR:=aA (τ ag am);obtain ⟨I,ps⟩:=r;dsimp only at *;have hA:Below w.heap.size w (w.alloc (.cells #[.string I.name,.slice Ad I.args.length cap,.slice Ae ps.length y] 40)):=ζ;have x2:(w.alloc (.cells #[.string I.name,.slice Ad I.args.length cap,.slice Ae ps.length y] 40)).cell? ⟨w.heap.size,2,none⟩=some (.slice Ae ps.length y):=by go_simp
 have ao:Below w.heap.size w (((w.alloc (.cells #[.string I.name,.slice Ad I.args.length cap,.slice Ae ps.length y] 40)).alloc (.cells #[] 9)).alloc (.cells #[] 9)):=(hA.alloc (by simp) _).alloc (by simp <;> omega) _;have ap:=uQ I [] _ _ (.slice (some ⟨w.heap.size+1+1,0,none⟩) 0 0) p1 [] _ (aj.below af ao) Dk (by simp; omega);have HE:Hid (dZ I ps=decide ((dU ps (kD I [])).length=(dU (ps.filter fun p=>!p.no) []).length)):=η rfl;have HS:=η hs;have HH:=η hh;have aq:=η ao;have b1:=η x2;clear h ag am aD hA hs hh af;generalize dZ I ps=G at *
 go_enter Tryz.func163,Tryz.ntmps163
 go_wp2_with fail
 refine ap.mono ?_;rintro e w1 ⟨a6,v1,b4,rfl,a7,_⟩;obtain ⟨A1,p9,rfl,_,_⟩:=ak a7;have a2:=η (ι a7 (ι (aq.out.trans (a6.mono aq.out.size)) (ξ a6 (show ((((w.alloc (.cells #[.string I.name,.slice Ad I.args.length cap,.slice Ae ps.length y] 40)).alloc (.cells #[] 9)).alloc (.cells #[] 9)).cell? ⟨w.heap.size,2,none⟩=some (.slice Ae ps.length y)) by go_simp))));clear ap a7 a6 x2;go_wp2
 go_loopw [3,4,5] (fun v3 v4 i wr=>∃ (k m q:Nat) (Av Bv:Option Addr) (cp cq:Nat) (b4 b5:List Nat),k≤ps.length∧i=.int .i64 k∧v3=.slice Bv q cq∧v4=.slice Av m cp∧m=(dU (ps.take k) (kD I [])).length∧ji wr [.slice Av m cp] (dU (ps.take k) (kD I [])) b4∧
  q=(dU ((ps.take k).filter fun p=>!p.no) []).length∧ji wr [.slice Bv q cq] (dU ((ps.take k).filter fun p=>!p.no) []) b5∧Below w.heap.size w wr∧wr.cell? ⟨w.heap.size,2,none⟩=some (.slice Ae ps.length y)) (fun _ _ i _=>ps.length - (intOf i).toNat)
 case atStart=>exact ⟨0,_,0,A1,_,p9,_,b4,[],ε,rfl,rfl,rfl,rfl,a2.out.1,rfl,Dk,a2.out.2.1,a2.out.2.2⟩
 case round=>
  obtain ⟨k,m,q,Av,Bv,cp,cq,b4,b5,hk,rfl,rfl,rfl,a8,hR,a9,hQ,hb,x2⟩:=hrel;clear a2;have HM:=η (ι a8 a9);by_cases U:k < ps.length
  ·obtain ⟨b,o,Aa,ce,bk,rfl,_,d0,d1,d2,aa,_⟩:=iH (dw.below a1 hb) U
   have b2:(0:Int)≤(k:Int):=by omega
   have aE:(k:Int) < (ps.length:Int):=by omega
   have a3:=η U
   have ar:(dU (ps.take k) (kD I [])).length+ps[k].atom.args.length≤16777216:=by
    have h1:=PS HS.out k (kD I []);have h2:=Fa I [];have h3:=Oh (fun p:Pt=>p.atom.args.length) ps k U;have:=HS.out;have:=HH.out;simp only [List.length_nil] at h2;omega
   have av:(dU ((ps.take k).filter fun p=>!p.no) []).length+ps[k].atom.args.length≤16777216:=by
    have h1:=ny ((ps.take k).filter fun p=>!p.no) [];have h4:=JU (fun p:Pt=>p.atom.args.length) (fun p=>!p.no) (ps.take k);have h5:=rY (fun p:Pt=>p.atom.args.length) ps k;have h3:=Oh (fun p:Pt=>p.atom.args.length) ps k U;have:=HS.out;simp only [List.length_nil] at h1;omega
   have hp:=uQ ps[k].atom _ _ _ _ bk b4 wr (iV aa) hR ar;have aw:=fun w' (az:Below wr.heap.size wr w')=>uQ ps[k].atom _ _ _ _ bk b5 w' (aj.below (iV aa) az) (bV.below hQ az) av
   have HT:=η (Jd ps k U (kD I []));have a4:=η (Je ps k U);have HB:=η hb;have HQ:=η hQ;generalize ps[k]=p at *;obtain ⟨no,pa⟩:=p;dsimp only at *;clear a8 a9 hR hQ hb a1 aa U hk ar av
   go_wp2_with fail
   refine hp.mono ?_;rintro e w2 ⟨J,v2,b6,rfl,ab,_⟩;obtain ⟨A2,p2,rfl,_,_⟩:=ak ab;have HX:=η (ι ab (HB.out.trans (J.mono HB.out.size)));replace HQ:=η (bV.below HQ.out J);have ac:=aw _ J;replace x2:=ξ J x2;replace d0:=ξ J d0;replace d1:=ξ J d1;replace d2:=ξ J d2;clear hp aw ab J;cases no
   ·have a0:Hid (dU ((ps.take (k+1)).filter fun p=>!p.no) []=kD pa (dU ((ps.take k).filter fun p=>!p.no) [])):=η (by rw [a4.out]; unfold dU; rw [List.foldl_append]; rfl)
    clear a4
    go_wp2_with fail
    refine ac.mono ?_;rintro e w3 ⟨a5,v3,b7,rfl,ae,_⟩;obtain ⟨A3,p3,rfl,_,_⟩:=ak ae;have HY:=η (ι ae (ι (bV.below HX.out.1 a5) (ι (HX.out.2.trans (a5.mono HX.out.2.size)) (ξ a5 x2))));clear ac ae a5 x2 d0 d1 d2;go_wp2;go_roundw
    case rel=>exact ⟨k+1,_,_,A2,A3,p2,p3,b6,b7,a3.out,by go_num,rfl,rfl,by rw [HT.out],by rw [HT.out]; exact HY.out.2.1,by rw [a0.out],by rw [a0.out]; exact HY.out.1,HY.out.2.2.1,HY.out.2.2.2⟩
    case measure=>have:=a3.out; simp [intOf]; omega
   ·have a0:Hid (dU ((ps.take (k+1)).filter fun p=>!p.no) []=dU ((ps.take k).filter fun p=>!p.no) []):=η (by rw [a4.out]; simp)
    clear a4 ac d1 d2;go_wp2;go_roundw
    case rel=>exact ⟨k+1,_,q,A2,Bv,p2,cq,b6,b5,a3.out,by go_num,rfl,rfl,by rw [HT.out],by rw [HT.out]; exact HX.out.1,by rw [a0.out]; exact HM.out.2,by rw [a0.out]; exact HQ.out,HX.out.2,x2⟩
    case measure=>have:=a3.out; simp [intOf]; omega
  ·have he:=η (show k=ps.length by omega)
   have aE:¬ (k:Int) < (ps.length:Int):=by omega
   have aL:Hid (G=decide (m=q)):=η (by
    have h1:=HM.out.1;have h2:=HM.out.2;rw [he.out,ϕ ν] at h1 h2
    rw [HE.out,← h1,← h2])
   have HB:=η hb;clear hR hQ a8 a9 hb a1 HE;go_wp2;go_ret;exact ⟨aJ (by rw [aL.out]; first | (simp; omega) | (by_cases aM:m=q <;> simp [aM] <;> omega)),HB.out⟩
theorem D.Dl {α:Type} (f:α→Nat) (c:Nat) (xs:List α) (h:∀ x ∈ xs,f x≤c):iq f xs≤c * xs.length:=by
 induction xs with
 | nil=>simp [iq]
 | cons x xs ih=>
  have e:iq f (x :: xs)=f x+iq f xs:=by simp [iq]
  have h1:=h x Γ;have J:=ih (fun y I=>h y (Δ _ I));rw [e,List.length_cons,Nat.mul_add];omega
theorem Nu (r:Ru) (c0 c1 c2:Value) (bs:List Nat) (w:World) (h:fG w [c0,c1,c2] r bs):
  Calls Tryz.prog 166 #[.agg #[c0,c1,c2]] w fun e w'=>e=.returned (.bool (dN r))∧Below w.heap.size w w':=by
 obtain ⟨b1,b2,rfl,hp,hq⟩:=iO h;obtain ⟨Ad,cap,Ae,I,rfl,rfl,rfl⟩:=nV h;obtain ⟨_,_,hv,hl,hm⟩:=ak hq;have a4:=aA (τ hl hm);have hok:=fun w' (J:Below w.heap.size w w')=>qW r.head _ _ b1 w' (aj.below hp J)
 have hr:dN r=(decide (r.body.length≤4) && r.body.all (fun p=>aX p.atom) && aX r.head):=rfl;rw [hr];clear h hp hv hl hm hr;generalize aX r.head=b at *;have hA:=(Below.refl w.heap.size w).alloc ν (.cells #[.string r.head.name,.slice Ad r.head.args.length cap,.slice Ae r.body.length I] 40)
 go_enter Tryz.func166,Tryz.ntmps166
 go_wp2
 go_loopw [3] (fun i wr=>∃ k:Nat,k≤r.body.length∧i=.int .i64 k∧(r.body.take k).all (fun p=>aX p.atom)=true∧Below w.heap.size w wr∧wr.cell? ⟨w.heap.size,0,none⟩=some (.string r.head.name)∧wr.cell? ⟨w.heap.size,1,none⟩=some (.slice Ad r.head.args.length cap)∧wr.cell? ⟨w.heap.size,2,none⟩=some (.slice Ae r.body.length I)∧w.heap.size < wr.heap.size) (fun i _=>r.body.length - (intOf i).toNat)
 case atStart=>exact ⟨0,ε,rfl,rfl,hA,by go_simp,by go_simp,by go_simp,by simp⟩
 case round=>
  obtain ⟨k,hk,rfl,U,J,x0,x1,x2,a5⟩:=hrel;have HA:=η U;clear U hA;by_cases a0:k < r.body.length
  ·obtain ⟨bb,o,Af,cf,bk,rfl,_,d0,d1,d2,a1,_⟩:=iH (dw.below hq J) a0
   have a2:=iV a1;clear hq a1
   go_wp2_with fail
   refine (qW r.body[k].atom _ _ bk _ a2).mono ?_;rintro e w' ⟨rfl,y⟩;have B':=J.trans (y.mono J.size);have y0:=ξ y x0;have y1:=ξ y x1;have y2:=ξ y x2;have S':w.heap.size < w'.heap.size:=by have:=y.size; omega
   clear a2 x0 x1 x2;by_cases hx:aX r.body[k].atom=true
   ·have a3:(!aX r.body[k].atom)=false:=by simp [hx]
    have HX:=η hx;clear hx;go_wp2;go_roundw
    case rel=>exact ⟨k+1,by omega,by go_num,by rw [iP r.body k a0,HA.out]; exact HX.out,B',y0,y1,y2,S'⟩
    case measure=>simp [intOf]; omega
   ·have a3:(!aX r.body[k].atom)=true:=by simpa using hx
    have HX:=η hx;clear hx;go_wp2;go_ret;exact ⟨aJ (by rw [rZ r.body k a0 (by simpa using HX.out)]; simp),B'⟩
  ·have he:=η (show k=r.body.length by omega)
   have ha:Hid (r.body.all (fun p=>aX p.atom)=true):=by have:=HA.out; rw [he.out,ϕ ν] at this; exact this
   go_wp2_with fail
   refine (hok _ J).mono ?_;rintro e w' ⟨rfl,y⟩;have B':=J.trans (y.mono J.size);have y2:=ξ y x2;clear x0 x1 x2 hok;cases b
   all_goals
    go_wp2;go_ret;exact ⟨aJ (by rw [ha.out]; first | (simp; done) | (rw [Bool.eq_iff_iff]; simp; omega)),B'⟩
theorem qf (a:A) (c0 c1:Value) (bs:List Nat) (w:World) (h:aG w [c0,c1] a bs):
  Calls Tryz.prog 146 #[.agg #[c0,c1]] w fun e w'=>e=.returned (.bool (dX a))∧Below w.heap.size w w':=by
 have U:=dm h;obtain ⟨Ad,cap,rfl,rfl⟩:=aY h;obtain ⟨_,_,hv,hl,hm⟩:=ak U;have a1:=aA (τ hl hm);have k1:=fun w' (hb:Below w.heap.size w w')=>qW a _ _ bs w' (aj.below h hb)
 have hf:dX a=(aX a && !jY a.args):=rfl;have HF:=η hf;clear h hv hl hm hf;have J:=(Below.refl w.heap.size w).alloc ν (.cells #[.string a.name,.slice Ad a.args.length cap] 33)
 go_enter Tryz.func146,Tryz.ntmps146
 go_wp2
 go_loopw [3] (fun i wr=>∃ k:Nat,k≤a.args.length∧i=.int .i64 k∧jY (a.args.take k)=false∧wr=w.alloc (.cells #[.string a.name,.slice Ad a.args.length cap] 33)) (fun i _=>a.args.length - (intOf i).toNat)
 case atStart=>exact ⟨0,ε,rfl,rfl,rfl⟩
 case round=>
  obtain ⟨k,hk,rfl,y,rfl⟩:=hrel;have HA:=η y;clear y;by_cases I:k < a.args.length
  ·obtain ⟨b,o,rfl,_,d0,d1,_⟩:=dY (aN.below U (ϑ.alloc ν (.cells #[.string a.name,.slice Ad a.args.length cap] 33))) I
   clear U;cases hv:a.args[k].var
   ·have HV:=η hv
    rw [hv] at d0;clear hv;go_wp2;go_roundw
    case rel=>exact ⟨k+1,by omega,by go_num,by rw [yK a.args k I,HA.out,HV.out]; rfl,(by simp)⟩
    case measure=>simp [intOf]; omega
   ·have HV:=η (AB a.args k I hv)
    rw [hv] at d0;clear hv;go_wp2;go_ret;exact ⟨aJ (by rw [HF.out,HV.out]; simp),J⟩
  ·have he:=η (show k=a.args.length by omega)
   go_wp2_with fail
   refine (k1 _ J).mono ?_;rintro e w' ⟨rfl,a0⟩;go_wp2;go_ret;exact ⟨aJ (by have:=HA.out; rw [he.out,ϕ ν] at this; rw [HF.out,this]; simp),J.trans (a0.mono J.size)⟩
end Go.Proofs.YtkjinanbccloeaaGreatDoor
