/- Of the proof of FnExactProofOk: ArgsI, SizI, MapT, MapR, SortI, BdP. -/
import Derived.Test.YtlmngncogomgeaaGreatDoorM13
import Derived.Test.YtlmngncogomgeaaGreatDoorM15
set_option linter.unusedVariables false
set_option maxHeartbeats 4000000
set_option maxRecDepth 100000
namespace Go.Proofs.YtlmngncogomgeaaGreatDoor
section
open Go.RowKit D
attribute [local go_sem ↓] Go.wp_at_zero Go.wp_at_succ
structure D.yM (w:World) (B n:Nat) (st:List ByteArray × (ByteArray→Int) × Bool) (wr:World):Prop where
 map:gQ B n st.1 st.2.1 wr
 bm:wr.heap[B+1]? = some (.cells #[.map (some B)] 112 (0,0))
 bb:wr.heap[B+2]? = some (.cells #[.bool st.2.2] 4 (0,0))
 bel:Below B w wr
theorem D.yM.later {w wr w':World} {B n:Nat} {st:List ByteArray × (ByteArray→Int) × Bool} (h:yM w B n st wr) (y:Below wr.heap.size wr w'):yM w B n st w':=
 ⟨h.map.below y h.map.lt,(y.block _ (ψ h.bm)).trans h.bm,(y.block _ (ψ h.bb)).trans h.bb,h.bel.trans (y.mono (Nat.le_of_lt (Nat.lt_of_le_of_lt (Nat.le_add_right _ _) (ψ h.bm))))⟩
theorem note_any (a:A) (c0 c1:Value) (bs:List Nat) (w0 w:World) (B n:Nat) (st:List ByteArray × (ByteArray→Int) × Bool) (h:aP w [c0,c1] a bs) (U:yM w0 B n st w) (hB:w0.heap.size≤B)
  (hn:n+1≤1000000) (ha:a.args.length≤1000000) (hr:∀ s ∈ st.1,0≤st.2.1 s∧st.2.1 s≤1000000):
  Calls Tryz.prog 236 #[.agg #[c0,c1],.pointer (some ⟨B+1,0,none⟩),.pointer (some ⟨B+2,0,none⟩)] w fun e w'=>e=.returned (.tuple #[])∧yM w0 B (n+1) (jS st a) w'∧∀ c,c < w.heap.size→c ≠ B→c ≠ B+2→w'.heap[c]? = w.heap[c]?:=by
 obtain ⟨s,a2,a3,ht⟩:=h;simp only [List.cons.injEq,and_true] at a2;obtain ⟨rfl,rfl⟩:=a2;obtain ⟨Ad,cap,rfl,hl,hm⟩:=ai ht;have a6:=ay (τ hl hm);obtain ⟨nm,args⟩:=a;obtain ⟨L,f,al⟩:=st;dsimp only at *;have a7:=ψ U.bm;have a8:=ψ U.bb;have cM:w.cell? ⟨B+1,0,none⟩=some (.map (some B)):=cell_of_one U.bm;have cB:w.cell? ⟨B+2,0,none⟩=some (.bool al):=cell_of_one U.bb;have fB:w.frozen? ⟨B+2,0,none⟩=false:=free_of_one U.bb;have hM:=U.map;have HI:=η U;have y:=η a3;have hA:Below w.heap.size w (w.alloc (.cells #[.string nm,.slice Ad args.length cap] 40)):=ζ;have I:=η (hM.below hA hM.lt);have a4:=η (U.later hA);have HR:=η hr;clear hl hm ht U hA hM hr
 have put:∀ w1,gQ B (n+1) (fO L nm) (fun t=>if t=nm then (args.length:Int) else f t) w1→(w.alloc (.cells #[.string nm,.slice Ad args.length cap] 40)).grownBy w1 (some B)→¬ (nm ∈ L∧f nm ≠ args.length)→yM w0 B (n+1) (jS (L,f,al) ⟨nm,args⟩) w1∧∀ c,c < w.heap.size→c ≠ B→c ≠ B+2→w1.heap[c]? = w.heap[c]?:=fun w1 h1 h2 h3=>by
  have e:jS (L,f,al) ⟨nm,args⟩=(fO L nm,fun t=>if t=nm then (args.length:Int) else f t,al):=by unfold jS; rw [if_neg h3]
  have hi:=a4.out;rw [e];refine ⟨?_,fun c hc h4 h5=>(h2.block c (by simp; omega) (by simpa using h4)).trans (Below.heap_alloc _ _ _ hc)⟩;exact ⟨h1,(h2.block _ (ψ hi.bm) (by simp)).trans hi.bm,(h2.block _ (ψ hi.bb) (by simp)).trans hi.bb,hi.bel.grown h2 (by have:=ψ hi.bm; omega) fun j hj=>by cases hj; exact ν⟩
 have HP:=η put;clear put;by_cases J:nm ∈ L
 ·have hd:decide (nm ∈ L)=true:=decide_eq_true J
  have hv:(if nm ∈ L then f nm else 0)=f nm:=if_pos J;have a5:=HR.out nm J;by_cases hE:f nm=args.length
  ·have HN:Hid (¬ (nm ∈ L∧f nm ≠ args.length)):=η fun h=>h.2 hE
   have HD:=η hd;have HV:Hid ((if nm ∈ L then f nm else 0)=(args.length:Int)):=η (hv.trans hE);clear J hd hv a5 hE HR
   go_enter Tryz.func236,Tryz.ntmps236
   go_wp2_with (first | (at_lookup; refine dA _ rfl _ _ _ rfl Tryz.underlying112 B n L f rfl I.out nm rfl y.out true HD.out _ HV.out ?_) | (at_mapUpdate; refine jT _ rfl _ _ _ _ rfl Tryz.underlying112 B n L f rfl I.out nm rfl y.out _ rfl (by unfold maxLen; omega) (by omega) ?_; intro w1 a0 a1) | go_in)
   go_end0
   exact ⟨rfl,HP.out w1 a0 a1 HN.out⟩
  ·have HN:Hid (jS (L,f,al) ⟨nm,args⟩=(L,f,false)):=η (by unfold jS; rw [if_pos ⟨J,hE⟩])
   have HD:=η hd;have HV:=η hv
   have HS:Hid (yM w0 B (n+1) (L,f,false) ((w.setCell ⟨B+2,0,none⟩ (.bool false)).alloc (.cells #[.string nm,.slice Ad args.length cap] 40))):=η (by
    have hi:=HI.out
    have h1:yM w0 B (n+1) (L,f,false) (w.setCell ⟨B+2,0,none⟩ (.bool false)):=
     ⟨(hi.map.mono (Nat.le_succ n)).setCell (by simp) _,(π _ _ _ _ (by simp)).trans hi.bm,one_setCell hi.bb,hi.bel.setCell (by simp) _⟩
    exact h1.later (ζ))
   clear J hd hv HR HP
   go_enter Tryz.func236,Tryz.ntmps236
   go_wp2_with (first | (at_lookup; refine dA _ rfl _ _ _ rfl Tryz.underlying112 B n L f rfl I.out nm rfl y.out true HD.out _ HV.out ?_) | go_in)
   refine bodyPost_ret (results_none rfl _ _ _) rfl ?_;exact ⟨rfl,by rw [HN.out]; exact HS.out,fun c hc h4 h5=>(Below.heap_alloc _ _ _ (by simpa using hc)).trans (π _ _ _ _ h5)⟩
 ·have HD:Hid (decide (nm ∈ L)=false):=η (decide_eq_false J)
  have HV:Hid ((if nm ∈ L then f nm else 0)=0):=η (if_neg J);have HN:Hid (¬ (nm ∈ L∧f nm ≠ args.length)):=η fun h=>J h.1
  clear J HR
  go_enter Tryz.func236,Tryz.ntmps236
  go_wp2_with (first | (at_lookup; refine dA _ rfl _ _ _ rfl Tryz.underlying112 B n L f rfl I.out nm rfl y.out false HD.out _ HV.out ?_) | (at_mapUpdate; refine jT _ rfl _ _ _ _ rfl Tryz.underlying112 B n L f rfl I.out nm rfl y.out _ rfl (by unfold maxLen; omega) (by omega) ?_; intro w1 a0 a1) | go_in)
  go_end0
  exact ⟨rfl,HP.out w1 a0 a1 HN.out⟩
theorem D.zJ {rs:List Ru} (hok:rs.all dS=true) (hf:rs.length≤8) {xs:List A} (y:∀ a ∈ xs,a ∈ aH rs):∀ s ∈ (dH xs).1,0≤(dH xs).2.1 s∧(dH xs).2.1 s≤1000000:=fun s I=>by
 have:=Ip (m:=3) (fun a ha=>(kJ hok).1 a (y a ha)) I;omega
theorem D.tH {rs:List Ru} (k:Nat):∀ a ∈ aH (rs.take k),a ∈ aH rs:=fun a ha=>by
 obtain ⟨r,hr,h⟩:=wU ha;exact List.mem_flatMap.2 ⟨r,List.mem_of_mem_take hr,h⟩
theorem D.Jd {rs:List Ru} {k:Nat} (h:k < rs.length):∀ a ∈ jh rs[k],a ∈ aH rs:=fun a ha=>List.mem_flatMap.2 ⟨_,δ h,ha⟩
theorem CS (rs:List Ru) (v:Value) (bs:List Nat) (w:World) (h:dD w [v] rs bs) (hok:rs.all dS=true) (hf:rs.length≤8):
  Calls Tryz.prog 205 #[v] w fun e w'=>e=.returned (.tuple #[.map (some w.heap.size),.bool (jC (aH rs))])∧
   ∃ n,gQ w.heap.size n (dH (aH rs)).1 (dH (aH rs)).2.1 w'∧Below w.heap.size w w':=by
 obtain ⟨Ad,cap,rfl,hl,hm⟩:=ai h;have b7:=ay (τ hl hm);have ar:=@run_makeMap Tryz.prog
 have a4:Hid (yM w w.heap.size 0 (dH []) (((w.alloc (.map #[] 0)).alloc (.cells #[.map (some w.heap.size)] 112)).alloc (.cells #[.bool true] 4))):=η (by
  refine ⟨((gQ.made w _).same ?_),?_,?_,((((Below.refl _ w).alloc ν _).alloc (by simp) _).alloc (by simp; omega) _)⟩
  ·exact (Below.heap_alloc _ _ _ (by simp; omega)).trans (Below.heap_alloc _ _ _ (by simp))
  ·refine (Below.heap_alloc _ _ _ (by simp)).trans ?_
   simpa using ω (w.alloc (.map #[] 0)) (.cells #[.map (some w.heap.size)] 112)
  ·simpa [dH] using ω ((w.alloc (.map #[] 0)).alloc (.cells #[.map (some w.heap.size)] 112)) (.cells #[.bool true] 4))
 have a5:=η (fun xs hx=>zJ hok hf (xs:=xs) hx);have av:=η hok;have b8:Hid ((aH rs).length≤40):=η (by have:=(kJ hok).2; omega)
 have a6:Hid (∀ k,(aH (rs.take k)).length≤40):=η fun k=>by
  have:=(kJ (rs:=rs.take k) (ό.2 fun r hr=>ό.1 hok r (List.mem_of_mem_take hr))).2;rw [List.length_take] at this; omega
 clear hl hm hok hf
 go_enter Tryz.func205,Tryz.ntmps205
 go_wp2;generalize (((w.alloc (.map #[] 0)).alloc (.cells #[.map (some w.heap.size)] 112)).alloc (.cells #[.bool true] 4))=w0 at *
 go_loopw [15] (fun i wr=>∃ k:Nat,k≤rs.length∧i=.int .i64 k∧yM w w.heap.size (aH (rs.take k)).length (dH (aH (rs.take k))) wr) (fun i _=>rs.length - (intOf i).toNat)
 case atStart=>exact ⟨0,ε,rfl,a4.out⟩
 case round=>
  obtain ⟨k,hk,rfl,I⟩:=hrel;clear a4 ar;by_cases y:k < rs.length
  ·obtain ⟨b,o,Ae,ce,Af,cf,bk,rfl,_,d0,d1,d2,J,_⟩:=eF h y
   replace d0:=ξ I.bel d0;replace d1:=ξ I.bel d1;replace d2:=ξ I.bel d2;have b9:(0:Int)≤(k:Int):=by omega
   have aw:(k:Int) < (rs.length:Int):=by omega
   have hA:Below wr.heap.size wr (wr.alloc (.cells #[.string rs[k].head.name,.slice Ae rs[k].head.args.length ce,.slice Af rs[k].body.length cf] 77)):=ζ;obtain ⟨b1,b2,_,a7,a8⟩:=dX J;have az:=η a8;have a9:=η (ak.below (ak.below a7 I.bel) hA);have aa:=η y;have aD:=η (oC rs k y);have U:=jX (ό.1 av.out _ (δ y));have bc:(rs[k].body.length:Int)≤4:=by have:=U.1; omega
   have ab:=η (Jd y);have a0:rs[k].head.args.length≤1000000:=by have:=U.2.2 rs[k].head Γ; omega
   have aE:=η U.2.2;have ac:=η (I.later hA);clear h J hA a7 a8 U;generalize rs[k]=r at *;clear y;obtain ⟨⟨nm,args⟩,body⟩:=r;dsimp only at *
   go_wp2_with fail
   have q2:(wr.alloc (.cells #[.string nm,.slice Ae args.length ce,.slice Af body.length cf] 77)).cell? ⟨wr.heap.size,2,none⟩=some (.slice Af body.length cf):=by go_simp
   have q3:w.heap.size+2 < wr.heap.size:=ψ I.bb;clear I;generalize wr.alloc (.cells #[.string nm,.slice Ae args.length ce,.slice Af body.length cf] 77)=w1 at *;refine (note_any ⟨nm,args⟩ _ _ b1 w w1 w.heap.size _ _ a9.out ac.out ν (by have:=a6.out k; omega) a0 (a5.out _ (tH k))).mono ?_;rintro e w2 ⟨rfl,a1,ae⟩;rw [← vC] at a1;have hlen:(aH (rs.take k) ++ [(⟨nm,args⟩:A)]).length=(aH (rs.take k)).length+1:=by simp
   rw [← hlen] at a1
   have a2:∀ a ∈ aH (rs.take k) ++ [(⟨nm,args⟩:A)],a ∈ aH rs:=fun a ha=>by
    rcases μ.1 ha with ha | ha
    ·exact tH k a ha
    ·rw [ώ.1 ha]; exact ab.out _ Γ
   have e2:w2.cell? ⟨wr.heap.size,2,none⟩=some (.slice Af body.length cf):=by
    rw [World.cell?_of_block (w:=w1) (ae _ (lt_of_cell q2) (by dsimp only; omega) (by dsimp only; omega))]; exact q2
   have aL:=η a2;have af:=η a1;have HX:Hid ((aH (rs.take k) ++ [(⟨nm,args⟩:A)]).length≤41):=η (by rw [hlen]; have:=a6.out k; omega);clear a2 a1 ae hlen a9 q2 q3;generalize aH (rs.take k) ++ [(⟨nm,args⟩:A)]=xs at *;go_wp2
   go_loopw [26] (fun i wr=>∃ j:Nat,j≤body.length∧i=.int .i64 j∧yM w w.heap.size (xs ++ eu (body.take j)).length (dH (xs ++ eu (body.take j))) wr) (fun i _=>body.length - (intOf i).toNat)
   case atStart=>exact ⟨0,ε,rfl,by simpa [eu] using af.out⟩
   case round=>
    obtain ⟨j,hj,rfl,I⟩:=hrel;clear af ac;by_cases y:j < body.length
    ·obtain ⟨b0,o0,Ag,cg,bg,rfl,_,f0,f1,f2,J,_⟩:=eU az.out y
     replace f0:=ξ I.bel f0;replace f1:=ξ I.bel f1;replace f2:=ξ I.bel f2;have bf:(0:Int)≤(j:Int):=by omega
     have aM:(j:Int) < (body.length:Int):=by omega
     have aR:=η (qX body j y);have ag:=η y;have am:body[j].atom ∈ jh ⟨⟨nm,args⟩,body⟩:=Δ _ (List.mem_map.2 ⟨_,δ y,rfl⟩);have b3:body[j].atom.args.length≤1000000:=by have:=aE.out _ am; omega
     have hA:Below wr.heap.size wr (wr.alloc (.cells #[.bool body[j].no,.string body[j].atom.name,.slice Ag body[j].atom.args.length cg] 209)):=ζ;have ao:=η (ak.below (ak.below (eX J) I.bel) hA);have ap:=η (I.later hA);have b4:Hid ((xs ++ eu (body.take j)).length+1≤1000000):=η (by rw [χ,kZ,List.length_take]; have:=HX.out; omega)
     have b5:Hid (∀ a ∈ xs ++ eu (body.take j),a ∈ aH rs):=η fun a ha=>by
      rcases μ.1 ha with ha | ha
      ·exact aL.out a ha
      ·refine ab.out _ (Δ _ ?_)
       unfold eu at ha;obtain ⟨p,hp,rfl⟩:=List.mem_map.1 ha;exact List.mem_map.2 ⟨p,List.mem_of_mem_take hp,rfl⟩
     clear J hA I am;generalize body[j]=p at *;clear y;obtain ⟨no,⟨pn,a3⟩⟩:=p;dsimp only at *
     go_wp2_with fail
     refine (note_any ⟨pn,a3⟩ _ _ bg w _ w.heap.size _ _ ao.out ap.out ν b4.out b3 (a5.out _ b5.out)).mono ?_;rintro e w3 ⟨rfl,aq,_⟩
     have b6:Hid (yM w w.heap.size (xs ++ eu (body.take (j+1))).length (dH (xs ++ eu (body.take (j+1)))) w3):=η (by
      rw [aR.out,← List.append_assoc,vC,χ]
      exact aq)
     clear aq ap ao;go_wp2;go_roundw
     case rel=>exact ⟨j+1,ag.out,by go_num,b6.out⟩
     case measure=>have:=ag.out; simp [intOf]; omega
    ·have he:j=body.length:=by omega
     have aM:¬ (j:Int) < (body.length:Int):=by omega
     have HE:Hid (yM w w.heap.size (aH (rs.take (k+1))).length (dH (aH (rs.take (k+1)))) wr):=η (by
      rw [aD.out];subst he;rw [ϕ ν] at I
      exact I)
     clear I he;go_wp2;go_roundw
     case rel=>exact ⟨k+1,aa.out,by go_num,HE.out⟩
     case measure=>have:=aa.out; simp [intOf]; omega
  ·have he:k=rs.length:=by omega
   have aw:¬ (k:Int) < (rs.length:Int):=by omega
   subst he;rw [ϕ ν] at I;have cM:=cell_of_one I.bm;have cB:wr.cell? ⟨w.heap.size+1+1,0,none⟩=_:=cell_of_one I.bb;have a0:=zA (aH rs);rw [a0] at cB;have HZ:Hid (∃ n,gQ w.heap.size n (dH (aH rs)).1 (dH (aH rs)).2.1 wr∧Below w.heap.size w wr):=η ⟨_,I.map,I.bel⟩;clear I h a0;go_wp2
   go_quiet (fail)
   go_wp2;go_ret2;obtain ⟨n,h1,h2⟩:=HZ.out;exact ⟨rfl,n,h1.same rfl,⟨h2.os,h2.tape,h2.output,h2.size,h2.block⟩⟩
end
section
open Go.RowKit Go.ChangeMaps D
attribute [local go_sem ↓] Go.wp_at_zero Go.wp_at_succ
def D.upTo (y n:Int):Int:=if n≤y then n else y+1
theorem D.Wk.start {J:List Nat} {w:World} (y:∀ b ∈ J,b < w.heap.size) (I:WP J w):
  Wk J w.heap.size (w.heap.size+1) [] ((w.alloc (.map #[] 0)).alloc (.cells #[.slice none 0 0,.map (some w.heap.size)] 164))∧Below w.heap.size w ((w.alloc (.map #[] 0)).alloc (.cells #[.slice none 0 0,.map (some w.heap.size)] 164)):=by
 have hB:Below w.heap.size w ((w.alloc (.map #[] 0)).alloc (.cells #[.slice none 0 0,.map (some w.heap.size)] 164)):=((Below.refl _ w).alloc ν _).alloc (by simp) _;refine ⟨⟨⟨.slice none 0 0,w.heap.size,?_,World.ownsRow_nil _ _ _ _,?_,ν⟩,by omega,Way.nil _ _,y,fun b U=>by rw [hB.block b (y b U)]; exact I b U⟩,hB⟩
 ·simpa using ω (w.alloc (.map #[] 0)) (.cells #[.slice none 0 0,.map (some w.heap.size)] 164)
 ·exact (gq.made w).same (Below.heap_alloc _ _ _ (by simp))
theorem size_any (I:List Nat) (a:Addr) (p:Pf) (y:Int) (w:World) (ha:AtP I w a p) (J:∀ b ∈ I,b < w.heap.size) (a0:WP I w) (hm:1≤y) (aD:y < 9223372036854775807) (hs:aK p≤16777216):
  Calls Tryz.prog 58 #[.pointer (some a),.int .i64 y] w fun e w'=>e=.returned (.int .i64 (upTo y (aK p)))∧Below w.heap.size w w':=by
 have H0:=η (Wk.start J a0);have HA:=η (ha.keep fun b hb=>H0.out.2.block b (J b hb));have HS:=η hs;have ao:=@run_makeMap Tryz.prog;have aE:=fun (x:Option Addr) (w:World)=>run_neq_pointer_nil (P:=Tryz.prog) w 82 x (by kernel_rfl)
 clear ha J a0
 go_enter Tryz.func58,Tryz.ntmps58
 go_wp2_with fail
 generalize ((w.alloc (.map #[] 0)).alloc (.cells #[.slice none 0 0,.map (some w.heap.size)] 164))=w0 at *;clear ao
 go_loopw [6,7] (fun c at_ wr=>∃ (k:Nat) (st:List Fr),c=.int .i64 k∧(k:Int)≤y∧Below w.heap.size w wr∧((at_=.pointer none∧k=aK p) ∨
  ∃ a' q,at_=.pointer (some a')∧Wk I w.heap.size (w.heap.size+1) st wr∧AtP I wr a' q∧(∀ f ∈ st,aK q < aK f.pf)∧k+aK q+jR st=aK p∧st.length≤k)) (fun c _ _=>aK p - (intOf c).toNat)
 case atStart=>exact ⟨0,[],rfl,by omega,H0.out.2,.inr ⟨a,p,rfl,H0.out.1,HA.out,fun f hf=>by simp at hf,by simp [jR,dh],ε⟩⟩
 case round=>
  clear H0 HA;obtain ⟨k,st,rfl,ap,hb,h⟩:=hrel
  rcases h with ⟨rfl,hk⟩ | ⟨a',q,rfl,hw,ha,hd,a1,a3⟩
  ·go_wp2
   go_ret;refine ⟨?_,hb⟩;rw [← hk];unfold upTo;rw [if_pos ap];rfl
  ·obtain ⟨v,mb,h1,h2,h3,h4⟩:=hw.ex
   have c1:wr.cell? ⟨w.heap.size+1,1,none⟩=some (.map (some mb)):=by simp [World.cell?,h1]
   have HM:=η h3;have a4:=η (hw.way.miss ha hd);have a5:Hid (SP I (.pointer (some a'))):=η ⟨a',rfl,ha.block⟩;have a6:=η hw.VI;have hlen:st.length≤16777216:=by have:=HS.out; omega
   have q1:=Oz I w.heap.size (w.heap.size+1) st a' q wr hw ha hd hlen;have HB:=η hb;have aL:=uX q;have aM:aK q+k≤aK p:=by omega
   have HC:=η a1;have a7:=η a3;have HK:Hid (k+1≤16777216):=η (by omega);have aR:(k:Int)≤16777216:=by omega
   clear h1 h2 h3 hw ha hd a1 a3 hb;by_cases aq:(k:Int)+1≤y
   ·have ar:¬ y < (k:Int)+1:=by omega
    go_wp2_with (first
     | (at_lookup; refine kU (IE I) a6.out false rfl _ _ _ _ rfl Tryz.underlying161 mb _ rfl HM.out (.pointer (some a')) (.int .i64 0) (FY _) rfl a5.out a4.out ?_)
     | fail)
    refine q1.mono ?_;rintro e w1 ⟨rfl,a8,a9⟩;clear q1;have q2:=next_any I w.heap.size (w.heap.size+1) _ w1 a8 (by have:=a7.out; have:=HK.out; simp; omega);have av:=η (HB.out.trans a9);have aa:Hid (jR (st ++ [⟨a',q,0⟩])+1=jR st+aK q):=η LM;clear a8 a9
    go_wp2_with fail
    refine q2.mono ?_;rintro e w2 ⟨ab,h⟩;clear q2;have ac:=η (av.out.trans ab);clear ab
    rcases h with ⟨rfl,aw⟩ | ⟨U,a2,q2,rfl,ae,af,ag,am,az⟩
    ·have HN:Hid (k+1=aK p):=η (by have:=HC.out; have:=aa.out; omega)
     clear aw;go_wp2;go_roundw
     case rel=>exact ⟨k+1,[],by go_num,by omega,ac.out,.inl ⟨rfl,HN.out⟩⟩
     case measure=>have:=HN.out; simp [intOf]; omega
    ·have HZ:Hid (Wk I w.heap.size (w.heap.size+1) U w2∧AtP I w2 a2 q2∧(∀ f ∈ U,aK q2 < aK f.pf)∧k+1+aK q2+jR U=aK p∧U.length≤k+1):=η ⟨ae,af,ag,by have:=HC.out; have:=aa.out; omega,by have:=a7.out; simp at am; omega⟩
     clear ae af ag am az;go_wp2;go_roundw
     case rel=>exact ⟨k+1,U,by go_num,by omega,ac.out,.inr ⟨a2,q2,rfl,HZ.out⟩⟩
     case measure=>simp [intOf]; omega
   ·have ar:y < (k:Int)+1:=by omega
    have HE:Hid (upTo y (aK p)=(k:Int)+1):=η (by
     unfold upTo;rw [if_neg (by omega)]
     omega)
    clear q1
    go_wp2_with (first
     | (at_lookup; refine kU (IE I) a6.out false rfl _ _ _ _ rfl Tryz.underlying161 mb _ rfl HM.out (.pointer (some a')) (.int .i64 0) (FY _) rfl a5.out a4.out ?_)
     | fail)
    go_ret;exact ⟨by rw [HE.out]; rfl,HB.out⟩
end
section
open Go.RowKit Go.ChangeMaps Go.MapKept D
def D.Ew (b:Nat) (w:World):Prop:=∃ es y,w.heap[b]? = some (.map es y)∧(∀ x ∈ es.toList,x.born < y)∧(es.toList.map (·.born)).Nodup
theorem D.Ew.push {b J:Nat} {es:Array MapEntry} {w:World} (U:w.heap[b]? = some (.map es J)) (k v:Value) (h:Ew b w):Ew b (setBlock w b (.map (es.push ⟨k,v,J⟩) (J+1))):=by
 obtain ⟨a0,a1,h1,h2,h3⟩:=h;rw [U] at h1;cases h1;refine ⟨_,_,heap_setBlock_same U _,fun x I=>?_,?_⟩
 ·rw [Array.toList_push] at I
  rcases μ.1 I with I | I
  ·exact Nat.lt_succ_of_lt (h2 x I)
  ·rw [ώ.1 I]; exact Nat.lt_succ_self _
 ·rw [Array.toList_push,List.map_append]
  refine List.nodup_append.2 ⟨h3,by simp,fun x I y hy e=>?_⟩;obtain ⟨z,hz,rfl⟩:=List.mem_map.1 I;simp at hy;have:=h2 z hz;omega
theorem xA {P:Program} {kt:TypeId} {W:World→Prop} {S:Value→Prop} (hK:wJ P kt W S) {w:World} (hW:W w) {t e:TypeId} (ht:P.underlying t=some (.map kt e)) {b:Nat} {L:List (Value × Value)} {k:Value} (v:Value) (h:gq S b L w) (J:S k) (hk:∀ p ∈ L,p.1 ≠ k):
  ∃ w',(Instr.mapUpdate t (.map (some b)) k v).run P w=.ok () w'∧gq S b (L ++ [(k,v)]) w'∧w.grownBy w' (some b)∧(Ew b w→Ew b w'):=by
 obtain ⟨⟨es,ck,I,rfl⟩,h2,h3⟩:=h;have U:∀ e ∈ es.toList,S e.key:=fun e he=>h2 (e.key,e.val) (List.mem_map.2 ⟨e,he,rfl⟩)
 rcases iZ hK hW J es.toList U with ⟨h5,h6⟩ | ⟨i,e1,h5,h6,h7⟩
 ·refine ⟨setBlock w b (.map (es.push ⟨k,v,ck⟩) (ck+1)),?_,⟨⟨_,_,heap_setBlock_same I _,by simp⟩,?_,?_⟩,gZ I _,Ew.push I k v⟩
  ·simp [Instr.mapUpdate,run_underlying ht,MapKept.run_getObj_map I,hK.check w false J,h5,MapKept.run_setObj_map _ I,Result.andThen,setBlock]
  ·intro p y
   rcases μ.1 y with y | y
   ·exact h2 p y
   ·rw [ώ.1 y]
    exact J
  ·refine List.pairwise_append.2 ⟨h3,List.pairwise_singleton _ _,fun p y q hq=>?_⟩
   rw [ώ.1 hq];exact hk p y
 ·exact absurd h7 (hk (e1.key,e1.val) (List.mem_map.2 ⟨e1,List.mem_of_getElem? h6,rfl⟩))
end
section
open Go.RowKit Go.Maps D
theorem D.gQ.Je {b n:Nat} {L:List ByteArray} {f:ByteArray→Int} {w:World} (h:gQ b n L f w) {s:ByteArray} (J:s.size≤maxLen) {v:Int} (hv:(if s ∈ L then f s else 0)=v):
  (Instr.lookup 112 (.map (some b)) (.string s) false).run Tryz.prog w=.ok (.int .i64 v) w:=by
 obtain ⟨⟨M,h1,h2,U,h4⟩,h5,h6⟩:=h;obtain ⟨d,y,I,hw⟩:=h1.lookup_int LU Tryz.underlying112 Tryz.underlying3 (QY w) (sH J);rw [y]
 have:d=v:=by
  rw [← hv]
  split
  ·rename_i hmem
   have:=h4 s hmem;rw [this] at I;exact yK I.symm
  ·rename_i hmem
   have h7:has M (zU s)=false:=by rw [U s]; simpa using hmem
   rw [atKey_of_not_has h7] at I;exact yK I.symm
 rw [this]
end
section
open Go.RowKit Go.Sort D
theorem Gg (xs:List ByteArray) (v:Value) (L:List Value) (base:Nat) (w:World) (hC:cu 1 jy base 9 w v L xs []) (hl:xs.length≤16777216):
  Calls Tryz.prog 196 #[v] w fun e w'=>∃ (v2:Value) (ys:List ByteArray),e=.returned v2∧ys.map (·.data.toList)=Lib.compact (xs.map (·.data.toList))∧cu 1 jy base 9 w' v2 (ys.map Value.string) ys []∧w.grownBy w' v.ownBlock:=by
 obtain ⟨rfl,hs,_⟩:=Em hC;have I:=hC.own
 rcases I.2 with ⟨rfl,hx⟩ | ⟨g,cap,a4,rfl,a1,hb,h1,h2,h3,h4⟩
 ·have a2:xs = []:=by simpa using hx
  subst a2;refine (Tryz.slices_Compact_string_empty none 0 w).mono ?_;rintro e w' ⟨rfl,rfl⟩;exact ⟨_,[],rfl,by simp [Lib.compact,Lib.compactUpTo],cu.nil _,World.grownBy.refl _ _⟩
 ·have J:(xs.map (·.data.toList)).length=xs.length:=by simp
  have hH:Holds encStr w g 0 (xs.map (·.data.toList)).toArray:=holds_of_block hb (by rw [J,Lib.map_encStr]; simpa using h4);have c:=Tryz.slices_Compact_string g 0 cap (xs.map (·.data.toList)) w hH (by omega) (by omega);rw [J] at c;refine c.mono ?_;rintro e w' ⟨rfl,q,rfl⟩;obtain ⟨zs,U⟩:∃ zs,Lib.compact (xs.map (·.data.toList))=zs:=⟨_,rfl⟩;have a3:zs.length≤xs.length:=by rw [← U,← J]; exact LG _
  rw [U];have y:=Lib.ownsRow_putRow (enc:=encStr) (zs:=xs.map (·.data.toList)) (ys:=zs ++ List.replicate (xs.length - zs.length) []) (q:=q) (k:=zs.length) (by rw [Lib.map_encStr]; exact I) (by simp; omega) a3;rw [List.take_append_of_le_length ν,ϕ ν] at y;have a0:(BV zs).length=zs.length:=by unfold BV; rw [List.length_map]
  rw [← IL,← a0] at y;refine ⟨_,BV zs,rfl,BX _,?_,?_⟩
  ·rw [← a0]
   exact wX y (En fun b hb=>Cb hs b ((zC _ _).1 (by rw [U]; exact hb)))
  ·have:=grownBy_sorted (w:=w) (g:=g) (n:=q) (os:=#[]) (zs ++ List.replicate (xs.length - zs.length) []).toArray
   rw [grow_empty] at this;exact this
end
section
open Go.RowKit D
def D.Ey (vars:List ByteArray) (b:Bd) (i:Nat):ByteArray:=if h:i < vars.length then iR b vars[i] else ⟨#[]⟩
structure D.fQ (vars:List ByteArray) (b:Bd) (blk o:Nat) (w:World):Prop where
 wd:∀ i,i < 12→w.cell? ⟨blk,o+i,none⟩=some (.string (Ey vars b i))
 bd:∀ i,i < 12→∃ z:Int,w.cell? ⟨blk,o+12+i,none⟩=some (.int .i64 z)∧∀ h:i < b.length,z=(vars.idxOf b[i].1:Nat)
 ct:w.cell? ⟨blk,o+24,none⟩=some (.int .i64 b.length)
 fz:∀ i,i < 25→w.frozen? ⟨blk,o+i,none⟩=false
structure D.iW (vars:List ByteArray) (b:Bd):Prop where
 inn:∀ p ∈ b,p.1 ∈ vars
 once:(b.map (·.1)).Nodup
 full:∀ p ∈ b,p.2 ≠ ⟨#[]⟩
 size:∀ p ∈ b,p.2.size≤maxLen
structure D.ji (vars:List ByteArray):Prop where
 few:vars.length≤12
 once:vars.Nodup
theorem D.yN {b:Bd} {n:ByteArray}:eY b n=none ↔ ∀ p ∈ b,p.1 ≠ n:=by
 induction b with
 | nil=>simp [eY]
 | cons p b ih=>
  rw [eY]
  split
  ·rename_i h; simp [h]
  ·rename_i h; simp [h,ih]
theorem D.xB {b:Bd} {n v:ByteArray} (h:eY b n=some v):(n,v) ∈ b:=by
 induction b with
 | nil=>simp [eY] at h
 | cons p b ih=>
  rw [eY] at h
  split at h
  ·rename_i e
   cases h;subst e;exact Γ
  ·exact Δ _ (ih h)
theorem D.CU {b:Bd} {n v:ByteArray} (h:eY b n=none):eY (b ++ [(n,v)]) n=some v:=by rw [lD,h]; simp [eY]
theorem D.zW {b:Bd} {n m v:ByteArray} (h:n ≠ m):eY (b ++ [(n,v)]) m=eY b m:=by
 rw [lD];simp [eY,h]
theorem D.iW.oU {vars:List ByteArray} {b:Bd} (h:iW vars b) (n:ByteArray):iR b n=⟨#[]⟩ ↔ eY b n=none:=by
 unfold iR
 cases hg:eY b n with
 | none=>simp
 | some v=>simp [h.full _ (xB hg)]
theorem D.iW.len {vars:List ByteArray} {b:Bd} (h:iW vars b):b.length≤vars.length:=by
 have:(b.map (·.1)).length≤vars.length:=oM h.once fun x y=>by
  obtain ⟨p,I,rfl⟩:=List.mem_map.1 y;exact h.inn p I
 simpa using this
theorem D.iW.lt {vars:List ByteArray} {b:Bd} (h:iW vars b) {n:ByteArray} (U:n ∈ vars) (hg:eY b n=none):b.length < vars.length:=by
 have y:(n :: b.map (·.1)).Nodup:=List.nodup_cons.2 ⟨fun hm=>by
  obtain ⟨p,I,e⟩:=List.mem_map.1 hm
  exact yN.1 hg p I e,h.once⟩
 have:(n :: b.map (·.1)).length≤vars.length:=oM y fun x J=>by
  rcases ύ.1 J with rfl | J
  ·exact U
  ·obtain ⟨p,I,rfl⟩:=List.mem_map.1 J
   exact h.inn p I
 simp at this;omega
theorem D.iW.snoc {vars:List ByteArray} {b:Bd} (h:iW vars b) {n v:ByteArray} (U:n ∈ vars) (hg:eY b n=none) (hv:v ≠ ⟨#[]⟩) (hs:v.size≤maxLen):iW vars (b ++ [(n,v)]):=by
 refine ⟨fun p I=>?_,?_,fun p I=>?_,fun p I=>?_⟩
 ·rcases μ.1 I with I | I
  ·exact h.inn p I
  ·rw [ώ.1 I]; exact U
 ·rw [List.map_append]
  refine List.nodup_append.2 ⟨h.once,by simp,fun x hx y J e=>?_⟩;simp at J;obtain ⟨p,I,rfl⟩:=List.mem_map.1 hx;exact yN.1 hg p I (e.trans J)
 ·rcases μ.1 I with I | I
  ·exact h.full p I
  ·rw [ώ.1 I]; exact hv
 ·rcases μ.1 I with I | I
  ·exact h.size p I
  ·rw [ώ.1 I]; exact hs
theorem D.iW.init {vars:List ByteArray} {b:Bd} {p:ByteArray × ByteArray} (h:iW vars (b ++ [p])):iW vars b∧p.1 ∈ vars∧eY b p.1=none:=by
 have y:=h.once;rw [List.map_append] at y;obtain ⟨I,_,J⟩:=List.nodup_append.1 y;exact ⟨⟨fun q hq=>h.inn q (Ξ _ hq),I,fun q hq=>h.full q (Ξ _ hq),fun q hq=>h.size q (Ξ _ hq)⟩,h.inn p (by simp),yN.2 fun q hq e=>J q.1 (List.mem_map.2 ⟨q,hq,rfl⟩) p.1 (by simp) e⟩
theorem D.iW.nil (vars:List ByteArray):iW vars []:=⟨fun p h=>by simp at h,by simp,fun p h=>by simp at h,fun p h=>by simp at h⟩
theorem D.iW.OM {vars:List ByteArray} {b:Bd} (h:iW vars b) {t:T} (y:t.var=false→t.name.size≤maxLen):(dw b t).name.size≤maxLen:=by
 unfold dw;cases hv:t.var
 ·simpa using y hv
 ·simp only [if_true,iR]
  cases hg:eY b t.name with
  | none=>decide
  | some v=>exact h.size _ (xB hg)
theorem D.Jf {vars:List ByteArray} (hv:ji vars) {b:Bd} {n v:ByteArray} (I:n ∈ vars) (J:eY b n=none) (i:Nat):
  Ey vars (b ++ [(n,v)]) i=if i=vars.idxOf n then v else Ey vars b i:=by
 have hl:=List.idxOf_lt_length_of_mem I;unfold Ey;by_cases hi:i < vars.length
 ·rw [dif_pos hi,dif_pos hi]
  split
  ·rename_i e
   subst e;have:vars[vars.idxOf n]=n:=List.getElem_idxOf hi;unfold iR;rw [this,CU J]; rfl
  ·rename_i e
   have y:n ≠ vars[i]:=fun U=>e (by rw [U]; exact (List.Nodup.idxOf_getElem hv.once i hi).symm)
   unfold iR;rw [zW y]
 ·rw [dif_neg hi,dif_neg hi]
  split
  ·omega
  ·rfl
section
variable {vars:List ByteArray} {b:Bd} {blk o:Nat} {w:World}
theorem D.fQ.keep {w':World} (h:fQ vars b blk o w) (e:w'.heap[blk]? = w.heap[blk]?):fQ vars b blk o w':=
 ⟨fun i hi=>(World.cell?_of_block e).trans (h.wd i hi),fun i hi=>by obtain ⟨z,h1,y⟩:=h.bd i hi; exact ⟨z,(World.cell?_of_block e).trans h1,y⟩,(World.cell?_of_block e).trans h.ct,fun i hi=>(World.frozen?_of_block e).trans (h.fz i hi)⟩
theorem D.fQ.lt (h:fQ vars b blk o w):blk < w.heap.size:=lt_of_cell h.ct
theorem D.jH (w:World) (b o:Nat) (v:Value) {u:Value} (h:w.cell? ⟨b,o,none⟩=some u) (q:Nat):(w.setCell ⟨b,o,none⟩ v).cell? ⟨b,q,none⟩=if q=o then some v else w.cell? ⟨b,q,none⟩:=by
 split
 ·rename_i e; subst e; exact World.cell?_setCell_same _ _ _ h
 ·rename_i e; exact World.cell?_setCell_other _ _ _ _ (fun y=>e (by injection y with _ e3 _; exact e3.symm))
theorem D.fQ.bind (hv:ji vars) (h:fQ vars b blk o w) (hb:iW vars b) {n v:ByteArray} (U:n ∈ vars) (hg:eY b n=none):
  fQ vars (b ++ [(n,v)]) blk o (((w.setCell ⟨blk,o+vars.idxOf n,none⟩ (.string v)).setCell ⟨blk,o+12+b.length,none⟩ (.int .i64 (vars.idxOf n:Nat))).setCell ⟨blk,o+24,none⟩ (.int .i64 ((b ++ [(n,v)]).length:Nat))):=by
 have hl:=hb.lt U hg;have hf:=hv.few;have hi:=List.idxOf_lt_length_of_mem U;obtain ⟨z0,a0,_⟩:=h.bd b.length (by omega);have c1:=D.jH w blk (o+vars.idxOf n) (.string v) (h.wd _ (by omega));have c2:=D.jH (w.setCell ⟨blk,o+vars.idxOf n,none⟩ (.string v)) blk (o+12+b.length) (.int .i64 (vars.idxOf n:Nat)) (u:=.int .i64 z0) (by rw [c1,if_neg (by omega)]; exact a0)
 have c3:=D.jH ((w.setCell ⟨blk,o+vars.idxOf n,none⟩ (.string v)).setCell ⟨blk,o+12+b.length,none⟩ (.int .i64 (vars.idxOf n:Nat))) blk (o+24) (.int .i64 ((b ++ [(n,v)]).length:Nat)) (u:=.int .i64 b.length)
  (by rw [c2,if_neg (by omega),c1,if_neg (by omega)]; exact h.ct)
 refine ⟨fun i y=>?_,fun i y=>?_,?_,fun i y=>?_⟩
 ·rw [c3,if_neg (by omega),c2,if_neg (by omega),c1,Jf hv U hg]
  by_cases e:i=vars.idxOf n
  ·rw [if_pos (by omega),if_pos e]
  ·rw [if_neg (by omega),if_neg e]; exact h.wd i y
 ·rw [c3,if_neg (by omega),c2]
  by_cases e:i=b.length
  ·subst e
   rw [if_pos rfl];exact ⟨_,rfl,fun J=>by simp⟩
  ·rw [if_neg (by omega),c1,if_neg (by omega)]
   obtain ⟨z,h1,h2⟩:=h.bd i y;refine ⟨z,h1,fun J=>?_⟩;have I:i < b.length:=by simp at J; omega
   rw [h2 I,List.getElem_append_left I]
 ·rw [c3,if_pos rfl]
 ·simp only [World.frozen?_setCell]
  exact h.fz i y
theorem D.fQ.unbind (hv:ji vars) {n v:ByteArray} (h:fQ vars (b ++ [(n,v)]) blk o w) (hb:iW vars (b ++ [(n,v)])):
  fQ vars b blk o ((w.setCell ⟨blk,o+24,none⟩ (.int .i64 (b.length:Nat))).setCell ⟨blk,o+vars.idxOf n,none⟩ (.string ⟨#[]⟩)):=by
 obtain ⟨I,J,U⟩:=hb.init;have hf:=hv.few;have hi:=List.idxOf_lt_length_of_mem J;dsimp only at J U hi;have c1:=D.jH w blk (o+24) (.int .i64 (b.length:Nat)) h.ct;have c2:=D.jH (w.setCell ⟨blk,o+24,none⟩ (.int .i64 (b.length:Nat))) blk (o+vars.idxOf n) (.string ⟨#[]⟩) (by rw [c1,if_neg (by omega)]; exact h.wd _ (by omega));refine ⟨fun i y=>?_,fun i y=>?_,?_,fun i y=>?_⟩
 ·rw [c2]
  by_cases e:i=vars.idxOf n
  ·rw [if_pos (by omega)]
   subst e;unfold Ey;rw [dif_pos hi];have:vars[vars.idxOf n]=n:=List.getElem_idxOf hi;rw [this,(I.oU n).2 U]
  ·rw [if_neg (by omega),c1,if_neg (by omega),h.wd i y,Jf hv J U,if_neg e]
 ·rw [c2,if_neg (by omega),c1,if_neg (by omega)]
  obtain ⟨z,h1,h2⟩:=h.bd i y;refine ⟨z,h1,fun a0=>?_⟩;rw [h2 (by simp; omega),List.getElem_append_left a0]
 ·rw [c2,if_neg (by omega),c1,if_pos rfl]
 ·simp only [World.frozen?_setCell]
  exact h.fz i y
end
structure D.cO (blk o:Nat) (w w':World):Prop where
 grow:w.grownBy w' (some blk)
 rest:∀ q,(q < o∨o+25≤q)→w'.cell? ⟨blk,q,none⟩=w.cell? ⟨blk,q,none⟩
section
variable {blk o:Nat} {w w' w2:World}
theorem D.cO.refl (blk o:Nat) (w:World):cO blk o w w:=⟨⟨rfl,rfl,rfl,ν,fun _ _ _=>rfl⟩,fun _ _=>rfl⟩
theorem D.cO.trans (h:cO blk o w w') (k:cO blk o w' w2):cO blk o w w2:=
 ⟨⟨k.grow.os.trans h.grow.os,k.grow.tape.trans h.grow.tape,k.grow.output.trans h.grow.output,τ h.grow.size k.grow.size,fun i hi y=>(k.grow.block i (κ hi h.grow.size) y).trans (h.grow.block i hi y)⟩,
  fun q hq=>(k.rest q hq).trans (h.rest q hq)⟩
theorem D.cO.of_below (h:Below w.heap.size w w') (y:blk < w.heap.size):cO blk o w w':=
 ⟨⟨h.os,h.tape,h.output,h.size,fun i hi _=>h.block i hi⟩,fun q _=>World.cell?_of_block (h.block _ y)⟩
theorem D.cO.put (w:World) (i:Nat) (hi:i < 25) (v:Value):cO blk o w (w.setCell ⟨blk,o+i,none⟩ v):=
 ⟨⟨rfl,rfl,rfl,by simp [World.setCell],fun k _ y=>π _ _ _ _ (fun e=>y (by rw [e]))⟩,
  fun q hq=>World.cell?_setCell_other _ _ _ _ (fun e=>by injection e with _ e2 _; omega)⟩
theorem D.cO.keep {α:Type} {R:Rel α} (g:Good R) {cs:List Value} {x:α} {I:List Nat} (h:cO blk o w w') (hr:R w cs x I) (J:blk ∉ I):R w' cs x I:=
 g.keep hr fun b y=>h.grow.block b (g.lt hr b y) (fun e=>J (by injection e with e; rw [← e]; exact y))
theorem D.cO.block (h:cO blk o w w') {b:Nat} (I:b < w.heap.size) (y:b ≠ blk):w'.heap[b]? = w.heap[b]?:=h.grow.block b I (fun e=>y (by injection e))
end
theorem D.Jg {vars:List ByteArray} {b:Bd} (U:iW vars b) (t f:T) (I fs:List T) (hc:t.var=false→t.name ≠ ⟨#[]⟩):
  bZ (t :: I) (f :: fs) b=if (dw b t).name=⟨#[]⟩ then bZ I fs (b ++ [(t.name,f.name)]) else if (dw b t).name=f.name then bZ I fs b else (b,false):=by
 obtain ⟨tv,y⟩:=t;rw [bZ];unfold dw;cases tv
 ·simp only [Bool.false_eq_true,if_false]
  rw [if_neg (hc rfl)]
 ·simp only [if_true]
  cases hg:eY b y with
  | none=>
   have:iR b y=⟨#[]⟩:=(U.oU y).2 hg;rw [if_pos this]
  | some v=>
   have e:iR b y=v:=by unfold iR; rw [hg]; rfl
   have J:v ≠ ⟨#[]⟩:=U.full _ (xB hg);simp only [e];rw [if_neg J]
theorem D.Md {vars:List ByteArray} {b:Bd} (y:iW vars b) {t:T} (hc:t.var=false→t.name ≠ ⟨#[]⟩) (h:(dw b t).name=⟨#[]⟩):t.var=true∧eY b t.name=none:=by
 unfold dw at h;cases hv:t.var
 ·simp [hv] at h; exact absurd h (hc hv)
 ·simp [hv] at h; exact ⟨rfl,(y.oU _).1 h⟩
end
end Go.Proofs.YtlmngncogomgeaaGreatDoor
