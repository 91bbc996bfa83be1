/- Of the proof of FnExactProofOk: StPI. -/
import Derived.Test.YtlmngncogomgeaaGreatDoorM33
import Derived.Test.YtlmngncogomgeaaGreatDoorM30
set_option linter.unusedVariables false
set_option maxHeartbeats 4000000
set_option maxRecDepth 100000
namespace Go.Proofs.YtlmngncogomgeaaGreatDoor
open Go.RowKit D
attribute [local go_sem ↓] Go.wp_at_zero Go.wp_at_succ
theorem NG:(Tryz.prog.info? 40).map (fun i=>(i.zero,i.size,i.bytes))=some (some (.agg #[.string ⟨#[]⟩,.slice none 0 0]),2,40):=by kernel_rfl
theorem UG:(Tryz.prog.info? 3).map (fun i=>(i.zero,i.size,i.bytes))=some (some (.int .i64 0),1,8):=by kernel_rfl
theorem D.EJ:Bc 1 xk:=fun h=>by obtain ⟨rfl,_⟩:=h; simp [Value.oneCell']
def D.tq (G:WK→List Nat) (a:A) (i j:Nat):WK→List Nat:=fun k=>if k ∈ (keysOf a).take j then G k ++ [i] else G k
theorem D.MO {a:A} (h:aZ a=true):(a.args.length:Int)≤3:=by
 unfold aZ at h;simp only [ο,decide_eq_true_eq] at h;have:=h.1.2;omega
theorem D.MP (a:A):(keysOf a).Nodup:=by
 unfold keysOf;refine List.nodup_cons.2 ⟨fun h=>?_,?_⟩
 ·obtain ⟨i,hi,e⟩:=List.mem_mapIdx.1 h
  simp at e
 ·refine List.pairwise_iff_getElem.2 fun i j hi I y e=>?_
  simp at e;omega
theorem D.xR (a:A):(keysOf a).length=a.args.length+1:=by simp [keysOf]
theorem D.NH (a:A) (j:Nat) (h:j < a.args.length):(keysOf a)[j+1]'(by rw [xR]; omega)=⟨a.name,a.args.length,j,a.args[j].name⟩:=by simp [keysOf]
theorem D.JH (G:WK→List Nat) (a:A) (i j:Nat) (h:j < (keysOf a).length):tq G a i j (keysOf a)[j]=G (keysOf a)[j]:=by
 unfold tq;rw [if_neg];intro hm;obtain ⟨m,I,y⟩:=List.getElem_of_mem hm;simp at I y;exact List.pairwise_iff_getElem.1 (MP a) m j (by omega) h (by omega) y
theorem D.EK (G:WK→List Nat) (a:A) (i j:Nat) (h:j < (keysOf a).length):Dh (tq G a i j) (keysOf a)[j] i=tq G a i (j+1):=by
 funext k
 unfold Dh;by_cases e:k=(keysOf a)[j]
 ·rw [if_pos e,JH G a i j h,e]
  unfold tq;rw [if_pos (by rw [ρ h]; exact Ω _ (List.mem_singleton_self _))]
 ·rw [if_neg e]
  unfold tq
  have:k ∈ (keysOf a).take (j+1) ↔ k ∈ (keysOf a).take j:=by
   rw [ρ h,μ,ώ];exact ⟨fun g=>g.resolve_right e,.inl⟩
  simp only [this]
theorem D.Sv (G:WK→List Nat) (a:A) (i:Nat):Dh G ⟨a.name,a.args.length,-1,⟨#[]⟩⟩ i=tq G a i 1:=by
 have h:=EK G a i 0 (by rw [xR]; omega);have e:tq G a i 0=G:=by funext k; unfold tq; simp
 rw [e] at h;exact h
theorem D.SA (fs:List A) (a:A):tq (idxs fs) a fs.length (a.args.length+1)=idxs (fs ++ [a]):=by
 funext k
 unfold tq;rw [ϕ (by rw [xR]; omega),O1]
 split <;> simp
def D.BoxOk (bx:Nat) (fr:List Nat) (a:A) (Ae:Option Addr) (ce:Nat) (w0 w:World):Prop:=w.heap[bx]? = some (.cells #[.string a.name,.slice Ae a.args.length ce] 40 (0,0))∧(∃ ba,aP w [.string a.name,.slice Ae a.args.length ce] a ba∧∀ x ∈ ba,x ∈ fr)∧(∀ x ∈ fr,x < w.heap.size)∧∀ x ∈ fr,w.heap[x]? = w0.heap[x]?
theorem D.BoxOk.keep {bx:Nat} {fr:List Nat} {a:A} {Ae:Option Addr} {ce:Nat} {w0 w w':World} (h:BoxOk bx fr a Ae ce w0 w) (h1:w'.heap[bx]? = w.heap[bx]?) (I:∀ x ∈ fr,w'.heap[x]? = w.heap[x]?) (U:w.heap.size≤w'.heap.size):BoxOk bx fr a Ae ce w0 w':=by
 obtain ⟨g1,⟨ba,g2,J⟩,g4,g5⟩:=h;exact ⟨h1.trans g1,⟨ba,ak.keep g2 fun x y=>I x (J x y),J⟩,fun x y=>κ (g4 x y) U,fun x y=>(I x y).trans (g5 x y)⟩
def D.JI (B sb mu mp:Nat) (y I:Value) (J:List Nat) (bx:Nat) (fr:List Nat):Prop:=Free B sb mu mp y I J bx∧∀ x ∈ fr,Free B sb mu mp y I J x
def D.jq (B sb mu mp nf nr:Nat) (fs:List A) (bf:List Nat) (rn:List Nat) (Lp:List (Value × Value)) (G:WK→List Nat) (B0 bx:Nat) (fr:List Nat) (a:A) (Ae:Option Addr) (ce:Nat) (w0 w:World):Prop:=
 ∃ y cf Lf I J Lr U,kD B sb mu mp y nf cf Lf fs bf I nr J Lr rn Lp G U w∧JI B sb mu mp (.slice y nf cf) (.slice I nr J) U bx fr∧BoxOk bx fr a Ae ce w0 w∧Below B0 w0 w∧B0≤B
theorem D.jq.fact {B sb mu mp nf nr cf:Nat} {J Ar:Option Addr} {cr:Nat} {Lf Lr:List Value} {fs:List A} {bf:List Nat} {rn:List Nat} {Lp:List (Value × Value)} {G:WK→List Nat} {ou:List Nat} {B0 bx:Nat} {fr:List Nat} {a:A} {Ae:Option Addr} {ce:Nat} {w0 w:World}
  (h:kD B sb mu mp J nf cf Lf fs bf Ar nr cr Lr rn Lp G ou w) (hf:JI B sb mu mp (.slice J nf cf) (.slice Ar nr cr) ou bx fr) (hx:BoxOk bx fr a Ae ce w0 w) (hb:Below B0 w0 w) (I:B0≤sb∧B0≤mu∧B0≤mp∧B0≤B)
  {U:World} {A5:Option Addr} {c5:Nat} {cs:List Value} {ba:List Nat} (a0:aV 2 aP w cs [a] ba)
  (a1:U.ownsRow B 40 2 (.slice A5 (nf+1) c5) (nf+1) (Lf ++ cs)) (hg:w.grownBy U (Value.slice J nf cf).ownBlock) (a2:(Value.slice A5 (nf+1) c5).ownBlock=(Value.slice J nf cf).ownBlock∨(Value.slice A5 (nf+1) c5).ownBlock=some w.heap.size)
  (a3:∀ x ∈ ba,Free B sb mu mp (.slice J nf cf) (.slice Ar nr cr) ou x):U.cell? ⟨sb,0,none⟩=some (.slice J nf cf)∧U.frozen? ⟨sb,0,none⟩=false∧jq B sb mu mp (nf+1) nr (fs ++ [a]) (bf ++ ba) rn Lp G B0 bx fr a Ae ce w0 (U.setCell ⟨sb,0,none⟩ (.slice A5 (nf+1) c5)):=by
 obtain ⟨z1,z2,z3,z4,z5⟩:=h.fact a0 a1 hg a2 a3;have a4:=ψ hx.1;have hs:=h.oH;refine ⟨z1,z2,A5,c5,_,Ar,cr,Lr,ou,z3,⟨⟨fun e=>?_,hf.1.r,hf.1.u,hf.1.s⟩,fun x y=>⟨fun e=>?_,(hf.2 x y).r,(hf.2 x y).u,(hf.2 x y).s⟩⟩,hx.keep (z4 bx a4 hf.1.f hf.1.s.1) (fun x y=>z4 x (hx.2.2.1 x y) (hf.2 x y).f (hf.2 x y).s.1) (by have:=hg.size; simp [World.setCell]; omega),?_,I.2.2.2⟩
 ·rcases z5 bx e with e | e
  ·exact hf.1.f e
  ·omega
 ·rcases z5 x e with e | e
  ·exact (hf.2 x y).f e
  ·have:=hx.2.2.1 x y; omega
 ·have a5:Below B0 w0 U:=hb.grown hg (τ I.2.2.2 hs) fun k e=>τ I.2.2.2 (bD h.cF.own e).1
  exact a5.setCell (p:=⟨sb,0,none⟩) I.1 _
theorem D.jq.round {B sb mu mp nf nr cf:Nat} {Af U:Option Addr} {cr:Nat} {Lf Lr:List Value} {fs:List A} {bf:List Nat} {rn:List Nat} {Lp:List (Value × Value)} {G:WK→List Nat} {ou:List Nat} {B0 bx:Nat} {fr:List Nat} {a:A} {Ae:Option Addr} {ce:Nat} {w0 w:World}
  (h:kD B sb mu mp Af nf cf Lf fs bf U nr cr Lr rn Lp G ou w) (hf:JI B sb mu mp (.slice Af nf cf) (.slice U nr cr) ou bx fr) (hx:BoxOk bx fr a Ae ce w0 w) (hb:Below B0 w0 w) (I:B0≤sb∧B0≤mu∧B0≤mp∧B0≤B)
  {J:World} {A5:Option Addr} {c5:Nat} {cs:List Value} {i:Nat} (a0:aV 1 xk w cs [i] [])
  (a1:J.ownsRow B 3 1 (.slice A5 (nr+1) c5) (nr+1) (Lr ++ cs)) (hg:w.grownBy J (Value.slice U nr cr).ownBlock) (a2:(Value.slice A5 (nr+1) c5).ownBlock=(Value.slice U nr cr).ownBlock∨(Value.slice A5 (nr+1) c5).ownBlock=some w.heap.size):
  J.cell? ⟨sb,1,none⟩=some (.slice U nr cr)∧J.frozen? ⟨sb,1,none⟩=false∧jq B sb mu mp nf (nr+1) fs bf (rn ++ [i]) Lp G B0 bx fr a Ae ce w0 (J.setCell ⟨sb,1,none⟩ (.slice A5 (nr+1) c5)):=by
 obtain ⟨z1,z2,z3,z4,z5⟩:=h.round a0 a1 hg a2;have a3:=ψ hx.1;have hs:=h.oH;refine ⟨z1,z2,Af,cf,Lf,A5,c5,_,ou,z3,⟨⟨hf.1.f,fun e=>?_,hf.1.u,hf.1.s⟩,fun x y=>⟨(hf.2 x y).f,fun e=>?_,(hf.2 x y).u,(hf.2 x y).s⟩⟩,hx.keep (z4 bx a3 hf.1.r hf.1.s.1) (fun x y=>z4 x (hx.2.2.1 x y) (hf.2 x y).r (hf.2 x y).s.1) (by have:=hg.size; simp [World.setCell]; omega),?_,I.2.2.2⟩
 ·rcases z5 bx e with e | e
  ·exact hf.1.r e
  ·omega
 ·rcases z5 x e with e | e
  ·exact (hf.2 x y).r e
  ·have:=hx.2.2.1 x y; omega
 ·have a4:Below B0 w0 J:=hb.grown hg (τ I.2.2.2 hs) fun k e=>τ I.2.2.2 (bD h.cR.own e).1
  exact a4.setCell (p:=⟨sb,1,none⟩) I.1 _
theorem D.jq.later {B sb mu mp nf nr:Nat} {fs:List A} {bf:List Nat} {rn:List Nat} {Lp:List (Value × Value)} {G:WK→List Nat} {B0 bx:Nat} {fr:List Nat} {a:A} {Ae:Option Addr} {ce:Nat} {w0 w w':World} (h:jq B sb mu mp nf nr fs bf rn Lp G B0 bx fr a Ae ce w0 w) (hk:Below w.heap.size w w'):jq B sb mu mp nf nr fs bf rn Lp G B0 bx fr a Ae ce w0 w':=by
 obtain ⟨I,cf,Lf,J,U,Lr,ou,h1,h2,y,h4,h5⟩:=h;have hs:=h1.oH;exact ⟨I,cf,Lf,J,U,Lr,ou,h1.later hk,h2,y.keep (hk.block _ (ψ y.1)) (fun x hx=>hk.block x (y.2.2.1 x hx)) hk.size,h4.trans (hk.mono (by omega)),h5⟩
theorem D.jq.place {B sb mu mp nf nr:Nat} {fs:List A} {bf:List Nat} {rn:List Nat} {Lp:List (Value × Value)} {G:WK→List Nat} {B0 bx:Nat} {fr:List Nat} {a:A} {Ae:Option Addr} {ce:Nat} {w0 w:World} (h:jq B sb mu mp nf nr fs bf rn Lp G B0 bx fr a Ae ce w0 w) (hB:B0≤mp) {s:ByteArray} (hs:s.size≤maxLen) (v:Value) (J:∀ p ∈ Lp,p.1 ≠ .string s):
  ∃ I,(Instr.mapUpdate 112 (.map (some mp)) (.string s) v).run Tryz.prog w=.ok () I∧jq B sb mu mp nf nr fs bf rn (Lp ++ [(.string s,v)]) G B0 bx fr a Ae ce w0 I:=by
 obtain ⟨Af,cf,Lf,Ar,cr,Lr,ou,h1,U,h3,h4,h5⟩:=h;obtain ⟨I,r1,r2,y,-⟩:=xA lu (w:=w) trivial Tryz.underlying112 v h1.pl ⟨_,rfl,hs⟩ J;have hz:=h1.oH;exact ⟨I,r1,Af,cf,Lf,Ar,cr,Lr,ou,h1.place r2 y,U,h3.keep (y.block _ (ψ h3.1) (fun e=>U.1.s.2.2 (by injection e))) (fun x hx=>y.block x (h3.2.2.1 x hx) (fun e=>(U.2 x hx).s.2.2 (by injection e))) y.size,h4.grown y (by omega) fun k e=>by injection e with e; omega,h5⟩
structure D.JJ (B sb mu mp nf nr:Nat) (fs:List A) (bf:List Nat) (rn:List Nat) (Lp:List (Value × Value)) (G:WK→List Nat) (B0 bx:Nat) (fr:List Nat) (a:A) (Ae:Option Addr) (ce:Nat) (w0:World) (k:WK) (u:Value) (L:List Value) (n:Nat) (w:World):Prop where
 ex:∃ Af cf Lf Ar cr Lr ou w1,kD B sb mu mp Af nf cf Lf fs bf Ar nr cr Lr rn Lp G ou w1∧JI B sb mu mp (.slice Af nf cf) (.slice Ar nr cr) ou bx fr∧BoxOk bx fr a Ae ce w0 w1∧Below B0 w0 w1∧B0≤B∧B0≤mu∧
  Df B mu G ou k u L n w∧w1.grownBy w (some mu)
theorem D.jq.entry {B sb mu mp nf nr:Nat} {fs:List A} {bf:List Nat} {rn:List Nat} {Lp:List (Value × Value)} {G:WK→List Nat} {B0 bx:Nat} {fr:List Nat} {a:A} {Ae:Option Addr} {ce:Nat} {w0 w:World} (h:jq B sb mu mp nf nr fs bf rn Lp G B0 bx fr a Ae ce w0 w) (hB:B0≤mu) (k:WK):
  ∃ r y,(Instr.mapEntry 111 (.map (some mu)) (.agg #[.string k.name,.int .i64 k.size,.int .i64 k.place,.string k.word])).run Tryz.prog w=.ok r y∧∃ u n L,r=.tuple #[u,.int .i64 (n:Nat)]∧JJ B sb mu mp nf nr fs bf rn Lp G B0 bx fr a Ae ce w0 k u L n y∧w.grownBy y (some mu):=by
 obtain ⟨J,cf,Lf,U,cr,Lr,ou,h1,h2,h3,h4,h5⟩:=h;obtain ⟨y,u,n,L,r1,r2,I⟩:=h1.un.entry h1.lo.2.1 k;exact ⟨_,y,r1,u,n,L,rfl,⟨J,cf,Lf,U,cr,Lr,ou,w,h1,h2,h3,h4,h5,hB,r2,I⟩,I⟩
section
variable {B sb mu mp nf nr:Nat} {fs:List A} {bf:List Nat} {rn:List Nat} {Lp:List (Value × Value)} {G:WK→List Nat} {B0 bx:Nat} {fr:List Nat} {a:A} {Ae:Option Addr} {ce:Nat} {w0 w w':World} {k:WK} {u:Value} {L:List Value} {n:Nat}
theorem D.JJ.own (h:JJ B sb mu mp nf nr fs bf rn Lp G B0 bx fr a Ae ce w0 k u L n w):w.ownsRow B 3 1 u (G k).length L:=by
 obtain ⟨_,_,_,_,_,_,_,_,_,_,_,_,_,_,h,_⟩:=h.ex;exact h.coll.own
theorem D.JJ.oH (h:JJ B sb mu mp nf nr fs bf rn Lp G B0 bx fr a Ae ce w0 k u L n w):B≤w.heap.size:=by
 obtain ⟨_,_,_,_,_,_,_,I,h1,_,_,_,_,_,_,y⟩:=h.ex;exact τ h1.oH y.size
theorem D.JJ.store (h:JJ B sb mu mp nf nr fs bf rn Lp G B0 bx fr a Ae ce w0 k u L n w) (hk:Below w.heap.size w w') {A5:Option Addr} {c5 i:Nat} {w5:World} (J:w5.ownsRow B 3 1 (.slice A5 ((G k).length+1) c5) ((G k).length+1) (L ++ [.int .i64 (i:Nat)])) (hg:w'.grownBy w5 u.ownBlock)
  (U:(Value.slice A5 ((G k).length+1) c5).ownBlock=u.ownBlock∨(Value.slice A5 ((G k).length+1) c5).ownBlock=some w'.heap.size):
  ∃ w9,(Instr.entryStore 111 (.map (some mu)) (.int .i64 (n:Nat)) (.slice A5 ((G k).length+1) c5)).run Tryz.prog w5=.ok () w9∧jq B sb mu mp nf nr fs bf rn Lp (Dh G k i) B0 bx fr a Ae ce w0 w9:=by
 obtain ⟨Af,cf,Lf,Ar,cr,Lr,ou,w1,h1,I,h3,h4,h5,h6,h7,h8⟩:=h.ex;have a2:mu < w.heap.size:=by have:=h1.oH; have:=h1.lo.2.1; have:=h8.size; omega
 have a3:∀ x ∈ ou,x < w.heap.size:=fun x y=>κ (h1.ous x y).2 h8.size
 have hP:=h7.keep (w':=w') (hk.block _ a2) fun x y=>hk.block x (a3 x y)
 have hC:cu 1 xk B 3 w5 (.slice A5 ((G k).length+1) c5) (L ++ [.int .i64 (i:Nat)]) (G k ++ [i]) []:=hP.coll.app iI (aV.dY EJ ⟨rfl,rfl⟩) (fun b hb=>by simp at hb) J hg U;obtain ⟨w9,a0,r1,r2,r3,r4⟩:=hP.store h1.lo.2.1 hg hC U;have a6:=h8.size;have a7:=hk.size;have a8:=hg.size;have a9:=r3.size;have ku:∀ x,u.ownBlock=some x→x ∈ ou:=hP.own
 have kp:∀ x,x < w1.heap.size→x ≠ mu→x ∉ ou→w9.heap[x]? = w1.heap[x]?:=fun x y a1 a4=>
  (r3.block x (by omega) (fun e=>a1 (by injection e))).trans ((hg.block x (by omega) (fun e=>a4 (ku x e.symm))).trans ((hk.block x (by omega)).trans (h8.block x y (fun e=>a1 (by injection e)))))
 have new:∀ x ∈ a0,x ∈ ou∨(w1.heap.size≤x∧x < w9.heap.size):=fun x y=>by
  rcases r4 x y with g | ⟨g1,g2⟩
  ·exact .inl g
  ·have:=(bD J g1).2
   exact .inr ⟨by omega,by omega⟩
 have a5:=ψ h3.1;have aa:=h1.oH;refine ⟨w9,r1,Af,cf,Lf,Ar,cr,Lr,a0,h1.under (by omega) kp r2 new,⟨⟨I.1.f,I.1.r,fun e=>?_,I.1.s⟩,fun x y=>⟨(I.2 x y).f,(I.2 x y).r,fun e=>?_,(I.2 x y).s⟩⟩,h3.keep (kp bx a5 I.1.s.2.1 I.1.u) (fun x y=>kp x (h3.2.2.1 x y) (I.2 x y).s.2.1 (I.2 x y).u) (by omega),⟨?_,?_,?_,by have:=h4.size; omega,fun x y=>?_⟩,h5⟩
 ·rcases new bx e with g | g
  ·exact I.1.u g
  ·omega
 ·rcases new x e with g | g
  ·exact (I.2 x y).u g
  ·have:=h3.2.2.1 x y; omega
 ·exact r3.os.trans (hg.os.trans (hk.os.trans (h8.os.trans h4.os)))
 ·exact r3.tape.trans (hg.tape.trans (hk.tape.trans (h8.tape.trans h4.tape)))
 ·exact r3.output.trans (hg.output.trans (hk.output.trans (h8.output.trans h4.output)))
 ·exact (kp x (by omega) (by omega) (fun e=>by have:=(h1.ous x e).1; omega)).trans (h4.block x y)
end
section
variable {P:Program} {ops:Array Oper} {rest:List Oper} {o:Oper} {a:Act} {Q:Exit→Act→World→Prop}
end
theorem D.jq.cells {B sb mu mp nf nr:Nat} {fs:List A} {bf:List Nat} {rn:List Nat} {Lp:List (Value × Value)} {G:WK→List Nat} {B0 bx:Nat} {fr:List Nat} {a:A} {Ae:Option Addr} {ce:Nat} {w0 w:World} (h:jq B sb mu mp nf nr fs bf rn Lp G B0 bx fr a Ae ce w0 w):
  w.cell? ⟨sb,2,none⟩=some (.map (some mu))∧w.cell? ⟨sb,3,none⟩=some (.map (some mp))∧w.cell? ⟨bx,0,none⟩=some (.string a.name)∧w.cell? ⟨bx,1,none⟩=some (.slice Ae a.args.length ce)∧sb < w.heap.size∧bx < w.heap.size∧∃ ba,aP w [.string a.name,.slice Ae a.args.length ce] a ba:=by
 obtain ⟨I,cf,Lf,J,U,Lr,ou,h1,h2,y,h4,h5⟩:=h;obtain ⟨ba,g,_⟩:=y.2.1;exact ⟨aj h1.blk,aj h1.blk,aj y.1,aj y.1,ψ h1.blk,ψ y.1,ba,g⟩
theorem put_any (B sb mu mp:Nat) (Af:Option Addr) (cf:Nat) (Lf:List Value) (fs:List A) (bf:List Nat) (Ar:Option Addr) (cr:Nat) (Lr:List Value) (rn:List Nat) (Lp:List (Value × Value)) (ou:List Nat) (a:A) (c1:Value) (ba:List Nat) (fr:List Nat) (rd:Nat) (w:World)
  (S:kD B sb mu mp Af fs.length cf Lf fs bf Ar rn.length cr Lr rn Lp (idxs fs) ou w) (ha:aP w [.string a.name,c1] a ba) (bh:∀ x ∈ ba,x ∈ fr) (bi:∀ x ∈ fr,Free B sb mu mp (.slice Af fs.length cf) (.slice Ar rn.length cr) ou x) (aD:∀ x ∈ fr,x < w.heap.size) (hok:aZ a=true) (c8:∀ p ∈ Lp,p.1 ≠ .string (dM a)) (cA:fs.length≤1000000) (cB:rn.length≤1000000) (B0:Nat) (a9:B0≤sb∧B0≤mu∧B0≤mp∧B0≤B):
  Calls Tryz.prog 115 #[.pointer (some ⟨sb,0,none⟩),.agg #[.string a.name,c1],.int .i64 rd] w fun e w'=>e=.returned (.tuple #[])∧Below B0 w w'∧
   ∃ bj bk c9 bl bn ca bo,kD B sb mu mp bj (fs.length+1) bk c9 (fs ++ [a]) (bf ++ ba) bl (rn.length+1) bn ca (rn ++ [rd]) (Lp ++ [(.string (dM a),.int .i64 (fs.length:Nat))]) (idxs (fs ++ [a])) bo w'∧∀ x ∈ fr,Free B sb mu mp (.slice bj (fs.length+1) bk) (.slice bl (rn.length+1) bn) bo x∧w'.heap[x]? = w.heap[x]?:=by
 obtain ⟨i0,hi,cb,cc,cd⟩:=info_parts NG;obtain ⟨i9,hj,ac,ae,af⟩:=info_parts UG;obtain ⟨Ae,ce,_,rfl⟩:=bK ha;have hA:Below w.heap.size w (w.alloc (.cells #[.string a.name,.slice Ae a.args.length ce] 40)):=ζ;have ag:=S.later hA;have aE:=ak.below ha hA;have bp:(w.alloc (.cells #[.string a.name,.slice Ae a.args.length ce] 40)).heap[w.heap.size]? = some (.cells #[.string a.name,.slice Ae a.args.length ce] 40 (0,0)):=ω _ _;have aw:∀ w2:World,Below (w.alloc (.cells #[.string a.name,.slice Ae a.args.length ce] 40)).heap.size (w.alloc (.cells #[.string a.name,.slice Ae a.args.length ce] 40)) w2→aV 2 aP w2 [.string a.name,.slice Ae a.args.length ce] [a] ba:=fun w2 h2=>aV.dY fM (ak.below aE h2)
 have q0:(w.alloc (.cells #[.string a.name,.slice Ae a.args.length ce] 40)).cell? ⟨sb,0,none⟩=some (.slice Af fs.length cf):=aj ag.blk;have q1:(w.alloc (.cells #[.string a.name,.slice Ae a.args.length ce] 40)).frozen? ⟨sb,0,none⟩=false:=aB ag.blk;have q2:sb < (w.alloc (.cells #[.string a.name,.slice Ae a.args.length ce] 40)).heap.size:=ψ ag.blk;have HS:=η ag;have bq:=η bp;have br:=η aw;have cg:=η aE;have HA:=η hA;have bs:Hid (fs.length+1≤maxLen∧(fs.length+1) * 40≤140737488355328):=η (by unfold maxLen; omega);have z0:(w.alloc (.cells #[.string a.name,.slice Ae a.args.length ce] 40)).cell? ⟨w.heap.size,0,none⟩=some (.string a.name):=by go_simp
 have z1:(w.alloc (.cells #[.string a.name,.slice Ae a.args.length ce] 40)).cell? ⟨w.heap.size,1,none⟩=some (.slice Ae a.args.length ce):=by go_simp
 have aL:(w.alloc (.cells #[.string a.name,.slice Ae a.args.length ce] 40)).heap.size=w.heap.size+1:=by simp
 have bt:w.heap.size < (w.alloc (.cells #[.string a.name,.slice Ae a.args.length ce] 40)).heap.size:=by rw [aL]; omega
 have cz:sb < w.heap.size:=ψ S.blk
 have bu:Hid (JI B sb mu mp (.slice Af fs.length cf) (.slice Ar rn.length cr) ou w.heap.size fr):=η (by
  obtain ⟨l1,l2,l3,_⟩:=S.lo;have hs:=S.oH
  exact ⟨⟨fun e=>by have:=(bD S.cF.own e).2; omega,fun e=>by have:=(bD S.cR.own e).2; omega,fun e=>by have:=(S.ous _ e).2; omega,by omega⟩,bi⟩)
 have cD:=η aL;clear S ha hA ag aE bp aw aL
 go_enter Tryz.func115,Tryz.ntmps115
 go_wp2;generalize w.alloc (.cells #[.string a.name,.slice Ae a.args.length ce] 40)=W1 at *;have hL:Below W1.heap.size W1 (W1.drew.alloc (.cells #[.string a.name,.slice Ae a.args.length ce] 40)):=(ϑ.drew).alloc ν _;have a0:=η (HS.out.later hL);have a7:=η (br.out _ hL)
 have am:Hid (Lies (W1.drew.alloc (.cells #[.string a.name,.slice Ae a.args.length ce] 40)) (some ⟨W1.heap.size,0,none⟩) [.string a.name,.slice Ae a.args.length ce]):=η (by
  have:=aS (ω W1.drew (.cells #[.string a.name,.slice Ae a.args.length ce] 40)); simpa using this)
 have bv:(W1.drew.alloc (.cells #[.string a.name,.slice Ae a.args.length ce] 40)).heap[w.heap.size]? = some (.cells #[.string a.name,.slice Ae a.args.length ce] 40 (0,0)):=(hL.block _ bt).trans bq.out;have bw:Hid (BoxOk w.heap.size fr a Ae ce w (W1.drew.alloc (.cells #[.string a.name,.slice Ae a.args.length ce] 40))):=η ⟨bv,⟨ba,ak.below cg.out hL,bh⟩,fun x hx=>κ (κ (aD x hx) HA.out.size) hL.size,fun x hx=>(hL.block x (κ (aD x hx) HA.out.size)).trans (HA.out.block x (aD x hx))⟩;have bz:Hid (Below B0 w (W1.drew.alloc (.cells #[.string a.name,.slice Ae a.args.length ce] 40))):=η ((HA.out.trans (hL.mono HA.out.size)).mono (by omega));clear bv hL
 go_cut [] from 16 to 25 (fun wx=>jq B sb mu mp (fs.length+1) rn.length (fs ++ [a]) (bf ++ ba) rn Lp (idxs fs) B0 w.heap.size fr a Ae ce w wx)
 case first=>
  go_region_law
   (first
    | (refine gG (by rfl) (.tmp 20) (.tmp 22) _ (by rfl) B 40 i0 (.agg #[.string ⟨#[]⟩,.slice none 0 0]) 2 40 Tryz.underlying36 hi cb cc cd rfl (Θ 1) (.slice Af fs.length cf) fs.length Lf (by rfl) a0.out.cF.own (some ⟨W1.heap.size,0,none⟩) 1 1 _ (by rfl) rfl am.out a7.out.one bs.out.1 bs.out.2 a0.out.oH ?_; intro A5 c5 w5 h5 g5 l5; have HZ:=η (jq.fact a0.out bu.out bw.out bz.out a9 a7.out h5 g5 l5 fun x hx=>bi x (bh x hx)); replace q0:=HZ.out.1; replace q1:=HZ.out.2.1; clear h5 g5 l5))
  all_goals
   have ci:=η HZ.out.2.2;clear q0 q1 HZ
   go_wp2_with fail
   go_meet
   exact ci.out
 case rest=>
  clear a0 a7 am bw bz HS bu q0 q1 q2 z0 z1 bq;obtain ⟨cE,cG,cI,bA,bB,cj,cJ,S2,F2,X2,B2,_⟩:=hcut;have aa:Below wc.heap.size wc (wc.alloc (.cells #[.int .i64 rd] 3)):=ζ;have cK:=S2.oH;have a0:=η (S2.later aa);have bE:=η F2;have bL:=η (X2.keep (aa.block _ (ψ X2.1)) (fun x hx=>aa.block x (X2.2.2.1 x hx)) aa.size);have ab:=η (B2.trans (aa.mono (by omega)));have a7:Hid (aV 1 xk (wc.alloc (.cells #[.int .i64 rd] 3)) [.int .i64 (rd:Nat)] [rd] []):=η (aV.dY EJ ⟨rfl,rfl⟩)
  have am:Hid (Lies (wc.alloc (.cells #[.int .i64 rd] 3)) (some ⟨wc.heap.size,0,none⟩) [.int .i64 (rd:Nat)]):=η (by
   have:=aS (ω wc (.cells #[.int .i64 rd] 3)); simpa using this)
  have bO:Hid (rn.length+1≤maxLen∧(rn.length+1) * 8≤140737488355328):=η (by unfold maxLen; omega);have q0:wc.cell? ⟨sb,1,none⟩=some (.slice bA rn.length bB):=aj S2.blk;have q1:wc.frozen? ⟨sb,1,none⟩=false:=aB S2.blk;have q2:sb < wc.heap.size:=ψ S2.blk;clear S2 F2 X2 B2 aa
  go_wp2_with (first | (at_builtin; refine pO (by rfl) (.tmp 30) (.tmp 32) _ (by rfl) B 3 i9 (.int .i64 0) 1 8 Tryz.underlying64 hj ac ae af rfl (Θ 0) (.slice bA rn.length bB) rn.length cj (by rfl) a0.out.cR.own (some ⟨wc.heap.size,0,none⟩) 1 1 _ (by rfl) rfl am.out a7.out.one bO.out.1 bO.out.2 a0.out.oH ?_; intro A5 c5 w5 h5 g5 l5; have HZ:=η (jq.round a0.out bE.out bL.out ab.out a9 a7.out h5 g5 l5); replace q0:=HZ.out.1; replace q1:=HZ.out.2.1; clear h5 g5 l5) | go_in)
  have aM:=η HZ.out.2.2;clear q0 q1 q2 HZ a0 bE bL ab a7 am;generalize (w5.setCell ⟨sb,1,none⟩ (.slice A5 (rn.length+1) c5))=W3 at *;obtain ⟨_,y3,y4,y5,y6,y7,ck,az⟩:=aM.out.cells;have hT:=η (pY a (.string a.name) (.slice Ae a.args.length ce) ck W3.drew (ak.keep az fun _ _=>rfl) (by have:=Gl hok; omega));have bR:Hid (∀ w2:World,Below W3.heap.size W3 w2→∃ w9,(Instr.mapUpdate 112 (.map (some mp)) (.string ⟨(wI a).toArray⟩) (.int .i64 fs.length)).run Tryz.prog w2=.ok () w9∧jq B sb mu mp (fs.length+1) (rn.length+1) (fs ++ [a]) (bf ++ ba) (rn ++ [rd]) (Lp ++ [(.string (dM a),.int .i64 (fs.length:Nat))]) (idxs fs) B0 w.heap.size fr a Ae ce w w9):=η fun w2 h2=>(aM.out.later h2).place a9.2.2.1 (qm hok) _ c8
  clear az
  go_cut [] from 36 to 42 (fun wx=>jq B sb mu mp (fs.length+1) (rn.length+1) (fs ++ [a]) (bf ++ ba) (rn ++ [rd]) (Lp ++ [(.string (dM a),.int .i64 (fs.length:Nat))]) (idxs fs) B0 w.heap.size fr a Ae ce w wx)
  case first=>
   go_region_law
    (first
     | (go_simp; go_at_call 60; refine hT.out.mono ?_; rintro e w2 ⟨rfl,bX⟩; have ab:=η ((Below.refl W3.heap.size W3).drew.trans bX); replace y3:=ξ ab.out y3; obtain ⟨w9,cl,y⟩:=bR.out w2 ab.out; have a8:=η y; clear bX y))
   all_goals
    clear y3 y4 y5 cl ab
    go_wp2_with fail
    go_meet
    exact a8.out
  case rest=>
   have aR:=η hcut;clear hcut aM hT bR y3 y4 y5 y6 y7;obtain ⟨y2,_,y4,y5,y6,y7,_⟩:=aR.out.cells;have b3:Below wc.heap.size wc (wc.alloc (.cells #[.string a.name,.int .i64 a.args.length,.int .i64 (-1),.string ⟨#[]⟩] 256)):=ζ;have b4:=η (aR.out.later b3);have k0:(wc.alloc (.cells #[.string a.name,.int .i64 a.args.length,.int .i64 (-1),.string ⟨#[]⟩] 256)).cell? ⟨wc.heap.size,0,none⟩=some (.string a.name):=by go_simp
   have k1:(wc.alloc (.cells #[.string a.name,.int .i64 a.args.length,.int .i64 (-1),.string ⟨#[]⟩] 256)).cell? ⟨wc.heap.size,1,none⟩=some (.int .i64 a.args.length):=by go_simp
   have k2:(wc.alloc (.cells #[.string a.name,.int .i64 a.args.length,.int .i64 (-1),.string ⟨#[]⟩] 256)).cell? ⟨wc.heap.size,2,none⟩=some (.int .i64 (-1)):=by go_simp
   have k3:(wc.alloc (.cells #[.string a.name,.int .i64 a.args.length,.int .i64 (-1),.string ⟨#[]⟩] 256)).cell? ⟨wc.heap.size,3,none⟩=some (.string ⟨#[]⟩):=by go_simp
   have x2:=ξ b3 y2;have kz:=lt_of_cell k0;have sz:sb < (wc.alloc (.cells #[.string a.name,.int .i64 a.args.length,.int .i64 (-1),.string ⟨#[]⟩] 256)).heap.size:=by simp; omega
   clear b3;go_wp2;generalize wc.alloc (.cells #[.string a.name,.int .i64 a.args.length,.int .i64 (-1),.string ⟨#[]⟩] 256)=W5 at *;have b1:Below W5.heap.size W5 W5.drew:=ϑ.drew;have b2:Below W5.heap.size W5 (W5.alloc (.cells #[.int .i64 fs.length] 3)).drew:=(ζ).drew;have cm:=η (ι b1 b2);have b5:Hid (∀ w':World,Below W5.heap.size W5 w'→∃ r w9,(Instr.mapEntry 111 (.map (some mu)) (.agg #[.string a.name,.int .i64 a.args.length,.int .i64 (-1),.string ⟨#[]⟩])).run Tryz.prog w'=.ok r w9∧∃ u n L,r=.tuple #[u,.int .i64 (n:Nat)]∧JJ B sb mu mp (fs.length+1) (rn.length+1) (fs ++ [a]) (bf ++ ba) (rn ++ [rd]) (Lp ++ [(.string (dM a),.int .i64 (fs.length:Nat))]) (idxs fs) B0 w.heap.size fr a Ae ce w ⟨a.name,a.args.length,-1,⟨#[]⟩⟩ u L n w9∧w'.grownBy w9 (some mu)):=η fun w' h'=>(b4.out.later h').entry a9.2.1 ⟨a.name,a.args.length,-1,⟨#[]⟩⟩
   have av:Hid (mu < W5.heap.size):=η (by
    obtain ⟨_,_,_,_,_,_,_,h1,_⟩:=b4.out
    have:=h1.oH; have:=h1.lo.2.1; omega)
   have c0:Hid ((W5.alloc (.cells #[.int .i64 fs.length] 3)).drew.heap[W5.heap.size]? = some (.cells #[.int .i64 fs.length] 3 (0,0))):=η (ω W5 _)
   have U:Hid ((idxs fs ⟨a.name,a.args.length,-1,⟨#[]⟩⟩).length+1≤maxLen∧((idxs fs ⟨a.name,a.args.length,-1,⟨#[]⟩⟩).length+1) * 8≤140737488355328):=η (by
    have:=lK fs ⟨a.name,a.args.length,-1,⟨#[]⟩⟩
    unfold maxLen; omega)
   obtain ⟨_,ao,a1,u1,n1,L1,rfl,a3,ap⟩:=b5.out _ b1;obtain ⟨_,b6,a2,u2,n2,L2,rfl,a4,a5⟩:=b5.out _ b2;have I:=η a3;have J:=η a4
   have a6:Hid (Lies b6 (some ⟨W5.heap.size,0,none⟩) [.int .i64 (fs.length:Nat)]):=η (by
    have hh:=(a5.block W5.heap.size (by simp) (fun e=>by have:=av.out; injection e with e; omega)).trans c0.out
    have:=aS hh; simpa using this)
   clear b1 b2 a3 a4 ap a5
   go_cut [] from 49 to 59 (fun wx=>jq B sb mu mp (fs.length+1) (rn.length+1) (fs ++ [a]) (bf ++ ba) (rn ++ [rd]) (Lp ++ [(.string (dM a),.int .i64 (fs.length:Nat))]) (Dh (idxs fs) ⟨a.name,a.args.length,-1,⟨#[]⟩⟩ fs.length) B0 w.heap.size fr a Ae ce w wx)
   case first=>
    go_region_law
     (first
      | (refine gG (by rfl) (.tmp 54) (.tmp 56) _ (by rfl) B 3 i9 (.int .i64 0) 1 8 Tryz.underlying64 hj ac ae af rfl (Θ 0) u2 (idxs fs ⟨a.name,a.args.length,-1,⟨#[]⟩⟩).length L2 (by rfl) J.out.own (some ⟨W5.heap.size,0,none⟩) 1 1 [.int .i64 (fs.length:Nat)] (by rfl) rfl a6.out (by simp [Value.oneCell']) U.out.1 U.out.2 J.out.oH ?_; intro A6 c6 w6 h6 g6 l6; obtain ⟨w9,aq,y⟩:=J.out.store ϑ h6 g6 l6; have a8:=η y; clear h6 g6 l6 y)
      | (refine gG (by rfl) (.tmp 54) (.tmp 56) _ (by rfl) B 3 i9 (.int .i64 0) 1 8 Tryz.underlying64 hj ac ae af rfl (Θ 0) u1 (idxs fs ⟨a.name,a.args.length,-1,⟨#[]⟩⟩).length L1 (by rfl) (I.out.TA (ζ)) (some ⟨ao.heap.size,0,none⟩) 1 1 [.int .i64 (fs.length:Nat)] (by rfl) rfl (by have:=aS (ω ao (.cells #[.int .i64 fs.length] 3)); simpa using this) (by simp [Value.oneCell']) U.out.1 U.out.2 (τ I.out.oH (by simp)) ?_; intro A6 c6 w6 h6 g6 l6; obtain ⟨w9,aq,y⟩:=I.out.store (ζ) h6 g6 l6; have a8:=η y; clear h6 g6 l6 y))
    all_goals
     clear aq
     go_wp2_with fail
     go_meet
     exact a8.out
   case rest=>
    rw [Sv] at hcut;have c3:=η hcut;obtain ⟨_,_,y4,y5,y6,y7,_⟩:=hcut.cells;have cL:=MO hok;clear hcut aR b4 k0 k1 k2 k3 x2 kz sz a1 a2 I J a6 b5 cm c0 U av y2;go_wp2
    go_loopw [63] (fun i wr=>∃ (k:Nat),k≤a.args.length∧i=.int .i64 k∧jq B sb mu mp (fs.length+1) (rn.length+1) (fs ++ [a]) (bf ++ ba) (rn ++ [rd]) (Lp ++ [(.string (dM a),.int .i64 (fs.length:Nat))]) (tq (idxs fs) a fs.length (k+1)) B0 w.heap.size fr a Ae ce w wr) (fun i _=>a.args.length - (intOf i).toNat)
    case atStart=>exact ⟨0,ε,rfl,c3.out⟩
    case round=>
     obtain ⟨k,hk,rfl,hI⟩:=hrel;clear c3 y4 y5 y6 y7;by_cases ar:k < a.args.length
     ·obtain ⟨y2,_,y4,y5,y6,y7,cP,c4⟩:=hI.cells
      obtain ⟨b8,o8,rfl,_,f0,f1,_⟩:=dN (dK c4) ar;have cQ:(0:Int)≤(k:Int):=by omega
      have cn:(k:Int) < (a.args.length:Int):=by omega
      have b7:Hid (∀ w9,jq B sb mu mp (fs.length+1) (rn.length+1) (fs ++ [a]) (bf ++ ba) (rn ++ [rd]) (Lp ++ [(.string (dM a),.int .i64 (fs.length:Nat))]) (Dh (tq (idxs fs) a fs.length (k+1)) ⟨a.name,a.args.length,k,a.args[k].name⟩ fs.length) B0 w.heap.size fr a (some ⟨b8,o8,none⟩) ce w w9→jq B sb mu mp (fs.length+1) (rn.length+1) (fs ++ [a]) (bf ++ ba) (rn ++ [rd]) (Lp ++ [(.string (dM a),.int .i64 (fs.length:Nat))]) (tq (idxs fs) a fs.length (k+1+1)) B0 w.heap.size fr a (some ⟨b8,o8,none⟩) ce w w9):=η fun w9 h9=>by
       rw [← NH a k ar,EK] at h9; exact h9
      have U:Hid ((tq (idxs fs) a fs.length (k+1) ⟨a.name,a.args.length,k,a.args[k].name⟩).length+1≤maxLen∧((tq (idxs fs) a fs.length (k+1) ⟨a.name,a.args.length,k,a.args[k].name⟩).length+1) * 8≤140737488355328):=η (by
       rw [← NH a k ar,JH];have:=lK fs ((keysOf a)[k+1]'(by rw [xR]; omega))
       unfold maxLen; omega)
      have c7:=η ar;have HI:=η hI;clear hI c4 hk;generalize a.args[k]=t at *;clear ar;have b9:Below wr.heap.size wr ((wr.alloc (.cells #[.bool t.var,.string t.name] 154)).alloc (.cells #[.string a.name,.int .i64 a.args.length,.int .i64 k,.string t.name] 256)):=(ζ).alloc (by simp) _;have bc:=η (HI.out.later b9);have x2:=ξ b9 y2;have bg:((wr.alloc (.cells #[.bool t.var,.string t.name] 154)).alloc (.cells #[.string a.name,.int .i64 a.args.length,.int .i64 k,.string t.name] 256)).heap.size=wr.heap.size+2:=by simp
      have k0:((wr.alloc (.cells #[.bool t.var,.string t.name] 154)).alloc (.cells #[.string a.name,.int .i64 a.args.length,.int .i64 k,.string t.name] 256)).cell? ⟨wr.heap.size+1,0,none⟩=some (.string a.name):=by go_simp
      have k1:((wr.alloc (.cells #[.bool t.var,.string t.name] 154)).alloc (.cells #[.string a.name,.int .i64 a.args.length,.int .i64 k,.string t.name] 256)).cell? ⟨wr.heap.size+1,1,none⟩=some (.int .i64 a.args.length):=by go_simp
      have k2:((wr.alloc (.cells #[.bool t.var,.string t.name] 154)).alloc (.cells #[.string a.name,.int .i64 a.args.length,.int .i64 k,.string t.name] 256)).cell? ⟨wr.heap.size+1,2,none⟩=some (.int .i64 k):=by go_simp
      have k3:((wr.alloc (.cells #[.bool t.var,.string t.name] 154)).alloc (.cells #[.string a.name,.int .i64 a.args.length,.int .i64 k,.string t.name] 256)).cell? ⟨wr.heap.size+1,3,none⟩=some (.string t.name):=by go_simp
      have kz:wr.heap.size+1 < ((wr.alloc (.cells #[.bool t.var,.string t.name] 154)).alloc (.cells #[.string a.name,.int .i64 a.args.length,.int .i64 k,.string t.name] 256)).heap.size:=by rw [bg]; omega
      have sz:sb < ((wr.alloc (.cells #[.bool t.var,.string t.name] 154)).alloc (.cells #[.string a.name,.int .i64 a.args.length,.int .i64 k,.string t.name] 256)).heap.size:=by rw [bg]; omega
      clear b9 bg;go_wp2;generalize ((wr.alloc (.cells #[.bool t.var,.string t.name] 154)).alloc (.cells #[.string a.name,.int .i64 a.args.length,.int .i64 k,.string t.name] 256))=W5 at *;have b1:Below W5.heap.size W5 W5.drew:=ϑ.drew;have b2:Below W5.heap.size W5 (W5.alloc (.cells #[.int .i64 fs.length] 3)).drew:=(ζ).drew
      have av:Hid (mu < W5.heap.size):=η (by
       obtain ⟨_,_,_,_,_,_,_,h1,_⟩:=bc.out
       have:=h1.oH; have:=h1.lo.2.1; omega)
      obtain ⟨_,ao,a1,u1,n1,L1,rfl,a3,ap⟩:=(bc.out.later b1).entry a9.2.1 ⟨a.name,a.args.length,k,t.name⟩;obtain ⟨_,b6,a2,u2,n2,L2,rfl,a4,a5⟩:=(bc.out.later b2).entry a9.2.1 ⟨a.name,a.args.length,k,t.name⟩;dsimp only at a1 a2;have I:=η a3;have J:=η a4
      have a6:Hid (Lies b6 (some ⟨W5.heap.size,0,none⟩) [.int .i64 (fs.length:Nat)]):=η (by
       have hh:=(a5.block W5.heap.size (by simp) (fun e=>by have:=av.out; injection e with e; omega)).trans (ω W5 (.cells #[.int .i64 fs.length] 3))
       have:=aS hh; simpa using this)
      clear b1 b2 a3 a4 ap a5
      go_region_law
       (first
        | (refine gG (by rfl) (.tmp 82) (.tmp 84) _ (by rfl) B 3 i9 (.int .i64 0) 1 8 Tryz.underlying64 hj ac ae af rfl (Θ 0) u2 _ L2 (by rfl) J.out.own (some ⟨W5.heap.size,0,none⟩) 1 1 [.int .i64 (fs.length:Nat)] (by rfl) rfl a6.out (by simp [Value.oneCell']) U.out.1 U.out.2 J.out.oH ?_; intro A6 c6 w6 h6 g6 l6; obtain ⟨w9,aq,y⟩:=J.out.store ϑ h6 g6 l6; have a8:=η (b7.out _ y); clear h6 g6 l6 y)
        | (refine gG (by rfl) (.tmp 82) (.tmp 84) _ (by rfl) B 3 i9 (.int .i64 0) 1 8 Tryz.underlying64 hj ac ae af rfl (Θ 0) u1 _ L1 (by rfl) (I.out.TA (ζ)) (some ⟨ao.heap.size,0,none⟩) 1 1 [.int .i64 (fs.length:Nat)] (by rfl) rfl (by have:=aS (ω ao (.cells #[.int .i64 fs.length] 3)); simpa using this) (by simp [Value.oneCell']) U.out.1 U.out.2 (τ I.out.oH (by simp)) ?_; intro A6 c6 w6 h6 g6 l6; obtain ⟨w9,aq,y⟩:=I.out.store (ζ) h6 g6 l6; have a8:=η (b7.out _ y); clear h6 g6 l6 y))
      all_goals
       clear aq x2 k0 k1 k2 k3 a1 a2 I J a6 b7 U;go_wp2;go_roundw
       case rel=>exact ⟨k+1,c7.out,by go_num,a8.out⟩
       case measure=>have:=c7.out; simp [intOf]; omega
     ·have he:k=a.args.length:=by omega
      subst he;have cn:¬ (a.args.length:Int) < (a.args.length:Int):=by omega
      rw [SA] at hI;have HD:=η hI;clear hI;go_wp2
      go_end0
      obtain ⟨co,cp,cq,cv,cw,cx,cy,h1,h2,h3,h4,h5⟩:=HD.out;exact ⟨rfl,h4,co,cp,cq,cv,cw,cx,cy,h1,fun x hx=>⟨h2.2 x hx,h3.2.2.2 x hx⟩⟩
end Go.Proofs.YtlmngncogomgeaaGreatDoor
