/- Of the proof of FnEvalOnly: StPI, EvalS. -/
import Derived.Test.YtkjinanbccloeaaGreatDoorB32
import Derived.Test.YtkjinanbccloeaaGreatDoorB33
set_option linter.unusedVariables false
set_option maxHeartbeats 4000000
set_option maxRecDepth 100000
namespace Go.Proofs.YtkjinanbccloeaaGreatDoor
open Go.RowKit D
attribute [local go_sem ↓] Go.wp_at_zero Go.wp_at_succ
theorem OD:(Tryz.prog.info? 33).map (fun i=>(i.zero,i.size,i.bytes))=some (some (.agg #[.string ⟨#[]⟩,.slice none 0 0]),2,40):=by kernel_rfl
theorem VS:(Tryz.prog.info? 3).map (fun i=>(i.zero,i.size,i.bytes))=some (some (.int .i64 0),1,8):=by kernel_rfl
theorem D.F9:zD 1 wM:=fun h=>by obtain ⟨rfl,_⟩:=h; simp [Value.oneCell']
def D.tJ (G:WK→List Nat) (a:A) (i j:Nat):WK→List Nat:=fun k=>if k ∈ (keysOf a).take j then G k ++ [i] else G k
theorem D.NR {a:A} (h:aX a=true):(a.args.length:Int)≤3:=by
 unfold aX at h;simp only [ο,decide_eq_true_eq] at h;have:=h.1.2;omega
theorem D.NS (a:A):(keysOf a).Nodup:=by
 unfold keysOf;refine List.nodup_cons.2 ⟨fun h=>?_,?_⟩
 ·obtain ⟨i,y,e⟩:=List.mem_mapIdx.1 h
  simp at e
 ·refine List.pairwise_iff_getElem.2 fun i j y J I e=>?_
  simp at e;omega
theorem D.xA (a:A):(keysOf a).length=a.args.length+1:=by simp [keysOf]
theorem D.OE (a:A) (j:Nat) (h:j < a.args.length):(keysOf a)[j+1]'(by rw [xA]; omega)=⟨a.name,a.args.length,j,a.args[j].name⟩:=by simp [keysOf]
theorem D.KN (G:WK→List Nat) (a:A) (i j:Nat) (h:j < (keysOf a).length):tJ G a i j (keysOf a)[j]=G (keysOf a)[j]:=by
 unfold tJ;rw [if_neg];intro hm;obtain ⟨m,I,y⟩:=List.getElem_of_mem hm;simp at I y;exact List.pairwise_iff_getElem.1 (NS a) m j (by omega) h (by omega) y
theorem D.Gf (G:WK→List Nat) (a:A) (i j:Nat) (h:j < (keysOf a).length):Dy (tJ G a i j) (keysOf a)[j] i=tJ G a i (j+1):=by
 funext k
 unfold Dy;by_cases e:k=(keysOf a)[j]
 ·rw [if_pos e,KN G a i j h,e]
  unfold tJ;rw [if_pos (by rw [ρ h]; exact Ω _ (List.mem_singleton_self _))]
 ·rw [if_neg e]
  unfold tJ
  have:k ∈ (keysOf a).take (j+1) ↔ k ∈ (keysOf a).take j:=by
   rw [ρ h,μ,List.mem_singleton];exact ⟨fun g=>g.resolve_right e,.inl⟩
  simp only [this]
theorem D.Uh (G:WK→List Nat) (a:A) (i:Nat):Dy G ⟨a.name,a.args.length,-1,⟨#[]⟩⟩ i=tJ G a i 1:=by
 have h:=Gf G a i 0 (by rw [xA]; omega);have e:tJ G a i 0=G:=by funext k; unfold tJ; simp
 rw [e] at h;exact h
theorem D.Ui (fs:List A) (a:A):tJ (idxs fs) a fs.length (a.args.length+1)=idxs (fs ++ [a]):=by
 funext k
 unfold tJ;rw [ϕ (by rw [xA]; omega),Qb]
 split <;> simp
def D.BoxOk (bx:Nat) (fr:List Nat) (a:A) (Ae:Option Addr) (ce:Nat) (w0 w:World):Prop:=w.heap[bx]? = some (.cells #[.string a.name,.slice Ae a.args.length ce] 33 (0,0))∧(∃ ba,aG w [.string a.name,.slice Ae a.args.length ce] a ba∧∀ x ∈ ba,x ∈ fr)∧(∀ x ∈ fr,x < w.heap.size)∧∀ x ∈ fr,w.heap[x]? = w0.heap[x]?
theorem D.BoxOk.keep {bx:Nat} {fr:List Nat} {a:A} {Ae:Option Addr} {ce:Nat} {w0 w w':World} (h:BoxOk bx fr a Ae ce w0 w) (h1:w'.heap[bx]? = w.heap[bx]?) (I:∀ x ∈ fr,w'.heap[x]? = w.heap[x]?) (U:w.heap.size≤w'.heap.size):BoxOk bx fr a Ae ce w0 w':=by
 obtain ⟨g1,⟨ba,g2,J⟩,g4,g5⟩:=h;exact ⟨h1.trans g1,⟨ba,aj.keep g2 fun x y=>I x (J x y),J⟩,fun x y=>κ (g4 x y) U,fun x y=>(I x y).trans (g5 x y)⟩
def D.KO (B sb mu mp:Nat) (y I:Value) (J:List Nat) (bx:Nat) (fr:List Nat):Prop:=Free B sb mu mp y I J bx∧∀ x ∈ fr,Free B sb mu mp y I J x
def D.jB (B sb mu mp nf nr:Nat) (fs:List A) (bf:List Nat) (rn:List Nat) (Lp:List (Value × Value)) (G:WK→List Nat) (B0 bx:Nat) (fr:List Nat) (a:A) (Ae:Option Addr) (ce:Nat) (w0 w:World):Prop:=
 ∃ y cf Lf I J Lr U,kK B sb mu mp y nf cf Lf fs bf I nr J Lr rn Lp G U w∧KO B sb mu mp (.slice y nf cf) (.slice I nr J) U bx fr∧BoxOk bx fr a Ae ce w0 w∧Below B0 w0 w∧B0≤B
theorem D.jB.fact {B sb mu mp nf nr cf:Nat} {J Ar:Option Addr} {cr:Nat} {Lf Lr:List Value} {fs:List A} {bf:List Nat} {rn:List Nat} {Lp:List (Value × Value)} {G:WK→List Nat} {ou:List Nat} {B0 bx:Nat} {fr:List Nat} {a:A} {Ae:Option Addr} {ce:Nat} {w0 w:World}
  (h:kK B sb mu mp J nf cf Lf fs bf Ar nr cr Lr rn Lp G ou w) (hf:KO B sb mu mp (.slice J nf cf) (.slice Ar nr cr) ou bx fr) (hx:BoxOk bx fr a Ae ce w0 w) (hb:Below B0 w0 w) (I:B0≤sb∧B0≤mu∧B0≤mp∧B0≤B)
  {U:World} {A5:Option Addr} {c5:Nat} {cs:List Value} {ba:List Nat} (a0:aQ 2 aG w cs [a] ba)
  (a1:U.ownsRow B 33 2 (.slice A5 (nf+1) c5) (nf+1) (Lf ++ cs)) (hg:w.grownBy U (Value.slice J nf cf).ownBlock) (a2:(Value.slice A5 (nf+1) c5).ownBlock=(Value.slice J nf cf).ownBlock∨(Value.slice A5 (nf+1) c5).ownBlock=some w.heap.size)
  (a3:∀ x ∈ ba,Free B sb mu mp (.slice J nf cf) (.slice Ar nr cr) ou x):U.cell? ⟨sb,0,none⟩=some (.slice J nf cf)∧U.frozen? ⟨sb,0,none⟩=false∧jB B sb mu mp (nf+1) nr (fs ++ [a]) (bf ++ ba) rn Lp G B0 bx fr a Ae ce w0 (U.setCell ⟨sb,0,none⟩ (.slice A5 (nf+1) c5)):=by
 obtain ⟨z1,z2,z3,z4,z5⟩:=h.fact a0 a1 hg a2 a3;have a4:=ψ hx.1;have hs:=h.oC;refine ⟨z1,z2,A5,c5,_,Ar,cr,Lr,ou,z3,⟨⟨fun e=>?_,hf.1.r,hf.1.u,hf.1.s⟩,fun x y=>⟨fun e=>?_,(hf.2 x y).r,(hf.2 x y).u,(hf.2 x y).s⟩⟩,hx.keep (z4 bx a4 hf.1.f hf.1.s.1) (fun x y=>z4 x (hx.2.2.1 x y) (hf.2 x y).f (hf.2 x y).s.1) (by have:=hg.size; simp [World.setCell]; omega),?_,I.2.2.2⟩
 ·rcases z5 bx e with e | e
  ·exact hf.1.f e
  ·omega
 ·rcases z5 x e with e | e
  ·exact (hf.2 x y).f e
  ·have:=hx.2.2.1 x y; omega
 ·have a5:Below B0 w0 U:=hb.grown hg (τ I.2.2.2 hs) fun k e=>τ I.2.2.2 (bG h.cF.own e).1
  exact a5.setCell (p:=⟨sb,0,none⟩) I.1 _
theorem D.jB.round {B sb mu mp nf nr cf:Nat} {Af U:Option Addr} {cr:Nat} {Lf Lr:List Value} {fs:List A} {bf:List Nat} {rn:List Nat} {Lp:List (Value × Value)} {G:WK→List Nat} {ou:List Nat} {B0 bx:Nat} {fr:List Nat} {a:A} {Ae:Option Addr} {ce:Nat} {w0 w:World}
  (h:kK B sb mu mp Af nf cf Lf fs bf U nr cr Lr rn Lp G ou w) (hf:KO B sb mu mp (.slice Af nf cf) (.slice U nr cr) ou bx fr) (hx:BoxOk bx fr a Ae ce w0 w) (hb:Below B0 w0 w) (I:B0≤sb∧B0≤mu∧B0≤mp∧B0≤B)
  {J:World} {A5:Option Addr} {c5:Nat} {cs:List Value} {i:Nat} (a0:aQ 1 wM w cs [i] [])
  (a1:J.ownsRow B 3 1 (.slice A5 (nr+1) c5) (nr+1) (Lr ++ cs)) (hg:w.grownBy J (Value.slice U nr cr).ownBlock) (a2:(Value.slice A5 (nr+1) c5).ownBlock=(Value.slice U nr cr).ownBlock∨(Value.slice A5 (nr+1) c5).ownBlock=some w.heap.size):
  J.cell? ⟨sb,1,none⟩=some (.slice U nr cr)∧J.frozen? ⟨sb,1,none⟩=false∧jB B sb mu mp nf (nr+1) fs bf (rn ++ [i]) Lp G B0 bx fr a Ae ce w0 (J.setCell ⟨sb,1,none⟩ (.slice A5 (nr+1) c5)):=by
 obtain ⟨z1,z2,z3,z4,z5⟩:=h.round a0 a1 hg a2;have a3:=ψ hx.1;have hs:=h.oC;refine ⟨z1,z2,Af,cf,Lf,A5,c5,_,ou,z3,⟨⟨hf.1.f,fun e=>?_,hf.1.u,hf.1.s⟩,fun x y=>⟨(hf.2 x y).f,fun e=>?_,(hf.2 x y).u,(hf.2 x y).s⟩⟩,hx.keep (z4 bx a3 hf.1.r hf.1.s.1) (fun x y=>z4 x (hx.2.2.1 x y) (hf.2 x y).r (hf.2 x y).s.1) (by have:=hg.size; simp [World.setCell]; omega),?_,I.2.2.2⟩
 ·rcases z5 bx e with e | e
  ·exact hf.1.r e
  ·omega
 ·rcases z5 x e with e | e
  ·exact (hf.2 x y).r e
  ·have:=hx.2.2.1 x y; omega
 ·have a4:Below B0 w0 J:=hb.grown hg (τ I.2.2.2 hs) fun k e=>τ I.2.2.2 (bG h.cR.own e).1
  exact a4.setCell (p:=⟨sb,1,none⟩) I.1 _
theorem D.jB.later {B sb mu mp nf nr:Nat} {fs:List A} {bf:List Nat} {rn:List Nat} {Lp:List (Value × Value)} {G:WK→List Nat} {B0 bx:Nat} {fr:List Nat} {a:A} {Ae:Option Addr} {ce:Nat} {w0 w w':World} (h:jB B sb mu mp nf nr fs bf rn Lp G B0 bx fr a Ae ce w0 w) (y:Below w.heap.size w w'):jB B sb mu mp nf nr fs bf rn Lp G B0 bx fr a Ae ce w0 w':=by
 obtain ⟨J,cf,Lf,U,cr,Lr,ou,h1,h2,I,h4,h5⟩:=h;have hs:=h1.oC;exact ⟨J,cf,Lf,U,cr,Lr,ou,h1.later y,h2,I.keep (y.block _ (ψ I.1)) (fun x hx=>y.block x (I.2.2.1 x hx)) y.size,h4.trans (y.mono (by omega)),h5⟩
theorem D.jB.place {B sb mu mp nf nr:Nat} {fs:List A} {bf:List Nat} {rn:List Nat} {Lp:List (Value × Value)} {G:WK→List Nat} {B0 bx:Nat} {fr:List Nat} {a:A} {Ae:Option Addr} {ce:Nat} {w0 w:World} (h:jB B sb mu mp nf nr fs bf rn Lp G B0 bx fr a Ae ce w0 w) (hB:B0≤mp) {s:ByteArray} (hs:s.size≤maxLen) (v:Value) (J:∀ p ∈ Lp,p.1 ≠ .string s):
  ∃ I,(Instr.mapUpdate 116 (.map (some mp)) (.string s) v).run Tryz.prog w=.ok () I∧jB B sb mu mp nf nr fs bf rn (Lp ++ [(.string s,v)]) G B0 bx fr a Ae ce w0 I:=by
 obtain ⟨Af,cf,Lf,Ar,cr,Lr,ou,h1,U,h3,h4,h5⟩:=h;obtain ⟨I,r1,r2,y,-⟩:=qg jl (w:=w) trivial Tryz.underlying116 v h1.pl ⟨_,rfl,hs⟩ J;have hz:=h1.oC;exact ⟨I,r1,Af,cf,Lf,Ar,cr,Lr,ou,h1.place r2 y,U,h3.keep (y.block _ (ψ h3.1) (fun e=>U.1.s.2.2 (by injection e))) (fun x hx=>y.block x (h3.2.2.1 x hx) (fun e=>(U.2 x hx).s.2.2 (by injection e))) y.size,h4.grown y (by omega) fun k e=>by injection e with e; omega,h5⟩
structure D.KP (B sb mu mp nf nr:Nat) (fs:List A) (bf:List Nat) (rn:List Nat) (Lp:List (Value × Value)) (G:WK→List Nat) (B0 bx:Nat) (fr:List Nat) (a:A) (Ae:Option Addr) (ce:Nat) (w0:World) (k:WK) (u:Value) (L:List Value) (n:Nat) (w:World):Prop where
 ex:∃ Af cf Lf Ar cr Lr ou w1,kK B sb mu mp Af nf cf Lf fs bf Ar nr cr Lr rn Lp G ou w1∧KO B sb mu mp (.slice Af nf cf) (.slice Ar nr cr) ou bx fr∧BoxOk bx fr a Ae ce w0 w1∧Below B0 w0 w1∧B0≤B∧B0≤mu∧
  Dx B mu G ou k u L n w∧w1.grownBy w (some mu)
theorem D.jB.entry {B sb mu mp nf nr:Nat} {fs:List A} {bf:List Nat} {rn:List Nat} {Lp:List (Value × Value)} {G:WK→List Nat} {B0 bx:Nat} {fr:List Nat} {a:A} {Ae:Option Addr} {ce:Nat} {w0 w:World} (h:jB B sb mu mp nf nr fs bf rn Lp G B0 bx fr a Ae ce w0 w) (hB:B0≤mu) (k:WK):
  ∃ r y,(Instr.mapEntry 125 (.map (some mu)) (.agg #[.string k.name,.int .i64 k.size,.int .i64 k.place,.string k.word])).run Tryz.prog w=.ok r y∧∃ u n L,r=.tuple #[u,.int .i64 (n:Nat)]∧KP B sb mu mp nf nr fs bf rn Lp G B0 bx fr a Ae ce w0 k u L n y∧w.grownBy y (some mu):=by
 obtain ⟨J,cf,Lf,U,cr,Lr,ou,h1,h2,h3,h4,h5⟩:=h;obtain ⟨y,u,n,L,r1,r2,I⟩:=h1.un.entry h1.lo.2.1 k;exact ⟨_,y,r1,u,n,L,rfl,⟨J,cf,Lf,U,cr,Lr,ou,w,h1,h2,h3,h4,h5,hB,r2,I⟩,I⟩
section
variable {B sb mu mp nf nr:Nat} {fs:List A} {bf:List Nat} {rn:List Nat} {Lp:List (Value × Value)} {G:WK→List Nat} {B0 bx:Nat} {fr:List Nat} {a:A} {Ae:Option Addr} {ce:Nat} {w0 w w':World} {k:WK} {u:Value} {L:List Value} {n:Nat}
theorem D.KP.own (h:KP B sb mu mp nf nr fs bf rn Lp G B0 bx fr a Ae ce w0 k u L n w):w.ownsRow B 3 1 u (G k).length L:=by
 obtain ⟨_,_,_,_,_,_,_,_,_,_,_,_,_,_,h,_⟩:=h.ex;exact h.coll.own
theorem D.KP.oC (h:KP B sb mu mp nf nr fs bf rn Lp G B0 bx fr a Ae ce w0 k u L n w):B≤w.heap.size:=by
 obtain ⟨_,_,_,_,_,_,_,I,h1,_,_,_,_,_,_,y⟩:=h.ex;exact τ h1.oC y.size
theorem D.KP.store (h:KP B sb mu mp nf nr fs bf rn Lp G B0 bx fr a Ae ce w0 k u L n w) (hk:Below w.heap.size w w') {A5:Option Addr} {c5 i:Nat} {w5:World} (J:w5.ownsRow B 3 1 (.slice A5 ((G k).length+1) c5) ((G k).length+1) (L ++ [.int .i64 (i:Nat)])) (hg:w'.grownBy w5 u.ownBlock)
  (U:(Value.slice A5 ((G k).length+1) c5).ownBlock=u.ownBlock∨(Value.slice A5 ((G k).length+1) c5).ownBlock=some w'.heap.size):
  ∃ w9,(Instr.entryStore 125 (.map (some mu)) (.int .i64 (n:Nat)) (.slice A5 ((G k).length+1) c5)).run Tryz.prog w5=.ok () w9∧jB B sb mu mp nf nr fs bf rn Lp (Dy G k i) B0 bx fr a Ae ce w0 w9:=by
 obtain ⟨Af,cf,Lf,Ar,cr,Lr,ou,w1,h1,I,h3,h4,h5,h6,h7,h8⟩:=h.ex;have a2:mu < w.heap.size:=by have:=h1.oC; have:=h1.lo.2.1; have:=h8.size; omega
 have a3:∀ x ∈ ou,x < w.heap.size:=fun x y=>κ (h1.ous x y).2 h8.size
 have hP:=h7.keep (w':=w') (hk.block _ a2) fun x y=>hk.block x (a3 x y)
 have hC:aZ 1 wM B 3 w5 (.slice A5 ((G k).length+1) c5) (L ++ [.int .i64 (i:Nat)]) (G k ++ [i]) []:=hP.coll.app iF (aQ.dh F9 ⟨rfl,rfl⟩) (fun b hb=>by simp at hb) J hg U;obtain ⟨w9,a0,r1,r2,r3,r4⟩:=hP.store h1.lo.2.1 hg hC U;have a6:=h8.size;have a7:=hk.size;have a8:=hg.size;have a9:=r3.size;have ku:∀ x,u.ownBlock=some x→x ∈ ou:=hP.own
 have kp:∀ x,x < w1.heap.size→x ≠ mu→x ∉ ou→w9.heap[x]? = w1.heap[x]?:=fun x y a1 a4=>
  (r3.block x (by omega) (fun e=>a1 (by injection e))).trans ((hg.block x (by omega) (fun e=>a4 (ku x e.symm))).trans ((hk.block x (by omega)).trans (h8.block x y (fun e=>a1 (by injection e)))))
 have new:∀ x ∈ a0,x ∈ ou∨(w1.heap.size≤x∧x < w9.heap.size):=fun x y=>by
  rcases r4 x y with g | ⟨g1,g2⟩
  ·exact .inl g
  ·have:=(bG J g1).2
   exact .inr ⟨by omega,by omega⟩
 have a5:=ψ h3.1;have aa:=h1.oC;refine ⟨w9,r1,Af,cf,Lf,Ar,cr,Lr,a0,h1.under (by omega) kp r2 new,⟨⟨I.1.f,I.1.r,fun e=>?_,I.1.s⟩,fun x y=>⟨(I.2 x y).f,(I.2 x y).r,fun e=>?_,(I.2 x y).s⟩⟩,h3.keep (kp bx a5 I.1.s.2.1 I.1.u) (fun x y=>kp x (h3.2.2.1 x y) (I.2 x y).s.2.1 (I.2 x y).u) (by omega),⟨?_,?_,?_,by have:=h4.size; omega,fun x y=>?_⟩,h5⟩
 ·rcases new bx e with g | g
  ·exact I.1.u g
  ·omega
 ·rcases new x e with g | g
  ·exact (I.2 x y).u g
  ·have:=h3.2.2.1 x y; omega
 ·exact r3.os.trans (hg.os.trans (hk.os.trans (h8.os.trans h4.os)))
 ·exact r3.tape.trans (hg.tape.trans (hk.tape.trans (h8.tape.trans h4.tape)))
 ·exact r3.output.trans (hg.output.trans (hk.output.trans (h8.output.trans h4.output)))
 ·exact (kp x (by omega) (by omega) (fun e=>by have:=(h1.ous x e).1; omega)).trans (h4.block x y)
end
section
variable {P:Program} {ops:Array Oper} {rest:List Oper} {o:Oper} {a:Act} {Q:Exit→Act→World→Prop}
end
theorem D.jB.cells {B sb mu mp nf nr:Nat} {fs:List A} {bf:List Nat} {rn:List Nat} {Lp:List (Value × Value)} {G:WK→List Nat} {B0 bx:Nat} {fr:List Nat} {a:A} {Ae:Option Addr} {ce:Nat} {w0 w:World} (h:jB B sb mu mp nf nr fs bf rn Lp G B0 bx fr a Ae ce w0 w):
  w.cell? ⟨sb,2,none⟩=some (.map (some mu))∧w.cell? ⟨sb,3,none⟩=some (.map (some mp))∧w.cell? ⟨bx,0,none⟩=some (.string a.name)∧w.cell? ⟨bx,1,none⟩=some (.slice Ae a.args.length ce)∧sb < w.heap.size∧bx < w.heap.size∧∃ ba,aG w [.string a.name,.slice Ae a.args.length ce] a ba:=by
 obtain ⟨I,cf,Lf,J,U,Lr,ou,h1,h2,y,h4,h5⟩:=h;obtain ⟨ba,g,_⟩:=y.2.1;exact ⟨ai h1.blk,ai h1.blk,ai y.1,ai y.1,ψ h1.blk,ψ y.1,ba,g⟩
theorem put_any (B sb mu mp:Nat) (Af:Option Addr) (cf:Nat) (Lf:List Value) (fs:List A) (bf:List Nat) (Ar:Option Addr) (cr:Nat) (Lr:List Value) (rn:List Nat) (Lp:List (Value × Value)) (ou:List Nat) (a:A) (c1:Value) (ba:List Nat) (fr:List Nat) (rd:Nat) (w:World)
  (S:kK B sb mu mp Af fs.length cf Lf fs bf Ar rn.length cr Lr rn Lp (idxs fs) ou w) (ha:aG w [.string a.name,c1] a ba) (bh:∀ x ∈ ba,x ∈ fr) (bi:∀ x ∈ fr,Free B sb mu mp (.slice Af fs.length cf) (.slice Ar rn.length cr) ou x) (aD:∀ x ∈ fr,x < w.heap.size) (hok:aX a=true) (ca:∀ p ∈ Lp,p.1 ≠ .string (bU a)) (cB:fs.length≤1000000) (cD:rn.length≤1000000) (B0:Nat) (a9:B0≤sb∧B0≤mu∧B0≤mp∧B0≤B):
  Calls Tryz.prog 112 #[.pointer (some ⟨sb,0,none⟩),.agg #[.string a.name,c1],.int .i64 rd] w fun e w'=>e=.returned (.tuple #[])∧Below B0 w w'∧
   ∃ bj bk cb bl bn cc bo,kK B sb mu mp bj (fs.length+1) bk cb (fs ++ [a]) (bf ++ ba) bl (rn.length+1) bn cc (rn ++ [rd]) (Lp ++ [(.string (bU a),.int .i64 (fs.length:Nat))]) (idxs (fs ++ [a])) bo w'∧∀ x ∈ fr,Free B sb mu mp (.slice bj (fs.length+1) bk) (.slice bl (rn.length+1) bn) bo x∧w'.heap[x]? = w.heap[x]?:=by
 obtain ⟨i0,hi,cd,cg,ci⟩:=info_parts OD;obtain ⟨i9,hj,ac,ae,af⟩:=info_parts VS;obtain ⟨Ae,ce,_,rfl⟩:=aY ha;have hA:Below w.heap.size w (w.alloc (.cells #[.string a.name,.slice Ae a.args.length ce] 33)):=ζ;have ag:=S.later hA;have aE:=aj.below ha hA;have bp:(w.alloc (.cells #[.string a.name,.slice Ae a.args.length ce] 33)).heap[w.heap.size]? = some (.cells #[.string a.name,.slice Ae a.args.length ce] 33 (0,0)):=ω _ _;have aw:∀ w2:World,Below (w.alloc (.cells #[.string a.name,.slice Ae a.args.length ce] 33)).heap.size (w.alloc (.cells #[.string a.name,.slice Ae a.args.length ce] 33)) w2→aQ 2 aG w2 [.string a.name,.slice Ae a.args.length ce] [a] ba:=fun w2 h2=>aQ.dh eU (aj.below aE h2)
 have q0:(w.alloc (.cells #[.string a.name,.slice Ae a.args.length ce] 33)).cell? ⟨sb,0,none⟩=some (.slice Af fs.length cf):=ai ag.blk;have q1:(w.alloc (.cells #[.string a.name,.slice Ae a.args.length ce] 33)).frozen? ⟨sb,0,none⟩=false:=ax ag.blk;have q2:sb < (w.alloc (.cells #[.string a.name,.slice Ae a.args.length ce] 33)).heap.size:=ψ ag.blk;have HS:=η ag;have bq:=η bp;have br:=η aw;have cj:=η aE;have HA:=η hA;have bt:Hid (fs.length+1≤maxLen∧(fs.length+1) * 40≤140737488355328):=η (by unfold maxLen; omega);have z0:(w.alloc (.cells #[.string a.name,.slice Ae a.args.length ce] 33)).cell? ⟨w.heap.size,0,none⟩=some (.string a.name):=by go_simp
 have z1:(w.alloc (.cells #[.string a.name,.slice Ae a.args.length ce] 33)).cell? ⟨w.heap.size,1,none⟩=some (.slice Ae a.args.length ce):=by go_simp
 have aL:(w.alloc (.cells #[.string a.name,.slice Ae a.args.length ce] 33)).heap.size=w.heap.size+1:=by simp
 have bu:w.heap.size < (w.alloc (.cells #[.string a.name,.slice Ae a.args.length ce] 33)).heap.size:=by rw [aL]; omega
 have cA:sb < w.heap.size:=ψ S.blk
 have bv:Hid (KO B sb mu mp (.slice Af fs.length cf) (.slice Ar rn.length cr) ou w.heap.size fr):=η (by
  obtain ⟨l1,l2,l3,_⟩:=S.lo;have hs:=S.oC
  exact ⟨⟨fun e=>by have:=(bG S.cF.own e).2; omega,fun e=>by have:=(bG S.cR.own e).2; omega,fun e=>by have:=(S.ous _ e).2; omega,by omega⟩,bi⟩)
 have cE:=η aL;clear S ha hA ag aE bp aw aL
 go_enter Tryz.func112,Tryz.ntmps112
 go_wp2;generalize w.alloc (.cells #[.string a.name,.slice Ae a.args.length ce] 33)=W1 at *;have hL:Below W1.heap.size W1 (W1.drew.alloc (.cells #[.string a.name,.slice Ae a.args.length ce] 33)):=(ϑ.drew).alloc ν _;have a0:=η (HS.out.later hL);have a7:=η (br.out _ hL)
 have am:Hid (Lies (W1.drew.alloc (.cells #[.string a.name,.slice Ae a.args.length ce] 33)) (some ⟨W1.heap.size,0,none⟩) [.string a.name,.slice Ae a.args.length ce]):=η (by
  have:=aS (ω W1.drew (.cells #[.string a.name,.slice Ae a.args.length ce] 33)); simpa using this)
 have bw:(W1.drew.alloc (.cells #[.string a.name,.slice Ae a.args.length ce] 33)).heap[w.heap.size]? = some (.cells #[.string a.name,.slice Ae a.args.length ce] 33 (0,0)):=(hL.block _ bu).trans bq.out;have bz:Hid (BoxOk w.heap.size fr a Ae ce w (W1.drew.alloc (.cells #[.string a.name,.slice Ae a.args.length ce] 33))):=η ⟨bw,⟨ba,aj.below cj.out hL,bh⟩,fun x hx=>κ (κ (aD x hx) HA.out.size) hL.size,fun x hx=>(hL.block x (κ (aD x hx) HA.out.size)).trans (HA.out.block x (aD x hx))⟩;have bA:Hid (Below B0 w (W1.drew.alloc (.cells #[.string a.name,.slice Ae a.args.length ce] 33))):=η ((HA.out.trans (hL.mono HA.out.size)).mono (by omega));clear bw hL
 go_cut [] from 16 to 25 (fun wx=>jB B sb mu mp (fs.length+1) rn.length (fs ++ [a]) (bf ++ ba) rn Lp (idxs fs) B0 w.heap.size fr a Ae ce w wx)
 case first=>
  go_region_law
   (first
    | (refine gB (by rfl) (.tmp 20) (.tmp 22) _ (by rfl) B 33 i0 (.agg #[.string ⟨#[]⟩,.slice none 0 0]) 2 40 Tryz.underlying24 hi cd cg ci rfl (Θ 1) (.slice Af fs.length cf) fs.length Lf (by rfl) a0.out.cF.own (some ⟨W1.heap.size,0,none⟩) 1 1 _ (by rfl) rfl am.out a7.out.one bt.out.1 bt.out.2 a0.out.oC ?_; intro A5 c5 w5 h5 g5 l5; have HZ:=η (jB.fact a0.out bv.out bz.out bA.out a9 a7.out h5 g5 l5 fun x hx=>bi x (bh x hx)); replace q0:=HZ.out.1; replace q1:=HZ.out.2.1; clear h5 g5 l5))
  all_goals
   have ck:=η HZ.out.2.2;clear q0 q1 HZ
   go_wp2_with fail
   go_meet
   exact ck.out
 case rest=>
  clear a0 a7 am bz bA HS bv q0 q1 q2 z0 z1 bq;obtain ⟨cG,cI,cJ,bB,bE,cl,cK,S2,F2,X2,B2,_⟩:=hcut;have aa:Below wc.heap.size wc (wc.alloc (.cells #[.int .i64 rd] 3)):=ζ;have cL:=S2.oC;have a0:=η (S2.later aa);have bL:=η F2;have bO:=η (X2.keep (aa.block _ (ψ X2.1)) (fun x hx=>aa.block x (X2.2.2.1 x hx)) aa.size);have ab:=η (B2.trans (aa.mono (by omega)));have a7:Hid (aQ 1 wM (wc.alloc (.cells #[.int .i64 rd] 3)) [.int .i64 (rd:Nat)] [rd] []):=η (aQ.dh F9 ⟨rfl,rfl⟩)
  have am:Hid (Lies (wc.alloc (.cells #[.int .i64 rd] 3)) (some ⟨wc.heap.size,0,none⟩) [.int .i64 (rd:Nat)]):=η (by
   have:=aS (ω wc (.cells #[.int .i64 rd] 3)); simpa using this)
  have bR:Hid (rn.length+1≤maxLen∧(rn.length+1) * 8≤140737488355328):=η (by unfold maxLen; omega);have q0:wc.cell? ⟨sb,1,none⟩=some (.slice bB rn.length bE):=ai S2.blk;have q1:wc.frozen? ⟨sb,1,none⟩=false:=ax S2.blk;have q2:sb < wc.heap.size:=ψ S2.blk;clear S2 F2 X2 B2 aa
  go_wp2_with (first | (at_builtin; refine um (by rfl) (.tmp 30) (.tmp 32) _ (by rfl) B 3 i9 (.int .i64 0) 1 8 Tryz.underlying49 hj ac ae af rfl (Θ 0) (.slice bB rn.length bE) rn.length cl (by rfl) a0.out.cR.own (some ⟨wc.heap.size,0,none⟩) 1 1 _ (by rfl) rfl am.out a7.out.one bR.out.1 bR.out.2 a0.out.oC ?_; intro A5 c5 w5 h5 g5 l5; have HZ:=η (jB.round a0.out bL.out bO.out ab.out a9 a7.out h5 g5 l5); replace q0:=HZ.out.1; replace q1:=HZ.out.2.1; clear h5 g5 l5) | go_in)
  have aM:=η HZ.out.2.2;clear q0 q1 q2 HZ a0 bL bO ab a7 am;generalize (w5.setCell ⟨sb,1,none⟩ (.slice A5 (rn.length+1) c5))=W3 at *;obtain ⟨_,y3,y4,y5,y6,y7,cm,az⟩:=aM.out.cells;have hT:=η (mF a (.string a.name) (.slice Ae a.args.length ce) cm W3.drew (aj.keep az fun _ _=>rfl) (by have:=zW hok; omega));have bX:Hid (∀ w2:World,Below W3.heap.size W3 w2→∃ w9,(Instr.mapUpdate 116 (.map (some mp)) (.string ⟨(uz a).toArray⟩) (.int .i64 fs.length)).run Tryz.prog w2=.ok () w9∧jB B sb mu mp (fs.length+1) (rn.length+1) (fs ++ [a]) (bf ++ ba) (rn ++ [rd]) (Lp ++ [(.string (bU a),.int .i64 (fs.length:Nat))]) (idxs fs) B0 w.heap.size fr a Ae ce w w9):=η fun w2 h2=>(aM.out.later h2).place a9.2.2.1 (nN hok) _ ca
  clear az
  go_cut [] from 36 to 42 (fun wx=>jB B sb mu mp (fs.length+1) (rn.length+1) (fs ++ [a]) (bf ++ ba) (rn ++ [rd]) (Lp ++ [(.string (bU a),.int .i64 (fs.length:Nat))]) (idxs fs) B0 w.heap.size fr a Ae ce w wx)
  case first=>
   go_region_law
    (first
     | (go_simp; go_at_call 61; refine hT.out.mono ?_; rintro e w2 ⟨rfl,c3⟩; have ab:=η ((Below.refl W3.heap.size W3).drew.trans c3); replace y3:=ξ ab.out y3; obtain ⟨w9,cn,y⟩:=bX.out w2 ab.out; have a8:=η y; clear c3 y))
   all_goals
    clear y3 y4 y5 cn ab
    go_wp2_with fail
    go_meet
    exact a8.out
  case rest=>
   have aR:=η hcut;clear hcut aM hT bX y3 y4 y5 y6 y7;obtain ⟨y2,_,y4,y5,y6,y7,_⟩:=aR.out.cells;have b3:Below wc.heap.size wc (wc.alloc (.cells #[.string a.name,.int .i64 a.args.length,.int .i64 (-1),.string ⟨#[]⟩] 236)):=ζ;have b4:=η (aR.out.later b3);have k0:(wc.alloc (.cells #[.string a.name,.int .i64 a.args.length,.int .i64 (-1),.string ⟨#[]⟩] 236)).cell? ⟨wc.heap.size,0,none⟩=some (.string a.name):=by go_simp
   have k1:(wc.alloc (.cells #[.string a.name,.int .i64 a.args.length,.int .i64 (-1),.string ⟨#[]⟩] 236)).cell? ⟨wc.heap.size,1,none⟩=some (.int .i64 a.args.length):=by go_simp
   have k2:(wc.alloc (.cells #[.string a.name,.int .i64 a.args.length,.int .i64 (-1),.string ⟨#[]⟩] 236)).cell? ⟨wc.heap.size,2,none⟩=some (.int .i64 (-1)):=by go_simp
   have k3:(wc.alloc (.cells #[.string a.name,.int .i64 a.args.length,.int .i64 (-1),.string ⟨#[]⟩] 236)).cell? ⟨wc.heap.size,3,none⟩=some (.string ⟨#[]⟩):=by go_simp
   have x2:=ξ b3 y2;have kz:=lt_of_cell k0;have sz:sb < (wc.alloc (.cells #[.string a.name,.int .i64 a.args.length,.int .i64 (-1),.string ⟨#[]⟩] 236)).heap.size:=by simp; omega
   clear b3;go_wp2;generalize wc.alloc (.cells #[.string a.name,.int .i64 a.args.length,.int .i64 (-1),.string ⟨#[]⟩] 236)=W5 at *;have b1:Below W5.heap.size W5 W5.drew:=ϑ.drew;have b2:Below W5.heap.size W5 (W5.alloc (.cells #[.int .i64 fs.length] 3)).drew:=(ζ).drew;have co:=η (ι b1 b2);have b5:Hid (∀ w':World,Below W5.heap.size W5 w'→∃ r w9,(Instr.mapEntry 125 (.map (some mu)) (.agg #[.string a.name,.int .i64 a.args.length,.int .i64 (-1),.string ⟨#[]⟩])).run Tryz.prog w'=.ok r w9∧∃ u n L,r=.tuple #[u,.int .i64 (n:Nat)]∧KP B sb mu mp (fs.length+1) (rn.length+1) (fs ++ [a]) (bf ++ ba) (rn ++ [rd]) (Lp ++ [(.string (bU a),.int .i64 (fs.length:Nat))]) (idxs fs) B0 w.heap.size fr a Ae ce w ⟨a.name,a.args.length,-1,⟨#[]⟩⟩ u L n w9∧w'.grownBy w9 (some mu)):=η fun w' h'=>(b4.out.later h').entry a9.2.1 ⟨a.name,a.args.length,-1,⟨#[]⟩⟩
   have av:Hid (mu < W5.heap.size):=η (by
    obtain ⟨_,_,_,_,_,_,_,h1,_⟩:=b4.out
    have:=h1.oC; have:=h1.lo.2.1; omega)
   have c4:Hid ((W5.alloc (.cells #[.int .i64 fs.length] 3)).drew.heap[W5.heap.size]? = some (.cells #[.int .i64 fs.length] 3 (0,0))):=η (ω W5 _)
   have U:Hid ((idxs fs ⟨a.name,a.args.length,-1,⟨#[]⟩⟩).length+1≤maxLen∧((idxs fs ⟨a.name,a.args.length,-1,⟨#[]⟩⟩).length+1) * 8≤140737488355328):=η (by
    have:=lW fs ⟨a.name,a.args.length,-1,⟨#[]⟩⟩
    unfold maxLen; omega)
   obtain ⟨_,ao,a1,u1,n1,L1,rfl,a3,ap⟩:=b5.out _ b1;obtain ⟨_,b6,a2,u2,n2,L2,rfl,a4,a5⟩:=b5.out _ b2;have I:=η a3;have J:=η a4
   have a6:Hid (Lies b6 (some ⟨W5.heap.size,0,none⟩) [.int .i64 (fs.length:Nat)]):=η (by
    have hh:=(a5.block W5.heap.size (by simp) (fun e=>by have:=av.out; injection e with e; omega)).trans c4.out
    have:=aS hh; simpa using this)
   clear b1 b2 a3 a4 ap a5
   go_cut [] from 49 to 59 (fun wx=>jB B sb mu mp (fs.length+1) (rn.length+1) (fs ++ [a]) (bf ++ ba) (rn ++ [rd]) (Lp ++ [(.string (bU a),.int .i64 (fs.length:Nat))]) (Dy (idxs fs) ⟨a.name,a.args.length,-1,⟨#[]⟩⟩ fs.length) B0 w.heap.size fr a Ae ce w wx)
   case first=>
    go_region_law
     (first
      | (refine gB (by rfl) (.tmp 54) (.tmp 56) _ (by rfl) B 3 i9 (.int .i64 0) 1 8 Tryz.underlying49 hj ac ae af rfl (Θ 0) u2 (idxs fs ⟨a.name,a.args.length,-1,⟨#[]⟩⟩).length L2 (by rfl) J.out.own (some ⟨W5.heap.size,0,none⟩) 1 1 [.int .i64 (fs.length:Nat)] (by rfl) rfl a6.out (by simp [Value.oneCell']) U.out.1 U.out.2 J.out.oC ?_; intro A6 c6 w6 h6 g6 l6; obtain ⟨w9,aq,y⟩:=J.out.store ϑ h6 g6 l6; have a8:=η y; clear h6 g6 l6 y)
      | (refine gB (by rfl) (.tmp 54) (.tmp 56) _ (by rfl) B 3 i9 (.int .i64 0) 1 8 Tryz.underlying49 hj ac ae af rfl (Θ 0) u1 (idxs fs ⟨a.name,a.args.length,-1,⟨#[]⟩⟩).length L1 (by rfl) (I.out.UQ (ζ)) (some ⟨ao.heap.size,0,none⟩) 1 1 [.int .i64 (fs.length:Nat)] (by rfl) rfl (by have:=aS (ω ao (.cells #[.int .i64 fs.length] 3)); simpa using this) (by simp [Value.oneCell']) U.out.1 U.out.2 (τ I.out.oC (by simp)) ?_; intro A6 c6 w6 h6 g6 l6; obtain ⟨w9,aq,y⟩:=I.out.store (ζ) h6 g6 l6; have a8:=η y; clear h6 g6 l6 y))
    all_goals
     clear aq
     go_wp2_with fail
     go_meet
     exact a8.out
   case rest=>
    rw [Uh] at hcut;have c7:=η hcut;obtain ⟨_,_,y4,y5,y6,y7,_⟩:=hcut.cells;have cP:=NR hok;clear hcut aR b4 k0 k1 k2 k3 x2 kz sz a1 a2 I J a6 b5 co c4 U av y2;go_wp2
    go_loopw [63] (fun i wr=>∃ (k:Nat),k≤a.args.length∧i=.int .i64 k∧jB B sb mu mp (fs.length+1) (rn.length+1) (fs ++ [a]) (bf ++ ba) (rn ++ [rd]) (Lp ++ [(.string (bU a),.int .i64 (fs.length:Nat))]) (tJ (idxs fs) a fs.length (k+1)) B0 w.heap.size fr a Ae ce w wr) (fun i _=>a.args.length - (intOf i).toNat)
    case atStart=>exact ⟨0,ε,rfl,c7.out⟩
    case round=>
     obtain ⟨k,hk,rfl,hI⟩:=hrel;clear c7 y4 y5 y6 y7;by_cases ar:k < a.args.length
     ·obtain ⟨y2,_,y4,y5,y6,y7,cQ,c8⟩:=hI.cells
      obtain ⟨b8,o8,rfl,_,f0,f1,_⟩:=dY (dm c8) ar;have cT:(0:Int)≤(k:Int):=by omega
      have cp:(k:Int) < (a.args.length:Int):=by omega
      have b7:Hid (∀ w9,jB B sb mu mp (fs.length+1) (rn.length+1) (fs ++ [a]) (bf ++ ba) (rn ++ [rd]) (Lp ++ [(.string (bU a),.int .i64 (fs.length:Nat))]) (Dy (tJ (idxs fs) a fs.length (k+1)) ⟨a.name,a.args.length,k,a.args[k].name⟩ fs.length) B0 w.heap.size fr a (some ⟨b8,o8,none⟩) ce w w9→jB B sb mu mp (fs.length+1) (rn.length+1) (fs ++ [a]) (bf ++ ba) (rn ++ [rd]) (Lp ++ [(.string (bU a),.int .i64 (fs.length:Nat))]) (tJ (idxs fs) a fs.length (k+1+1)) B0 w.heap.size fr a (some ⟨b8,o8,none⟩) ce w w9):=η fun w9 h9=>by
       rw [← OE a k ar,Gf] at h9; exact h9
      have U:Hid ((tJ (idxs fs) a fs.length (k+1) ⟨a.name,a.args.length,k,a.args[k].name⟩).length+1≤maxLen∧((tJ (idxs fs) a fs.length (k+1) ⟨a.name,a.args.length,k,a.args[k].name⟩).length+1) * 8≤140737488355328):=η (by
       rw [← OE a k ar,KN];have:=lW fs ((keysOf a)[k+1]'(by rw [xA]; omega))
       unfold maxLen; omega)
      have c9:=η ar;have HI:=η hI;clear hI c8 hk;generalize a.args[k]=t at *;clear ar;have b9:Below wr.heap.size wr ((wr.alloc (.cells #[.bool t.var,.string t.name] 91)).alloc (.cells #[.string a.name,.int .i64 a.args.length,.int .i64 k,.string t.name] 236)):=(ζ).alloc (by simp) _;have bc:=η (HI.out.later b9);have x2:=ξ b9 y2;have bg:((wr.alloc (.cells #[.bool t.var,.string t.name] 91)).alloc (.cells #[.string a.name,.int .i64 a.args.length,.int .i64 k,.string t.name] 236)).heap.size=wr.heap.size+2:=by simp
      have k0:((wr.alloc (.cells #[.bool t.var,.string t.name] 91)).alloc (.cells #[.string a.name,.int .i64 a.args.length,.int .i64 k,.string t.name] 236)).cell? ⟨wr.heap.size+1,0,none⟩=some (.string a.name):=by go_simp
      have k1:((wr.alloc (.cells #[.bool t.var,.string t.name] 91)).alloc (.cells #[.string a.name,.int .i64 a.args.length,.int .i64 k,.string t.name] 236)).cell? ⟨wr.heap.size+1,1,none⟩=some (.int .i64 a.args.length):=by go_simp
      have k2:((wr.alloc (.cells #[.bool t.var,.string t.name] 91)).alloc (.cells #[.string a.name,.int .i64 a.args.length,.int .i64 k,.string t.name] 236)).cell? ⟨wr.heap.size+1,2,none⟩=some (.int .i64 k):=by go_simp
      have k3:((wr.alloc (.cells #[.bool t.var,.string t.name] 91)).alloc (.cells #[.string a.name,.int .i64 a.args.length,.int .i64 k,.string t.name] 236)).cell? ⟨wr.heap.size+1,3,none⟩=some (.string t.name):=by go_simp
      have kz:wr.heap.size+1 < ((wr.alloc (.cells #[.bool t.var,.string t.name] 91)).alloc (.cells #[.string a.name,.int .i64 a.args.length,.int .i64 k,.string t.name] 236)).heap.size:=by rw [bg]; omega
      have sz:sb < ((wr.alloc (.cells #[.bool t.var,.string t.name] 91)).alloc (.cells #[.string a.name,.int .i64 a.args.length,.int .i64 k,.string t.name] 236)).heap.size:=by rw [bg]; omega
      clear b9 bg;go_wp2;generalize ((wr.alloc (.cells #[.bool t.var,.string t.name] 91)).alloc (.cells #[.string a.name,.int .i64 a.args.length,.int .i64 k,.string t.name] 236))=W5 at *;have b1:Below W5.heap.size W5 W5.drew:=ϑ.drew;have b2:Below W5.heap.size W5 (W5.alloc (.cells #[.int .i64 fs.length] 3)).drew:=(ζ).drew
      have av:Hid (mu < W5.heap.size):=η (by
       obtain ⟨_,_,_,_,_,_,_,h1,_⟩:=bc.out
       have:=h1.oC; have:=h1.lo.2.1; omega)
      obtain ⟨_,ao,a1,u1,n1,L1,rfl,a3,ap⟩:=(bc.out.later b1).entry a9.2.1 ⟨a.name,a.args.length,k,t.name⟩;obtain ⟨_,b6,a2,u2,n2,L2,rfl,a4,a5⟩:=(bc.out.later b2).entry a9.2.1 ⟨a.name,a.args.length,k,t.name⟩;dsimp only at a1 a2;have I:=η a3;have J:=η a4
      have a6:Hid (Lies b6 (some ⟨W5.heap.size,0,none⟩) [.int .i64 (fs.length:Nat)]):=η (by
       have hh:=(a5.block W5.heap.size (by simp) (fun e=>by have:=av.out; injection e with e; omega)).trans (ω W5 (.cells #[.int .i64 fs.length] 3))
       have:=aS hh; simpa using this)
      clear b1 b2 a3 a4 ap a5
      go_region_law
       (first
        | (refine gB (by rfl) (.tmp 82) (.tmp 84) _ (by rfl) B 3 i9 (.int .i64 0) 1 8 Tryz.underlying49 hj ac ae af rfl (Θ 0) u2 _ L2 (by rfl) J.out.own (some ⟨W5.heap.size,0,none⟩) 1 1 [.int .i64 (fs.length:Nat)] (by rfl) rfl a6.out (by simp [Value.oneCell']) U.out.1 U.out.2 J.out.oC ?_; intro A6 c6 w6 h6 g6 l6; obtain ⟨w9,aq,y⟩:=J.out.store ϑ h6 g6 l6; have a8:=η (b7.out _ y); clear h6 g6 l6 y)
        | (refine gB (by rfl) (.tmp 82) (.tmp 84) _ (by rfl) B 3 i9 (.int .i64 0) 1 8 Tryz.underlying49 hj ac ae af rfl (Θ 0) u1 _ L1 (by rfl) (I.out.UQ (ζ)) (some ⟨ao.heap.size,0,none⟩) 1 1 [.int .i64 (fs.length:Nat)] (by rfl) rfl (by have:=aS (ω ao (.cells #[.int .i64 fs.length] 3)); simpa using this) (by simp [Value.oneCell']) U.out.1 U.out.2 (τ I.out.oC (by simp)) ?_; intro A6 c6 w6 h6 g6 l6; obtain ⟨w9,aq,y⟩:=I.out.store (ζ) h6 g6 l6; have a8:=η (b7.out _ y); clear h6 g6 l6 y))
      all_goals
       clear aq x2 k0 k1 k2 k3 a1 a2 I J a6 b7 U;go_wp2;go_roundw
       case rel=>exact ⟨k+1,c9.out,by go_num,a8.out⟩
       case measure=>have:=c9.out; simp [intOf]; omega
     ·have he:k=a.args.length:=by omega
      subst he;have cp:¬ (a.args.length:Int) < (a.args.length:Int):=by omega
      rw [Ui] at hI;have HD:=η hI;clear hI;go_wp2
      go_end0
      obtain ⟨cq,cu,cv,cw,cx,cy,cz,h1,h2,h3,h4,h5⟩:=HD.out;exact ⟨rfl,h4,cq,cu,cv,cw,cx,cy,cz,h1,fun x hx=>⟨h2.2 x hx,h3.2.2.2 x hx⟩⟩
def D.eu (rs:List Ru) (xs:List A):Bool:=decide (dV rs=0) && (okB xs && decide (xs.length≤40)) && mP (aF rs) xs
def D.kV (rs:List Ru) (xs:List A):List A × Bool:=if eu rs xs then (if (dW rs xs).2 then ((dW rs xs).1.1,true) else ([],false)) else ([],false)
theorem Uj (rs:List Ru) (xs:List A) (v1 v2:Value) (b1 b2:List Nat) (w:World) (h:dS w [v1] rs b1) (h2:aU w [v2] xs b2):
  Calls Tryz.prog 55 #[v1,v2] w fun e w'=>e=.returned (.bool (eu rs xs))∧Below w.heap.size w w':=by
 have c1:=rE rs v1 b1 w h;have C2:=η fun w' (J:Below w.heap.size w w')=>Tt xs v2 b2 40 w' (au.below h2 J) (by omega)
 have C3:=η fun w' (J:Below w.heap.size w w') (hn:(aF rs).length≤1000000)=>P7 rs xs v1 v2 b1 b2 w' (bJ.below h J) (au.below h2 J) hn
 have a2:(dV rs:Int)≤5:=by have:=Jy rs; omega
 clear h h2;by_cases U:dV rs=0
 ·have hn:(aF rs).length≤1000000:=by have h1:=(lN rs).1 U; have:=(kQ h1.ok).2; have:=h1.few; omega
  have C4:=η fun w' J=>C3.out w' J hn
  have HZ:Hid (eu rs xs=((okB xs && decide (xs.length≤40)) && mP (aF rs) xs)):=η (by unfold eu; rw [decide_eq_true U,Bool.true_and]);rw [U] at c1;clear U hn C3 a2;generalize mP (aF rs) xs=z at *
  go_enter Tryz.func55,Tryz.ntmps55
  go_wp2_with fail
  refine c1.mono ?_;rintro e w1 ⟨rfl,y⟩;clear c1
  go_wp2_with fail
  refine (C2.out _ y).mono ?_;rintro e w2 ⟨rfl,a0⟩;have B2:=y.trans (a0.mono y.size);clear C2 y a0;cases hx:(okB xs && decide (xs.length≤40))
  ·have I:Hid (eu rs xs=false):=η (by rw [HZ.out,hx]; rfl)
   clear HZ hx C4;go_wp2;go_ret;exact ⟨aJ I.out.symm,B2⟩
  ·have I:Hid (eu rs xs=z):=η (by rw [HZ.out,hx]; rfl)
   clear HZ hx
   go_wp2_with fail
   refine (C4.out _ B2).mono ?_;rintro e w3 ⟨rfl,a1⟩;have B3:=B2.trans (a1.mono B2.size);clear C4 a1;go_wp2;go_ret;exact ⟨aJ I.out.symm,B3⟩
 ·have I:Hid (eu rs xs=false):=η (by unfold eu; rw [decide_eq_false U]; rfl)
  have a3:¬ (dV rs:Int)=0:=by omega
  clear U C2 C3
  go_enter Tryz.func55,Tryz.ntmps55
  go_wp2_with fail
  refine c1.mono ?_;rintro e w1 ⟨rfl,y⟩;go_wp2;go_ret;exact ⟨aJ I.out.symm,y⟩
theorem D.DN {a:A} (h:aX a=true):a.args.length≤3:=by
 unfold aX at h;simp only [ο,decide_eq_true_eq] at h;exact h.1.2
theorem D.Uk {r:Ru} (h:dN r=true):r.body.length≤4∧r.head.args.length≤1000∧∀ p ∈ r.body,p.atom.args.length≤1000:=by
 unfold dN mD at h;simp only [ο,decide_eq_true_eq,List.all_eq_true] at h;exact ⟨h.1.1,τ (DN h.2) (by omega),fun p y=>τ (DN (h.1.2 p y)) (by omega)⟩
structure D.KQ (rs:List Ru) (xs:List A):Prop where
 fK:fK xs=true
 n:xs.length≤40
 m:rs.length≤8
 ok:rs.all dN=true
 facts:∀ a ∈ xs,dX a=true
 fine:Fine rs
 fit:mP (aF rs) xs=true
theorem D.qw {rs:List Ru} {xs:List A} (h:eu rs xs=true):KQ rs xs:=by
 unfold eu okB at h;simp only [ο,decide_eq_true_eq,List.all_eq_true] at h;have hf:=(lN rs).1 h.1.1;exact ⟨h.1.2.1.2,h.1.2.2,hf.few,hf.ok,h.1.2.1.1,hf,h.2⟩
theorem D.KQ.rules {rs:List Ru} {xs:List A} (h:KQ rs xs):∀ r ∈ rs,r.body.length≤4∧r.head.args.length≤1000∧∀ p ∈ r.body,p.atom.args.length≤1000:=fun r hr=>Uk (List.all_eq_true.1 h.ok r hr)
theorem D.KQ.args {rs:List Ru} {xs:List A} (h:KQ rs xs):∀ a ∈ xs,a.args.length≤1000:=fun a ha=>τ (O6 (h.facts a ha)) (by omega)
end Go.Proofs.YtkjinanbccloeaaGreatDoor
