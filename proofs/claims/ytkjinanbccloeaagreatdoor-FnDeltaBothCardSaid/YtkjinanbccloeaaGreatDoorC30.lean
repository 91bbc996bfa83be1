/- Of the proof of FnDeltaBoth: StPI, EvalS, StoQ, RunP3. -/
import Derived.Test.YtkjinanbccloeaaGreatDoorC29
set_option linter.unusedVariables false
set_option maxHeartbeats 4000000
set_option maxRecDepth 100000
namespace Go.Proofs.YtkjinanbccloeaaGreatDoor
section
open Go.RowKit D
attribute [local go_sem ↓] Go.wp_at_zero Go.wp_at_succ
theorem Qv:(Tryz.prog.info? 33).map (fun i=>(i.zero,i.size,i.bytes))=some (some (.agg #[.string ⟨#[]⟩,.slice none 0 0]),2,40):=by kernel_rfl
theorem Xx:(Tryz.prog.info? 3).map (fun i=>(i.zero,i.size,i.bytes))=some (some (.int .i64 0),1,8):=by kernel_rfl
theorem D.IQ:Dc 1 yT:=fun h=>by obtain ⟨rfl,_⟩:=h; simp [Value.oneCell']
def D.wH (G:WK→List Nat) (a:A) (i j:Nat):WK→List Nat:=fun k=>if k ∈ (keysOf a).take j then G k ++ [i] else G k
theorem D.PK {a:A} (h:bU a=true):(a.args.length:Int)≤3:=by
 unfold bU at h;simp only [ο,decide_eq_true_eq] at h;have:=h.1.2;omega
theorem D.PL (a:A):(keysOf a).Nodup:=by
 unfold keysOf;refine List.nodup_cons.2 ⟨fun h=>?_,?_⟩
 ·obtain ⟨i,y,e⟩:=List.mem_mapIdx.1 h
  simp at e
 ·refine List.pairwise_iff_getElem.2 fun i j y J I e=>?_
  simp at e;omega
theorem D.zF (a:A):(keysOf a).length=a.args.length+1:=by simp [keysOf]
theorem D.Qw (a:A) (j:Nat) (h:j < a.args.length):(keysOf a)[j+1]'(by rw [zF]; omega)=⟨a.name,a.args.length,j,a.args[j].name⟩:=by simp [keysOf]
theorem D.NE (G:WK→List Nat) (a:A) (i j:Nat) (h:j < (keysOf a).length):wH G a i j (keysOf a)[j]=G (keysOf a)[j]:=by
 unfold wH;rw [if_neg];intro hm;obtain ⟨m,I,y⟩:=List.getElem_of_mem hm;simp at I y;exact List.pairwise_iff_getElem.1 (PL a) m j (by omega) h (by omega) y
theorem D.IU (G:WK→List Nat) (a:A) (i j:Nat) (h:j < (keysOf a).length):FU (wH G a i j) (keysOf a)[j] i=wH G a i (j+1):=by
 funext k
 unfold FU;by_cases e:k=(keysOf a)[j]
 ·rw [if_pos e,NE G a i j h,e]
  unfold wH;rw [if_pos (by rw [ρ h]; exact Ω _ (List.mem_singleton_self _))]
 ·rw [if_neg e]
  unfold wH
  have:k ∈ (keysOf a).take (j+1) ↔ k ∈ (keysOf a).take j:=by
   rw [ρ h,μ,ώ];exact ⟨fun g=>g.resolve_right e,.inl⟩
  simp only [this]
theorem D.VI (G:WK→List Nat) (a:A) (i:Nat):FU G ⟨a.name,a.args.length,-1,⟨#[]⟩⟩ i=wH G a i 1:=by
 have h:=IU G a i 0 (by rw [zF]; omega);have e:wH G a i 0=G:=by funext k; unfold wH; simp
 rw [e] at h;exact h
theorem D.VJ (fs:List A) (a:A):wH (idxs fs) a fs.length (a.args.length+1)=idxs (fs ++ [a]):=by
 funext k
 unfold wH;rw [ϕ (by rw [zF]; omega),SC]
 split <;> simp
def D.BoxOk (bx:Nat) (fr:List Nat) (a:A) (Ae:Option Addr) (ce:Nat) (w0 w:World):Prop:=w.heap[bx]? = some (.cells #[.string a.name,.slice Ae a.args.length ce] 33 (0,0))∧(∃ ba,aK w [.string a.name,.slice Ae a.args.length ce] a ba∧∀ x ∈ ba,x ∈ fr)∧(∀ x ∈ fr,x < w.heap.size)∧∀ x ∈ fr,w.heap[x]? = w0.heap[x]?
theorem D.BoxOk.keep {bx:Nat} {fr:List Nat} {a:A} {Ae:Option Addr} {ce:Nat} {w0 w w':World} (h:BoxOk bx fr a Ae ce w0 w) (h1:w'.heap[bx]? = w.heap[bx]?) (I:∀ x ∈ fr,w'.heap[x]? = w.heap[x]?) (U:w.heap.size≤w'.heap.size):BoxOk bx fr a Ae ce w0 w':=by
 obtain ⟨g1,⟨ba,g2,J⟩,g4,g5⟩:=h;exact ⟨h1.trans g1,⟨ba,au.keep g2 fun x y=>I x (J x y),J⟩,fun x y=>κ (g4 x y) U,fun x y=>(I x y).trans (g5 x y)⟩
def D.NG (B sb mu mp:Nat) (y I:Value) (J:List Nat) (bx:Nat) (fr:List Nat):Prop:=Free B sb mu mp y I J bx∧∀ x ∈ fr,Free B sb mu mp y I J x
def D.kF (B sb mu mp nf nr:Nat) (fs:List A) (bf:List Nat) (rn:List Nat) (Lp:List (Value × Value)) (G:WK→List Nat) (B0 bx:Nat) (fr:List Nat) (a:A) (Ae:Option Addr) (ce:Nat) (w0 w:World):Prop:=
 ∃ y cf Lf I J Lr U,lT B sb mu mp y nf cf Lf fs bf I nr J Lr rn Lp G U w∧NG B sb mu mp (.slice y nf cf) (.slice I nr J) U bx fr∧BoxOk bx fr a Ae ce w0 w∧Below B0 w0 w∧B0≤B
theorem D.kF.fact {B sb mu mp nf nr cf:Nat} {J Ar:Option Addr} {cr:Nat} {Lf Lr:List Value} {fs:List A} {bf:List Nat} {rn:List Nat} {Lp:List (Value × Value)} {G:WK→List Nat} {ou:List Nat} {B0 bx:Nat} {fr:List Nat} {a:A} {Ae:Option Addr} {ce:Nat} {w0 w:World}
  (h:lT B sb mu mp J nf cf Lf fs bf Ar nr cr Lr rn Lp G ou w) (hf:NG B sb mu mp (.slice J nf cf) (.slice Ar nr cr) ou bx fr) (hx:BoxOk bx fr a Ae ce w0 w) (hb:Below B0 w0 w) (I:B0≤sb∧B0≤mu∧B0≤mp∧B0≤B)
  {w5:World} {U:Option Addr} {c5:Nat} {cs:List Value} {ba:List Nat} (a0:aW 2 aK w cs [a] ba)
  (a1:w5.ownsRow B 33 2 (.slice U (nf+1) c5) (nf+1) (Lf ++ cs)) (hg:w.grownBy w5 (Value.slice J nf cf).ownBlock) (a2:(Value.slice U (nf+1) c5).ownBlock=(Value.slice J nf cf).ownBlock∨(Value.slice U (nf+1) c5).ownBlock=some w.heap.size)
  (a3:∀ x ∈ ba,Free B sb mu mp (.slice J nf cf) (.slice Ar nr cr) ou x):w5.cell? ⟨sb,0,none⟩=some (.slice J nf cf)∧w5.frozen? ⟨sb,0,none⟩=false∧kF B sb mu mp (nf+1) nr (fs ++ [a]) (bf ++ ba) rn Lp G B0 bx fr a Ae ce w0 (w5.setCell ⟨sb,0,none⟩ (.slice U (nf+1) c5)):=by
 obtain ⟨z1,z2,z3,z4,z5⟩:=h.fact a0 a1 hg a2 a3;have a4:=ψ hx.1;have hs:=h.qH;refine ⟨z1,z2,U,c5,_,Ar,cr,Lr,ou,z3,⟨⟨fun e=>?_,hf.1.r,hf.1.u,hf.1.s⟩,fun x y=>⟨fun e=>?_,(hf.2 x y).r,(hf.2 x y).u,(hf.2 x y).s⟩⟩,hx.keep (z4 bx a4 hf.1.f hf.1.s.1) (fun x y=>z4 x (hx.2.2.1 x y) (hf.2 x y).f (hf.2 x y).s.1) (by have:=hg.size; simp [World.setCell]; omega),?_,I.2.2.2⟩
 ·rcases z5 bx e with e | e
  ·exact hf.1.f e
  ·omega
 ·rcases z5 x e with e | e
  ·exact (hf.2 x y).f e
  ·have:=hx.2.2.1 x y; omega
 ·have a5:Below B0 w0 w5:=hb.grown hg (τ I.2.2.2 hs) fun k e=>τ I.2.2.2 (bZ h.cF.own e).1
  exact a5.setCell (p:=⟨sb,0,none⟩) I.1 _
theorem D.kF.round {B sb mu mp nf nr cf:Nat} {Af J:Option Addr} {U:Nat} {Lf Lr:List Value} {fs:List A} {bf:List Nat} {rn:List Nat} {Lp:List (Value × Value)} {G:WK→List Nat} {ou:List Nat} {B0 bx:Nat} {fr:List Nat} {a:A} {Ae:Option Addr} {ce:Nat} {w0 w:World}
  (h:lT B sb mu mp Af nf cf Lf fs bf J nr U Lr rn Lp G ou w) (hf:NG B sb mu mp (.slice Af nf cf) (.slice J nr U) ou bx fr) (hx:BoxOk bx fr a Ae ce w0 w) (hb:Below B0 w0 w) (I:B0≤sb∧B0≤mu∧B0≤mp∧B0≤B)
  {w5:World} {A5:Option Addr} {c5:Nat} {cs:List Value} {i:Nat} (a0:aW 1 yT w cs [i] [])
  (a1:w5.ownsRow B 3 1 (.slice A5 (nr+1) c5) (nr+1) (Lr ++ cs)) (hg:w.grownBy w5 (Value.slice J nr U).ownBlock) (a2:(Value.slice A5 (nr+1) c5).ownBlock=(Value.slice J nr U).ownBlock∨(Value.slice A5 (nr+1) c5).ownBlock=some w.heap.size):
  w5.cell? ⟨sb,1,none⟩=some (.slice J nr U)∧w5.frozen? ⟨sb,1,none⟩=false∧kF B sb mu mp nf (nr+1) fs bf (rn ++ [i]) Lp G B0 bx fr a Ae ce w0 (w5.setCell ⟨sb,1,none⟩ (.slice A5 (nr+1) c5)):=by
 obtain ⟨z1,z2,z3,z4,z5⟩:=h.round a0 a1 hg a2;have a3:=ψ hx.1;have hs:=h.qH;refine ⟨z1,z2,Af,cf,Lf,A5,c5,_,ou,z3,⟨⟨hf.1.f,fun e=>?_,hf.1.u,hf.1.s⟩,fun x y=>⟨(hf.2 x y).f,fun e=>?_,(hf.2 x y).u,(hf.2 x y).s⟩⟩,hx.keep (z4 bx a3 hf.1.r hf.1.s.1) (fun x y=>z4 x (hx.2.2.1 x y) (hf.2 x y).r (hf.2 x y).s.1) (by have:=hg.size; simp [World.setCell]; omega),?_,I.2.2.2⟩
 ·rcases z5 bx e with e | e
  ·exact hf.1.r e
  ·omega
 ·rcases z5 x e with e | e
  ·exact (hf.2 x y).r e
  ·have:=hx.2.2.1 x y; omega
 ·have a4:Below B0 w0 w5:=hb.grown hg (τ I.2.2.2 hs) fun k e=>τ I.2.2.2 (bZ h.cR.own e).1
  exact a4.setCell (p:=⟨sb,1,none⟩) I.1 _
theorem D.kF.later {B sb mu mp nf nr:Nat} {fs:List A} {bf:List Nat} {rn:List Nat} {Lp:List (Value × Value)} {G:WK→List Nat} {B0 bx:Nat} {fr:List Nat} {a:A} {Ae:Option Addr} {ce:Nat} {w0 w w':World} (h:kF B sb mu mp nf nr fs bf rn Lp G B0 bx fr a Ae ce w0 w) (y:Below w.heap.size w w'):kF B sb mu mp nf nr fs bf rn Lp G B0 bx fr a Ae ce w0 w':=by
 obtain ⟨J,cf,Lf,U,cr,Lr,ou,h1,h2,I,h4,h5⟩:=h;have hs:=h1.qH;exact ⟨J,cf,Lf,U,cr,Lr,ou,h1.later y,h2,I.keep (y.block _ (ψ I.1)) (fun x hx=>y.block x (I.2.2.1 x hx)) y.size,h4.trans (y.mono (by omega)),h5⟩
theorem D.kF.place {B sb mu mp nf nr:Nat} {fs:List A} {bf:List Nat} {rn:List Nat} {Lp:List (Value × Value)} {G:WK→List Nat} {B0 bx:Nat} {fr:List Nat} {a:A} {Ae:Option Addr} {ce:Nat} {w0 w:World} (h:kF B sb mu mp nf nr fs bf rn Lp G B0 bx fr a Ae ce w0 w) (hB:B0≤mp) {s:ByteArray} (hs:s.size≤maxLen) (v:Value) (J:∀ p ∈ Lp,p.1 ≠ .string s):
  ∃ I,(Instr.mapUpdate 116 (.map (some mp)) (.string s) v).run Tryz.prog w=.ok () I∧kF B sb mu mp nf nr fs bf rn (Lp ++ [(.string s,v)]) G B0 bx fr a Ae ce w0 I:=by
 obtain ⟨Af,cf,Lf,Ar,cr,Lr,ou,h1,U,h3,h4,h5⟩:=h;obtain ⟨I,r1,r2,y,-⟩:=yY nR (w:=w) trivial Tryz.underlying116 v h1.pl ⟨_,rfl,hs⟩ J;have hz:=h1.qH;exact ⟨I,r1,Af,cf,Lf,Ar,cr,Lr,ou,h1.place r2 y,U,h3.keep (y.block _ (ψ h3.1) (fun e=>U.1.s.2.2 (by injection e))) (fun x hx=>y.block x (h3.2.2.1 x hx) (fun e=>(U.2 x hx).s.2.2 (by injection e))) y.size,h4.grown y (by omega) fun k e=>by injection e with e; omega,h5⟩
structure D.NH (B sb mu mp nf nr:Nat) (fs:List A) (bf:List Nat) (rn:List Nat) (Lp:List (Value × Value)) (G:WK→List Nat) (B0 bx:Nat) (fr:List Nat) (a:A) (Ae:Option Addr) (ce:Nat) (w0:World) (k:WK) (u:Value) (L:List Value) (n:Nat) (w:World):Prop where
 ex:∃ Af cf Lf Ar cr Lr ou w1,lT B sb mu mp Af nf cf Lf fs bf Ar nr cr Lr rn Lp G ou w1∧NG B sb mu mp (.slice Af nf cf) (.slice Ar nr cr) ou bx fr∧BoxOk bx fr a Ae ce w0 w1∧Below B0 w0 w1∧B0≤B∧B0≤mu∧
  FT B mu G ou k u L n w∧w1.grownBy w (some mu)
theorem D.kF.entry {B sb mu mp nf nr:Nat} {fs:List A} {bf:List Nat} {rn:List Nat} {Lp:List (Value × Value)} {G:WK→List Nat} {B0 bx:Nat} {fr:List Nat} {a:A} {Ae:Option Addr} {ce:Nat} {w0 w:World} (h:kF B sb mu mp nf nr fs bf rn Lp G B0 bx fr a Ae ce w0 w) (hB:B0≤mu) (k:WK):
  ∃ r y,(Instr.mapEntry 125 (.map (some mu)) (.agg #[.string k.name,.int .i64 k.size,.int .i64 k.place,.string k.word])).run Tryz.prog w=.ok r y∧∃ u n L,r=.tuple #[u,.int .i64 (n:Nat)]∧NH B sb mu mp nf nr fs bf rn Lp G B0 bx fr a Ae ce w0 k u L n y∧w.grownBy y (some mu):=by
 obtain ⟨J,cf,Lf,U,cr,Lr,ou,h1,h2,h3,h4,h5⟩:=h;obtain ⟨y,u,n,L,r1,r2,I⟩:=h1.un.entry h1.lo.2.1 k;exact ⟨_,y,r1,u,n,L,rfl,⟨J,cf,Lf,U,cr,Lr,ou,w,h1,h2,h3,h4,h5,hB,r2,I⟩,I⟩
section
variable {B sb mu mp nf nr:Nat} {fs:List A} {bf:List Nat} {rn:List Nat} {Lp:List (Value × Value)} {G:WK→List Nat} {B0 bx:Nat} {fr:List Nat} {a:A} {Ae:Option Addr} {ce:Nat} {w0 w w':World} {k:WK} {u:Value} {L:List Value} {n:Nat}
theorem D.NH.own (h:NH B sb mu mp nf nr fs bf rn Lp G B0 bx fr a Ae ce w0 k u L n w):w.ownsRow B 3 1 u (G k).length L:=by
 obtain ⟨_,_,_,_,_,_,_,_,_,_,_,_,_,_,h,_⟩:=h.ex;exact h.coll.own
theorem D.NH.qH (h:NH B sb mu mp nf nr fs bf rn Lp G B0 bx fr a Ae ce w0 k u L n w):B≤w.heap.size:=by
 obtain ⟨_,_,_,_,_,_,_,I,h1,_,_,_,_,_,_,y⟩:=h.ex;exact τ h1.qH y.size
theorem D.NH.store (h:NH B sb mu mp nf nr fs bf rn Lp G B0 bx fr a Ae ce w0 k u L n w) (hk:Below w.heap.size w w') {A5:Option Addr} {c5 i:Nat} {w5:World} (J:w5.ownsRow B 3 1 (.slice A5 ((G k).length+1) c5) ((G k).length+1) (L ++ [.int .i64 (i:Nat)])) (hg:w'.grownBy w5 u.ownBlock)
  (U:(Value.slice A5 ((G k).length+1) c5).ownBlock=u.ownBlock∨(Value.slice A5 ((G k).length+1) c5).ownBlock=some w'.heap.size):
  ∃ w9,(Instr.entryStore 125 (.map (some mu)) (.int .i64 (n:Nat)) (.slice A5 ((G k).length+1) c5)).run Tryz.prog w5=.ok () w9∧kF B sb mu mp nf nr fs bf rn Lp (FU G k i) B0 bx fr a Ae ce w0 w9:=by
 obtain ⟨Af,cf,Lf,Ar,cr,Lr,ou,w1,h1,I,h3,h4,h5,h6,h7,h8⟩:=h.ex;have a2:mu < w.heap.size:=by have:=h1.qH; have:=h1.lo.2.1; have:=h8.size; omega
 have a3:∀ x ∈ ou,x < w.heap.size:=fun x y=>κ (h1.ous x y).2 h8.size
 have hP:=h7.keep (w':=w') (hk.block _ a2) fun x y=>hk.block x (a3 x y)
 have hC:bK 1 yT B 3 w5 (.slice A5 ((G k).length+1) c5) (L ++ [.int .i64 (i:Nat)]) (G k ++ [i]) []:=hP.coll.app jh (aW.dP IQ ⟨rfl,rfl⟩) (fun b hb=>by simp at hb) J hg U;obtain ⟨w9,a0,r1,r2,r3,r4⟩:=hP.store h1.lo.2.1 hg hC U;have a6:=h8.size;have a7:=hk.size;have a8:=hg.size;have a9:=r3.size;have ku:∀ x,u.ownBlock=some x→x ∈ ou:=hP.own
 have kp:∀ x,x < w1.heap.size→x ≠ mu→x ∉ ou→w9.heap[x]? = w1.heap[x]?:=fun x y a1 a4=>
  (r3.block x (by omega) (fun e=>a1 (by injection e))).trans ((hg.block x (by omega) (fun e=>a4 (ku x e.symm))).trans ((hk.block x (by omega)).trans (h8.block x y (fun e=>a1 (by injection e)))))
 have new:∀ x ∈ a0,x ∈ ou∨(w1.heap.size≤x∧x < w9.heap.size):=fun x y=>by
  rcases r4 x y with g | ⟨g1,g2⟩
  ·exact .inl g
  ·have:=(bZ J g1).2
   exact .inr ⟨by omega,by omega⟩
 have a5:=ψ h3.1;have aa:=h1.qH;refine ⟨w9,r1,Af,cf,Lf,Ar,cr,Lr,a0,h1.under (by omega) kp r2 new,⟨⟨I.1.f,I.1.r,fun e=>?_,I.1.s⟩,fun x y=>⟨(I.2 x y).f,(I.2 x y).r,fun e=>?_,(I.2 x y).s⟩⟩,h3.keep (kp bx a5 I.1.s.2.1 I.1.u) (fun x y=>kp x (h3.2.2.1 x y) (I.2 x y).s.2.1 (I.2 x y).u) (by omega),⟨?_,?_,?_,by have:=h4.size; omega,fun x y=>?_⟩,h5⟩
 ·rcases new bx e with g | g
  ·exact I.1.u g
  ·omega
 ·rcases new x e with g | g
  ·exact (I.2 x y).u g
  ·have:=h3.2.2.1 x y; omega
 ·exact r3.os.trans (hg.os.trans (hk.os.trans (h8.os.trans h4.os)))
 ·exact r3.tape.trans (hg.tape.trans (hk.tape.trans (h8.tape.trans h4.tape)))
 ·exact r3.output.trans (hg.output.trans (hk.output.trans (h8.output.trans h4.output)))
 ·exact (kp x (by omega) (by omega) (fun e=>by have:=(h1.ous x e).1; omega)).trans (h4.block x y)
end
section
variable {P:Program} {ops:Array Oper} {rest:List Oper} {o:Oper} {a:Act} {Q:Exit→Act→World→Prop}
end
theorem D.kF.cells {B sb mu mp nf nr:Nat} {fs:List A} {bf:List Nat} {rn:List Nat} {Lp:List (Value × Value)} {G:WK→List Nat} {B0 bx:Nat} {fr:List Nat} {a:A} {Ae:Option Addr} {ce:Nat} {w0 w:World} (h:kF B sb mu mp nf nr fs bf rn Lp G B0 bx fr a Ae ce w0 w):
  w.cell? ⟨sb,2,none⟩=some (.map (some mu))∧w.cell? ⟨sb,3,none⟩=some (.map (some mp))∧w.cell? ⟨bx,0,none⟩=some (.string a.name)∧w.cell? ⟨bx,1,none⟩=some (.slice Ae a.args.length ce)∧sb < w.heap.size∧bx < w.heap.size∧∃ ba,aK w [.string a.name,.slice Ae a.args.length ce] a ba:=by
 obtain ⟨I,cf,Lf,J,U,Lr,ou,h1,h2,y,h4,h5⟩:=h;obtain ⟨ba,g,_⟩:=y.2.1;exact ⟨ai h1.blk,ai h1.blk,ai y.1,ai y.1,ψ h1.blk,ψ y.1,ba,g⟩
theorem put_any (B sb mu mp:Nat) (Af:Option Addr) (cf:Nat) (Lf:List Value) (fs:List A) (bf:List Nat) (Ar:Option Addr) (cr:Nat) (Lr:List Value) (rn:List Nat) (Lp:List (Value × Value)) (ou:List Nat) (a:A) (c1:Value) (ba:List Nat) (fr:List Nat) (rd:Nat) (w:World)
  (S:lT B sb mu mp Af fs.length cf Lf fs bf Ar rn.length cr Lr rn Lp (idxs fs) ou w) (ha:aK w [.string a.name,c1] a ba) (bi:∀ x ∈ ba,x ∈ fr) (bj:∀ x ∈ fr,Free B sb mu mp (.slice Af fs.length cf) (.slice Ar rn.length cr) ou x) (aE:∀ x ∈ fr,x < w.heap.size) (hok:bU a=true) (cb:∀ p ∈ Lp,p.1 ≠ .string (fF a)) (cD:fs.length≤1000000) (cE:rn.length≤1000000) (B0:Nat) (a9:B0≤sb∧B0≤mu∧B0≤mp∧B0≤B):
  Calls Tryz.prog 112 #[.pointer (some ⟨sb,0,none⟩),.agg #[.string a.name,c1],.int .i64 rd] w fun e w'=>e=.returned (.tuple #[])∧Below B0 w w'∧
   ∃ bk bl cc bn bo cd bp,lT B sb mu mp bk (fs.length+1) bl cc (fs ++ [a]) (bf ++ ba) bn (rn.length+1) bo cd (rn ++ [rd]) (Lp ++ [(.string (fF a),.int .i64 (fs.length:Nat))]) (idxs (fs ++ [a])) bp w'∧∀ x ∈ fr,Free B sb mu mp (.slice bk (fs.length+1) bl) (.slice bn (rn.length+1) bo) bp x∧w'.heap[x]? = w.heap[x]?:=by
 obtain ⟨i0,hi,cg,ci,cj⟩:=info_parts Qv;obtain ⟨i9,hj,ac,ae,af⟩:=info_parts Xx;obtain ⟨Ae,ce,_,rfl⟩:=bY ha;have hA:Below w.heap.size w (w.alloc (.cells #[.string a.name,.slice Ae a.args.length ce] 33)):=ζ;have ag:=S.later hA;have aL:=au.below ha hA;have bq:(w.alloc (.cells #[.string a.name,.slice Ae a.args.length ce] 33)).heap[w.heap.size]? = some (.cells #[.string a.name,.slice Ae a.args.length ce] 33 (0,0)):=ω _ _;have az:∀ w2:World,Below (w.alloc (.cells #[.string a.name,.slice Ae a.args.length ce] 33)).heap.size (w.alloc (.cells #[.string a.name,.slice Ae a.args.length ce] 33)) w2→aW 2 aK w2 [.string a.name,.slice Ae a.args.length ce] [a] ba:=fun w2 h2=>aW.dP fJ (au.below aL h2)
 have q0:(w.alloc (.cells #[.string a.name,.slice Ae a.args.length ce] 33)).cell? ⟨sb,0,none⟩=some (.slice Af fs.length cf):=ai ag.blk;have q1:(w.alloc (.cells #[.string a.name,.slice Ae a.args.length ce] 33)).frozen? ⟨sb,0,none⟩=false:=ax ag.blk;have q2:sb < (w.alloc (.cells #[.string a.name,.slice Ae a.args.length ce] 33)).heap.size:=ψ ag.blk;have HS:=η ag;have br:=η bq;have bt:=η az;have ck:=η aL;have HA:=η hA;have bu:Hid (fs.length+1≤maxLen∧(fs.length+1) * 40≤140737488355328):=η (by unfold maxLen; omega);have z0:(w.alloc (.cells #[.string a.name,.slice Ae a.args.length ce] 33)).cell? ⟨w.heap.size,0,none⟩=some (.string a.name):=by go_simp
 have z1:(w.alloc (.cells #[.string a.name,.slice Ae a.args.length ce] 33)).cell? ⟨w.heap.size,1,none⟩=some (.slice Ae a.args.length ce):=by go_simp
 have aM:(w.alloc (.cells #[.string a.name,.slice Ae a.args.length ce] 33)).heap.size=w.heap.size+1:=by simp
 have bv:w.heap.size < (w.alloc (.cells #[.string a.name,.slice Ae a.args.length ce] 33)).heap.size:=by rw [aM]; omega
 have cB:sb < w.heap.size:=ψ S.blk
 have bw:Hid (NG B sb mu mp (.slice Af fs.length cf) (.slice Ar rn.length cr) ou w.heap.size fr):=η (by
  obtain ⟨l1,l2,l3,_⟩:=S.lo;have hs:=S.qH
  exact ⟨⟨fun e=>by have:=(bZ S.cF.own e).2; omega,fun e=>by have:=(bZ S.cR.own e).2; omega,fun e=>by have:=(S.ous _ e).2; omega,by omega⟩,bj⟩)
 have cG:=η aM;clear S ha hA ag aL bq az aM
 go_enter Tryz.func112,Tryz.ntmps112
 go_wp2;generalize w.alloc (.cells #[.string a.name,.slice Ae a.args.length ce] 33)=W1 at *;have hL:Below W1.heap.size W1 (W1.drew.alloc (.cells #[.string a.name,.slice Ae a.args.length ce] 33)):=(ϑ.drew).alloc ν _;have a0:=η (HS.out.later hL);have a7:=η (bt.out _ hL)
 have am:Hid (Lies (W1.drew.alloc (.cells #[.string a.name,.slice Ae a.args.length ce] 33)) (some ⟨W1.heap.size,0,none⟩) [.string a.name,.slice Ae a.args.length ce]):=η (by
  have:=aV (ω W1.drew (.cells #[.string a.name,.slice Ae a.args.length ce] 33)); simpa using this)
 have bz:(W1.drew.alloc (.cells #[.string a.name,.slice Ae a.args.length ce] 33)).heap[w.heap.size]? = some (.cells #[.string a.name,.slice Ae a.args.length ce] 33 (0,0)):=(hL.block _ bv).trans br.out;have bA:Hid (BoxOk w.heap.size fr a Ae ce w (W1.drew.alloc (.cells #[.string a.name,.slice Ae a.args.length ce] 33))):=η ⟨bz,⟨ba,au.below ck.out hL,bi⟩,fun x hx=>κ (κ (aE x hx) HA.out.size) hL.size,fun x hx=>(hL.block x (κ (aE x hx) HA.out.size)).trans (HA.out.block x (aE x hx))⟩;have bB:Hid (Below B0 w (W1.drew.alloc (.cells #[.string a.name,.slice Ae a.args.length ce] 33))):=η ((HA.out.trans (hL.mono HA.out.size)).mono (by omega));clear bz hL
 go_cut [] from 16 to 25 (fun wx=>kF B sb mu mp (fs.length+1) rn.length (fs ++ [a]) (bf ++ ba) rn Lp (idxs fs) B0 w.heap.size fr a Ae ce w wx)
 case first=>
  go_region_law
   (first
    | (refine iL (by rfl) (.tmp 20) (.tmp 22) _ (by rfl) B 33 i0 (.agg #[.string ⟨#[]⟩,.slice none 0 0]) 2 40 Tryz.underlying24 hi cg ci cj rfl (Θ 1) (.slice Af fs.length cf) fs.length Lf (by rfl) a0.out.cF.own (some ⟨W1.heap.size,0,none⟩) 1 1 _ (by rfl) rfl am.out a7.out.one bu.out.1 bu.out.2 a0.out.qH ?_; intro A5 c5 w5 h5 g5 l5; have HZ:=η (kF.fact a0.out bw.out bA.out bB.out a9 a7.out h5 g5 l5 fun x hx=>bj x (bi x hx)); replace q0:=HZ.out.1; replace q1:=HZ.out.2.1; clear h5 g5 l5))
  all_goals
   have cl:=η HZ.out.2.2;clear q0 q1 HZ
   go_wp2_with fail
   go_meet
   exact cl.out
 case rest=>
  clear a0 a7 am bA bB HS bw q0 q1 q2 z0 z1 br;obtain ⟨cI,cJ,cK,bE,bL,cm,cL,S2,F2,X2,B2,_⟩:=hcut;have aa:Below wc.heap.size wc (wc.alloc (.cells #[.int .i64 rd] 3)):=ζ;have cP:=S2.qH;have a0:=η (S2.later aa);have bO:=η F2;have bR:=η (X2.keep (aa.block _ (ψ X2.1)) (fun x hx=>aa.block x (X2.2.2.1 x hx)) aa.size);have ab:=η (B2.trans (aa.mono (by omega)));have a7:Hid (aW 1 yT (wc.alloc (.cells #[.int .i64 rd] 3)) [.int .i64 (rd:Nat)] [rd] []):=η (aW.dP IQ ⟨rfl,rfl⟩)
  have am:Hid (Lies (wc.alloc (.cells #[.int .i64 rd] 3)) (some ⟨wc.heap.size,0,none⟩) [.int .i64 (rd:Nat)]):=η (by
   have:=aV (ω wc (.cells #[.int .i64 rd] 3)); simpa using this)
  have bX:Hid (rn.length+1≤maxLen∧(rn.length+1) * 8≤140737488355328):=η (by unfold maxLen; omega);have q0:wc.cell? ⟨sb,1,none⟩=some (.slice bE rn.length bL):=ai S2.blk;have q1:wc.frozen? ⟨sb,1,none⟩=false:=ax S2.blk;have q2:sb < wc.heap.size:=ψ S2.blk;clear S2 F2 X2 B2 aa
  go_wp2_with (first | (at_builtin; refine wX (by rfl) (.tmp 30) (.tmp 32) _ (by rfl) B 3 i9 (.int .i64 0) 1 8 Tryz.underlying49 hj ac ae af rfl (Θ 0) (.slice bE rn.length bL) rn.length cm (by rfl) a0.out.cR.own (some ⟨wc.heap.size,0,none⟩) 1 1 _ (by rfl) rfl am.out a7.out.one bX.out.1 bX.out.2 a0.out.qH ?_; intro A5 c5 w5 h5 g5 l5; have HZ:=η (kF.round a0.out bO.out bR.out ab.out a9 a7.out h5 g5 l5); replace q0:=HZ.out.1; replace q1:=HZ.out.2.1; clear h5 g5 l5) | go_in)
  have aR:=η HZ.out.2.2;clear q0 q1 q2 HZ a0 bO bR ab a7 am;generalize (w5.setCell ⟨sb,1,none⟩ (.slice A5 (rn.length+1) c5))=W3 at *;obtain ⟨_,y3,y4,y5,y6,y7,cn,aD⟩:=aR.out.cells;have hT:=η (rQ a (.string a.name) (.slice Ae a.args.length ce) cn W3.drew (au.keep aD fun _ _=>rfl) (by have:=JE hok; omega));have c3:Hid (∀ w2:World,Below W3.heap.size W3 w2→∃ w9,(Instr.mapUpdate 116 (.map (some mp)) (.string ⟨(yA a).toArray⟩) (.int .i64 fs.length)).run Tryz.prog w2=.ok () w9∧kF B sb mu mp (fs.length+1) (rn.length+1) (fs ++ [a]) (bf ++ ba) (rn ++ [rd]) (Lp ++ [(.string (fF a),.int .i64 (fs.length:Nat))]) (idxs fs) B0 w.heap.size fr a Ae ce w w9):=η fun w2 h2=>(aR.out.later h2).place a9.2.2.1 (sG hok) _ cb
  clear aD
  go_cut [] from 36 to 42 (fun wx=>kF B sb mu mp (fs.length+1) (rn.length+1) (fs ++ [a]) (bf ++ ba) (rn ++ [rd]) (Lp ++ [(.string (fF a),.int .i64 (fs.length:Nat))]) (idxs fs) B0 w.heap.size fr a Ae ce w wx)
  case first=>
   go_region_law
    (first
     | (go_simp; go_at_call 61; refine hT.out.mono ?_; rintro e w2 ⟨rfl,c4⟩; have ab:=η ((Below.refl W3.heap.size W3).drew.trans c4); replace y3:=ξ ab.out y3; obtain ⟨w9,co,y⟩:=c3.out w2 ab.out; have a8:=η y; clear c4 y))
   all_goals
    clear y3 y4 y5 co ab
    go_wp2_with fail
    go_meet
    exact a8.out
  case rest=>
   have b3:=η hcut;clear hcut aR hT c3 y3 y4 y5 y6 y7;obtain ⟨y2,_,y4,y5,y6,y7,_⟩:=b3.out.cells;have b4:Below wc.heap.size wc (wc.alloc (.cells #[.string a.name,.int .i64 a.args.length,.int .i64 (-1),.string ⟨#[]⟩] 236)):=ζ;have b5:=η (b3.out.later b4);have k0:(wc.alloc (.cells #[.string a.name,.int .i64 a.args.length,.int .i64 (-1),.string ⟨#[]⟩] 236)).cell? ⟨wc.heap.size,0,none⟩=some (.string a.name):=by go_simp
   have k1:(wc.alloc (.cells #[.string a.name,.int .i64 a.args.length,.int .i64 (-1),.string ⟨#[]⟩] 236)).cell? ⟨wc.heap.size,1,none⟩=some (.int .i64 a.args.length):=by go_simp
   have k2:(wc.alloc (.cells #[.string a.name,.int .i64 a.args.length,.int .i64 (-1),.string ⟨#[]⟩] 236)).cell? ⟨wc.heap.size,2,none⟩=some (.int .i64 (-1)):=by go_simp
   have k3:(wc.alloc (.cells #[.string a.name,.int .i64 a.args.length,.int .i64 (-1),.string ⟨#[]⟩] 236)).cell? ⟨wc.heap.size,3,none⟩=some (.string ⟨#[]⟩):=by go_simp
   have x2:=ξ b4 y2;have kz:=lt_of_cell k0;have sz:sb < (wc.alloc (.cells #[.string a.name,.int .i64 a.args.length,.int .i64 (-1),.string ⟨#[]⟩] 236)).heap.size:=by simp; omega
   clear b4;go_wp2;generalize wc.alloc (.cells #[.string a.name,.int .i64 a.args.length,.int .i64 (-1),.string ⟨#[]⟩] 236)=W5 at *;have b1:Below W5.heap.size W5 W5.drew:=ϑ.drew;have b2:Below W5.heap.size W5 (W5.alloc (.cells #[.int .i64 fs.length] 3)).drew:=(ζ).drew;have cp:=η (ι b1 b2);have b6:Hid (∀ w':World,Below W5.heap.size W5 w'→∃ r w9,(Instr.mapEntry 125 (.map (some mu)) (.agg #[.string a.name,.int .i64 a.args.length,.int .i64 (-1),.string ⟨#[]⟩])).run Tryz.prog w'=.ok r w9∧∃ u n L,r=.tuple #[u,.int .i64 (n:Nat)]∧NH B sb mu mp (fs.length+1) (rn.length+1) (fs ++ [a]) (bf ++ ba) (rn ++ [rd]) (Lp ++ [(.string (fF a),.int .i64 (fs.length:Nat))]) (idxs fs) B0 w.heap.size fr a Ae ce w ⟨a.name,a.args.length,-1,⟨#[]⟩⟩ u L n w9∧w'.grownBy w9 (some mu)):=η fun w' h'=>(b5.out.later h').entry a9.2.1 ⟨a.name,a.args.length,-1,⟨#[]⟩⟩
   have aw:Hid (mu < W5.heap.size):=η (by
    obtain ⟨_,_,_,_,_,_,_,h1,_⟩:=b5.out
    have:=h1.qH; have:=h1.lo.2.1; omega)
   have c7:Hid ((W5.alloc (.cells #[.int .i64 fs.length] 3)).drew.heap[W5.heap.size]? = some (.cells #[.int .i64 fs.length] 3 (0,0))):=η (ω W5 _)
   have U:Hid ((idxs fs ⟨a.name,a.args.length,-1,⟨#[]⟩⟩).length+1≤maxLen∧((idxs fs ⟨a.name,a.args.length,-1,⟨#[]⟩⟩).length+1) * 8≤140737488355328):=η (by
    have:=nY fs ⟨a.name,a.args.length,-1,⟨#[]⟩⟩
    unfold maxLen; omega)
   obtain ⟨_,ao,a1,u1,n1,L1,rfl,a3,aq⟩:=b6.out _ b1;obtain ⟨_,b7,a2,u2,n2,L2,rfl,a4,a5⟩:=b6.out _ b2;have I:=η a3;have J:=η a4
   have a6:Hid (Lies b7 (some ⟨W5.heap.size,0,none⟩) [.int .i64 (fs.length:Nat)]):=η (by
    have hh:=(a5.block W5.heap.size (by simp) (fun e=>by have:=aw.out; injection e with e; omega)).trans c7.out
    have:=aV hh; simpa using this)
   clear b1 b2 a3 a4 aq a5
   go_cut [] from 49 to 59 (fun wx=>kF B sb mu mp (fs.length+1) (rn.length+1) (fs ++ [a]) (bf ++ ba) (rn ++ [rd]) (Lp ++ [(.string (fF a),.int .i64 (fs.length:Nat))]) (FU (idxs fs) ⟨a.name,a.args.length,-1,⟨#[]⟩⟩ fs.length) B0 w.heap.size fr a Ae ce w wx)
   case first=>
    go_region_law
     (first
      | (refine iL (by rfl) (.tmp 54) (.tmp 56) _ (by rfl) B 3 i9 (.int .i64 0) 1 8 Tryz.underlying49 hj ac ae af rfl (Θ 0) u2 (idxs fs ⟨a.name,a.args.length,-1,⟨#[]⟩⟩).length L2 (by rfl) J.out.own (some ⟨W5.heap.size,0,none⟩) 1 1 [.int .i64 (fs.length:Nat)] (by rfl) rfl a6.out (by simp [Value.oneCell']) U.out.1 U.out.2 J.out.qH ?_; intro A6 c6 w6 h6 g6 l6; obtain ⟨w9,ar,y⟩:=J.out.store ϑ h6 g6 l6; have a8:=η y; clear h6 g6 l6 y)
      | (refine iL (by rfl) (.tmp 54) (.tmp 56) _ (by rfl) B 3 i9 (.int .i64 0) 1 8 Tryz.underlying49 hj ac ae af rfl (Θ 0) u1 (idxs fs ⟨a.name,a.args.length,-1,⟨#[]⟩⟩).length L1 (by rfl) (I.out.Wj (ζ)) (some ⟨ao.heap.size,0,none⟩) 1 1 [.int .i64 (fs.length:Nat)] (by rfl) rfl (by have:=aV (ω ao (.cells #[.int .i64 fs.length] 3)); simpa using this) (by simp [Value.oneCell']) U.out.1 U.out.2 (τ I.out.qH (by simp)) ?_; intro A6 c6 w6 h6 g6 l6; obtain ⟨w9,ar,y⟩:=I.out.store (ζ) h6 g6 l6; have a8:=η y; clear h6 g6 l6 y))
    all_goals
     clear ar
     go_wp2_with fail
     go_meet
     exact a8.out
   case rest=>
    rw [VI] at hcut;have c8:=η hcut;obtain ⟨_,_,y4,y5,y6,y7,_⟩:=hcut.cells;have cQ:=PK hok;clear hcut b3 b5 k0 k1 k2 k3 x2 kz sz a1 a2 I J a6 b6 cp c7 U aw y2;go_wp2
    go_loopw [63] (fun i wr=>∃ (k:Nat),k≤a.args.length∧i=.int .i64 k∧kF B sb mu mp (fs.length+1) (rn.length+1) (fs ++ [a]) (bf ++ ba) (rn ++ [rd]) (Lp ++ [(.string (fF a),.int .i64 (fs.length:Nat))]) (wH (idxs fs) a fs.length (k+1)) B0 w.heap.size fr a Ae ce w wr) (fun i _=>a.args.length - (intOf i).toNat)
    case atStart=>exact ⟨0,ε,rfl,c8.out⟩
    case round=>
     obtain ⟨k,hk,rfl,hI⟩:=hrel;clear c8 y4 y5 y6 y7;by_cases av:k < a.args.length
     ·obtain ⟨y2,_,y4,y5,y6,y7,cT,c9⟩:=hI.cells
      obtain ⟨b8,o8,rfl,_,f0,f1,_⟩:=fP (dQ c9) av;have cU:(0:Int)≤(k:Int):=by omega
      have cq:(k:Int) < (a.args.length:Int):=by omega
      have b9:Hid (∀ w9,kF B sb mu mp (fs.length+1) (rn.length+1) (fs ++ [a]) (bf ++ ba) (rn ++ [rd]) (Lp ++ [(.string (fF a),.int .i64 (fs.length:Nat))]) (FU (wH (idxs fs) a fs.length (k+1)) ⟨a.name,a.args.length,k,a.args[k].name⟩ fs.length) B0 w.heap.size fr a (some ⟨b8,o8,none⟩) ce w w9→kF B sb mu mp (fs.length+1) (rn.length+1) (fs ++ [a]) (bf ++ ba) (rn ++ [rd]) (Lp ++ [(.string (fF a),.int .i64 (fs.length:Nat))]) (wH (idxs fs) a fs.length (k+1+1)) B0 w.heap.size fr a (some ⟨b8,o8,none⟩) ce w w9):=η fun w9 h9=>by
       rw [← Qw a k av,IU] at h9; exact h9
      have U:Hid ((wH (idxs fs) a fs.length (k+1) ⟨a.name,a.args.length,k,a.args[k].name⟩).length+1≤maxLen∧((wH (idxs fs) a fs.length (k+1) ⟨a.name,a.args.length,k,a.args[k].name⟩).length+1) * 8≤140737488355328):=η (by
       rw [← Qw a k av,NE];have:=nY fs ((keysOf a)[k+1]'(by rw [zF]; omega))
       unfold maxLen; omega)
      have ca:=η av;have HI:=η hI;clear hI c9 hk;generalize a.args[k]=t at *;clear av;have bc:Below wr.heap.size wr ((wr.alloc (.cells #[.bool t.var,.string t.name] 91)).alloc (.cells #[.string a.name,.int .i64 a.args.length,.int .i64 k,.string t.name] 236)):=(ζ).alloc (by simp) _;have bg:=η (HI.out.later bc);have x2:=ξ bc y2;have bh:((wr.alloc (.cells #[.bool t.var,.string t.name] 91)).alloc (.cells #[.string a.name,.int .i64 a.args.length,.int .i64 k,.string t.name] 236)).heap.size=wr.heap.size+2:=by simp
      have k0:((wr.alloc (.cells #[.bool t.var,.string t.name] 91)).alloc (.cells #[.string a.name,.int .i64 a.args.length,.int .i64 k,.string t.name] 236)).cell? ⟨wr.heap.size+1,0,none⟩=some (.string a.name):=by go_simp
      have k1:((wr.alloc (.cells #[.bool t.var,.string t.name] 91)).alloc (.cells #[.string a.name,.int .i64 a.args.length,.int .i64 k,.string t.name] 236)).cell? ⟨wr.heap.size+1,1,none⟩=some (.int .i64 a.args.length):=by go_simp
      have k2:((wr.alloc (.cells #[.bool t.var,.string t.name] 91)).alloc (.cells #[.string a.name,.int .i64 a.args.length,.int .i64 k,.string t.name] 236)).cell? ⟨wr.heap.size+1,2,none⟩=some (.int .i64 k):=by go_simp
      have k3:((wr.alloc (.cells #[.bool t.var,.string t.name] 91)).alloc (.cells #[.string a.name,.int .i64 a.args.length,.int .i64 k,.string t.name] 236)).cell? ⟨wr.heap.size+1,3,none⟩=some (.string t.name):=by go_simp
      have kz:wr.heap.size+1 < ((wr.alloc (.cells #[.bool t.var,.string t.name] 91)).alloc (.cells #[.string a.name,.int .i64 a.args.length,.int .i64 k,.string t.name] 236)).heap.size:=by rw [bh]; omega
      have sz:sb < ((wr.alloc (.cells #[.bool t.var,.string t.name] 91)).alloc (.cells #[.string a.name,.int .i64 a.args.length,.int .i64 k,.string t.name] 236)).heap.size:=by rw [bh]; omega
      clear bc bh;go_wp2;generalize ((wr.alloc (.cells #[.bool t.var,.string t.name] 91)).alloc (.cells #[.string a.name,.int .i64 a.args.length,.int .i64 k,.string t.name] 236))=W5 at *;have b1:Below W5.heap.size W5 W5.drew:=ϑ.drew;have b2:Below W5.heap.size W5 (W5.alloc (.cells #[.int .i64 fs.length] 3)).drew:=(ζ).drew
      have aw:Hid (mu < W5.heap.size):=η (by
       obtain ⟨_,_,_,_,_,_,_,h1,_⟩:=bg.out
       have:=h1.qH; have:=h1.lo.2.1; omega)
      obtain ⟨_,ao,a1,u1,n1,L1,rfl,a3,aq⟩:=(bg.out.later b1).entry a9.2.1 ⟨a.name,a.args.length,k,t.name⟩;obtain ⟨_,b7,a2,u2,n2,L2,rfl,a4,a5⟩:=(bg.out.later b2).entry a9.2.1 ⟨a.name,a.args.length,k,t.name⟩;dsimp only at a1 a2;have I:=η a3;have J:=η a4
      have a6:Hid (Lies b7 (some ⟨W5.heap.size,0,none⟩) [.int .i64 (fs.length:Nat)]):=η (by
       have hh:=(a5.block W5.heap.size (by simp) (fun e=>by have:=aw.out; injection e with e; omega)).trans (ω W5 (.cells #[.int .i64 fs.length] 3))
       have:=aV hh; simpa using this)
      clear b1 b2 a3 a4 aq a5
      go_region_law
       (first
        | (refine iL (by rfl) (.tmp 82) (.tmp 84) _ (by rfl) B 3 i9 (.int .i64 0) 1 8 Tryz.underlying49 hj ac ae af rfl (Θ 0) u2 _ L2 (by rfl) J.out.own (some ⟨W5.heap.size,0,none⟩) 1 1 [.int .i64 (fs.length:Nat)] (by rfl) rfl a6.out (by simp [Value.oneCell']) U.out.1 U.out.2 J.out.qH ?_; intro A6 c6 w6 h6 g6 l6; obtain ⟨w9,ar,y⟩:=J.out.store ϑ h6 g6 l6; have a8:=η (b9.out _ y); clear h6 g6 l6 y)
        | (refine iL (by rfl) (.tmp 82) (.tmp 84) _ (by rfl) B 3 i9 (.int .i64 0) 1 8 Tryz.underlying49 hj ac ae af rfl (Θ 0) u1 _ L1 (by rfl) (I.out.Wj (ζ)) (some ⟨ao.heap.size,0,none⟩) 1 1 [.int .i64 (fs.length:Nat)] (by rfl) rfl (by have:=aV (ω ao (.cells #[.int .i64 fs.length] 3)); simpa using this) (by simp [Value.oneCell']) U.out.1 U.out.2 (τ I.out.qH (by simp)) ?_; intro A6 c6 w6 h6 g6 l6; obtain ⟨w9,ar,y⟩:=I.out.store (ζ) h6 g6 l6; have a8:=η (b9.out _ y); clear h6 g6 l6 y))
      all_goals
       clear ar x2 k0 k1 k2 k3 a1 a2 I J a6 b9 U;go_wp2;go_roundw
       case rel=>exact ⟨k+1,ca.out,by go_num,a8.out⟩
       case measure=>have:=ca.out; simp [intOf]; omega
     ·have he:k=a.args.length:=by omega
      subst he;have cq:¬ (a.args.length:Int) < (a.args.length:Int):=by omega
      rw [VJ] at hI;have HD:=η hI;clear hI;go_wp2
      go_end0
      obtain ⟨cu,cv,cw,cx,cy,cz,cA,h1,h2,h3,h4,h5⟩:=HD.out;exact ⟨rfl,h4,cu,cv,cw,cx,cy,cz,cA,h1,fun x hx=>⟨h2.2 x hx,h3.2.2.2 x hx⟩⟩
def D.fK (rs:List Ru) (xs:List A):Bool:=decide (fV rs=0) && (okB xs && decide (xs.length≤40)) && sF (aJ rs) xs
def D.bQ (rs:List Ru) (xs:List A):List A × Bool:=if fK rs xs then (if (iO rs xs).2 then ((iO rs xs).1.1,true) else ([],false)) else ([],false)
theorem NI (rs:List Ru) (xs:List A) (v1 v2:Value) (b1 b2:List Nat) (w:World) (h:fA w [v1] rs b1) (h2:ay w [v2] xs b2):
  Calls Tryz.prog 55 #[v1,v2] w fun e w'=>e=.returned (.bool (fK rs xs))∧Below w.heap.size w w':=by
 have c1:=uT rs v1 b1 w h;have C2:=η fun w' (hb:Below w.heap.size w w')=>MR xs v2 b2 40 w' (ak.below h2 hb) (by omega)
 have C3:=η fun w' (hb:Below w.heap.size w w') (hn:(aJ rs).length≤1000000)=>Sj rs xs v1 v2 b1 b2 w' (aU.below h hb) (ak.below h2 hb) hn
 have a1:(fV rs:Int)≤5:=by have:=LH rs; omega
 clear h h2;by_cases J:fV rs=0
 ·have hn:(aJ rs).length≤1000000:=by have h1:=(qN rs).1 J; have:=(l9 h1.ok).2; have:=h1.few; omega
  have C4:=η fun w' hb=>C3.out w' hb hn
  have HZ:Hid (fK rs xs=((okB xs && decide (xs.length≤40)) && sF (aJ rs) xs)):=η (by unfold fK; rw [decide_eq_true J,Bool.true_and]);rw [J] at c1;clear J hn C3 a1;generalize sF (aJ rs) xs=z at *
  go_enter Tryz.func55,Tryz.ntmps55
  go_wp2_with fail
  refine c1.mono ?_;rintro e w1 ⟨rfl,y⟩;clear c1
  go_wp2_with fail
  refine (C2.out _ y).mono ?_;rintro e w2 ⟨rfl,U⟩;have B2:=y.trans (U.mono y.size);clear C2 y U;cases hx:(okB xs && decide (xs.length≤40))
  ·have I:Hid (fK rs xs=false):=η (by rw [HZ.out,hx]; rfl)
   clear HZ hx C4;go_wp2;go_ret;exact ⟨aH I.out.symm,B2⟩
  ·have I:Hid (fK rs xs=z):=η (by rw [HZ.out,hx]; rfl)
   clear HZ hx
   go_wp2_with fail
   refine (C4.out _ B2).mono ?_;rintro e w3 ⟨rfl,a0⟩;have B3:=B2.trans (a0.mono B2.size);clear C4 a0;go_wp2;go_ret;exact ⟨aH I.out.symm,B3⟩
 ·have I:Hid (fK rs xs=false):=η (by unfold fK; rw [decide_eq_false J]; rfl)
  have a2:¬ (fV rs:Int)=0:=by omega
  clear J C2 C3
  go_enter Tryz.func55,Tryz.ntmps55
  go_wp2_with fail
  refine c1.mono ?_;rintro e w1 ⟨rfl,y⟩;go_wp2;go_ret;exact ⟨aH I.out.symm,y⟩
theorem D.F7 {a:A} (h:bU a=true):a.args.length≤3:=by
 unfold bU at h;simp only [ο,decide_eq_true_eq] at h;exact h.1.2
theorem D.VK {r:Ru} (h:fM r=true):r.body.length≤4∧r.head.args.length≤1000∧∀ p ∈ r.body,p.atom.args.length≤1000:=by
 unfold fM ql at h;simp only [ο,decide_eq_true_eq,ό] at h;exact ⟨h.1.1,τ (F7 h.2) (by omega),fun p y=>τ (F7 (h.1.2 p y)) (by omega)⟩
structure D.NJ (rs:List Ru) (xs:List A):Prop where
 gB:gB xs=true
 n:xs.length≤40
 m:rs.length≤8
 ok:rs.all fM=true
 facts:∀ a ∈ xs,dM a=true
 fine:Fine rs
 fit:sF (aJ rs) xs=true
theorem D.nG {rs:List Ru} {xs:List A} (h:fK rs xs=true):NJ rs xs:=by
 unfold fK okB at h;simp only [ο,decide_eq_true_eq,ό] at h;have hf:=(qN rs).1 h.1.1;exact ⟨h.1.2.1.2,h.1.2.2,hf.few,hf.ok,h.1.2.1.1,hf,h.2⟩
theorem D.NJ.rules {rs:List Ru} {xs:List A} (h:NJ rs xs):∀ r ∈ rs,r.body.length≤4∧r.head.args.length≤1000∧∀ p ∈ r.body,p.atom.args.length≤1000:=fun r hr=>VK (ό.1 h.ok r hr)
theorem D.NJ.args {rs:List Ru} {xs:List A} (h:NJ rs xs):∀ a ∈ xs,a.args.length≤1000:=fun a ha=>τ (zQ (h.facts a ha)) (by omega)
theorem eval_any (rs:List Ru) (xs:List A) (v1 v2:Value) (b1 b2:List Nat) (w:World) (h:fA w [v1] rs b1) (J:ay w [v2] xs b2):
  Calls Tryz.prog 14 #[v1,v2] w fun e w'=>Below w.heap.size w w'∧∃ v bs,e=.returned (.tuple #[v,.bool (bQ rs xs).2])∧ay w' [v] (bQ rs xs).1 bs:=by
 have c1:=NI rs xs v1 v2 b1 b2 w h J;have HR:=η h;have HX:=η J;clear h J
 cases hok:fK rs xs with
 | false=>
  have I:Hid (bQ rs xs=([],false)):=η (by unfold bQ; rw [hok]; rfl);rw [hok] at c1;clear hok
  go_enter Tryz.func14,Tryz.ntmps14
  go_wp2_with fail
  refine c1.mono ?_;rintro e w1 ⟨rfl,y⟩;have a1:Below w.heap.size w (w1.alloc (.cells #[] 33)):=y.alloc y.size _;clear c1;go_wp2;go_ret2;exact ⟨a1,.slice (some ⟨w1.heap.size,0,none⟩) 0 0,[],(by rw [I.out]; try rfl),by rw [I.out]; exact um⟩
 | true=>
  have U:=η (nG hok);rw [hok] at c1
  go_enter Tryz.func14,Tryz.ntmps14
  go_wp2_with fail
  refine c1.mono ?_;rintro e w1 ⟨rfl,y⟩;have q:=run_any rs xs v1 v2 b1 b2 w1 (aU.below HR.out y) (ak.below HX.out y) U.out.gB (by have:=U.out.n; omega) U.out.m U.out.ok U.out.rules U.out.args;clear c1
  go_wp2_with fail
  refine q.mono ?_;rintro e w2 ⟨a0,e0,e1,a2,rfl,J⟩;have B2:=η (y.trans (a0.mono y.size));obtain ⟨A3,p3,bx,ox,cx,ba,bb,rfl,rfl,rfl,h3,-,-⟩:=pY J;have H3:=η (ak.below h3 ((Below.refl w2.heap.size w2).alloc ν (.cells #[.slice A3 (iO rs xs).1.1.length p3,.slice (some ⟨bx,ox,none⟩) (iO rs xs).1.2.length cx] 96)));have B3:=η (B2.out.alloc B2.out.size (.cells #[.slice A3 (iO rs xs).1.1.length p3,.slice (some ⟨bx,ox,none⟩) (iO rs xs).1.2.length cx] 96));clear q J h3 y a0
  cases hr:(iO rs xs).2 with
  | false=>
   have I:Hid (bQ rs xs=([],false)):=η (by unfold bQ; rw [hok,hr]; rfl);have B4:=η (B3.out.alloc B3.out.size (.cells #[] 33));clear hok hr;go_wp2;go_ret2;exact ⟨B4.out,.slice (some ⟨w2.heap.size+1,0,none⟩) 0 0,[],(by rw [I.out]; try rfl),by rw [I.out]; exact um⟩
  | true=>
   have I:Hid (bQ rs xs=((iO rs xs).1.1,true)):=η (by unfold bQ; rw [hok,hr]; rfl);clear hok hr;go_wp2;go_ret2;exact ⟨B3.out,.slice A3 (iO rs xs).1.1.length p3,ba,(by rw [I.out]; try rfl),by rw [I.out]; exact H3.out⟩
end
section
open Go.RowKit Go.ChangeMaps Go.MapKept D
def D.Bj (fs:List A):List (Value × Value):=fs.zipIdx.map fun p=>(.string (fF p.1),.int .i64 (p.2:Nat))
theorem D.IV (fs:List A) (a:A):Bj (fs ++ [a])=Bj fs ++ [(.string (fF a),.int .i64 (fs.length:Nat))]:=by
 unfold Bj;rw [List.zipIdx_append,List.map_append];simp
theorem D.zG {fs:List A} {p:Value × Value}:p ∈ Bj fs ↔ ∃ i,∃ h:i < fs.length,p=(.string (fF fs[i]),.int .i64 (i:Nat)):=by
 unfold Bj;rw [List.mem_map];constructor
 ·rintro ⟨q,hq,rfl⟩
  obtain ⟨a,i⟩:=q;obtain ⟨h1,y,I⟩:=List.mem_zipIdx hq;simp at y I;exact ⟨i,y,by rw [← I]⟩
 ·rintro ⟨i,h,rfl⟩
  exact ⟨(fs[i],i),by rw [List.mem_zipIdx_iff_getElem?]; simp [h],rfl⟩
theorem D.VL {w:World} {Ad:Option Addr} {n c:Nat} {xs:List Nat} {b:List Nat} (h:jS w [.slice Ad n c] xs b):∀ x ∈ b,(Value.slice Ad n c).ownBlock=some x:=by
 obtain ⟨a0,cap,he,_,_,h0,h1⟩:=h;simp only [List.cons.injEq,Value.slice.injEq,and_true] at he;obtain ⟨rfl,rfl,rfl⟩:=he;intro x y;by_cases I:xs = []
 ·rw [h0 I] at y; simp at y
 ·obtain ⟨b0,o,rfl,F,G,rfl,h3⟩:=h1 I
  rcases ύ.1 y with rfl | y
  ·rfl
  ·obtain ⟨k,U,J⟩:=List.mem_flatMap.1 y
   have U:=List.mem_range.1 U;obtain ⟨_,_,h5⟩:=h3 k _ (Ψ U);rw [h5.2] at J;simp at J
theorem D.lT.view {B sb mu mp:Nat} {Af:Option Addr} {nf cf:Nat} {Lf:List Value} {fs:List A} {bf:List Nat} {Ar:Option Addr} {nr cr:Nat} {Lr:List Value} {rn:List Nat} {ou:List Nat} {w:World} (h:lT B sb mu mp Af nf cf Lf fs bf Ar nr cr Lr rn (Bj fs) (idxs fs) ou w) (B0:Nat) (I:B0≤sb∧B0≤mu∧B0≤mp∧B0≤B):
  ∃ bs,kW sb fs rn bs w∧∀ x ∈ bs,B0≤x∨x ∈ bf:=by
 obtain ⟨l1,l2,l3,_⟩:=h.lo;have hs:=h.qH;have J:=h.ef;have U:=h.er;subst J U;obtain ⟨b2,hF,a0⟩:=h.cF.slice;obtain ⟨b3,hR,a1⟩:=h.cR.slice;obtain ⟨rows,c,g1,g2,g3⟩:=h.un.ex;refine ⟨sb :: mu :: mp :: (b2 ++ b3 ++ ou),⟨⟨Af,cf,Ar,cr,mu,mp,b2,b3,(rows.map Nc).map (fun p=>(p.1,p.2.1)),Bj fs,h.blk,hF,hR,g1.YR,h.pl,fun k=>?_,fun s=>?_,fun p hp=>?_,by simp,by simp,fun b hb=>by simp [hb],fun b hb=>by simp [hb]⟩,by simp,fun x y=>?_⟩,fun x y=>?_⟩
 ·by_cases hex:∃ r ∈ rows,r.k=k
  ·obtain ⟨r,hr,rfl⟩:=hex
   obtain ⟨b,hb,_⟩:=(g2.coll r hr).slice;obtain ⟨Ad,cap,hv,_⟩:=aj hb;refine .inl ⟨r.v,b,List.mem_map.2 ⟨Nc r,List.mem_map.2 ⟨r,hr,rfl⟩,rfl⟩,hb,fun x y=>?_⟩;rw [hv] at hb;have:=g2.own r hr x (by rw [hv]; exact VL hb x y);simp [this]
  ·refine .inr ⟨fun p hp e=>?_,g3 k fun r hr e=>hex ⟨r,hr,e⟩⟩
   obtain ⟨q,hq,rfl⟩:=List.mem_map.1 hp;obtain ⟨r,hr,rfl⟩:=List.mem_map.1 hq;exact hex ⟨r,hr,Jt e⟩
 ·constructor
  ·rintro ⟨i,hi⟩
   obtain ⟨j,hj,e⟩:=zG.1 hi;simp at e;exact List.mem_map.2 ⟨fs[j],δ hj,e.1.symm⟩
  ·intro hm
   obtain ⟨f,hf,rfl⟩:=List.mem_map.1 hm;obtain ⟨j,hj,rfl⟩:=List.getElem_of_mem hf;exact ⟨j,zG.2 ⟨j,hj,rfl⟩⟩
 ·obtain ⟨i,hi,rfl⟩:=zG.1 hp
  exact ⟨i,rfl⟩
 ·simp only [ύ,μ] at y
  rcases y with rfl | rfl | rfl | (y | y) | y
  ·omega
  ·omega
  ·omega
  ·exact ak.lt hF x y
  ·exact dW.lt hR x y
  ·exact (h.ous x y).2
 ·simp only [ύ,μ] at y
  rcases y with rfl | rfl | rfl | (y | y) | y
  ·exact .inl I.1
  ·exact .inl I.2.1
  ·exact .inl I.2.2.1
  ·exact (a0 x y).imp (fun h=>by omega) id
  ·rcases a1 x y with h | h
   ·exact .inl (by omega)
   ·simp at h
  ·have:=(h.ous x y).1; exact .inl (by omega)
theorem D.NK {fs:List A} (hf:∀ f ∈ fs,bG f) {a:A} (ha:bG a) (y:a ∉ fs):∀ p ∈ Bj fs,p.1 ≠ .string (fF a):=fun p J e=>by
 obtain ⟨i,I,rfl⟩:=zG.1 J;simp at e;exact y (AX (hf _ (δ I)).ok ha.ok e ▸ δ I)
end
section
open Go.RowKit D
section
variable {vars:List ByteArray} {fs ps ns:List A} {head:A} {wt:Nat→Bool} {K:Nat→Prop} {sk:Nat} {T:Bool→World→List A→Prop} {go:List A→Bool} {b:Bd} {left m:Nat} {L:List Nat} {told ts:List A} {hd more s:Bool} {k:Nat} {w wr w5 w6:World}
def D.vw (vars:List ByteArray) (fs ps ns:List A) (head:A) (K:Nat→Prop) (sk:Nat) (T:Bool→World→List A→Prop) (go:List A→Bool) (b:Bd) (left:Nat) (told:List A) (w:World) (e:Ending) (w':World):Prop:=
 ∃ held more,e=.returned (.tuple #[.bool held,.bool more])∧jr vars fs ps ns head K sk T go b left told held more w w'
theorem D.jr.ret (P:jr vars fs ps ns head K sk T go b left told hd more w w5):vw vars fs ps ns head K sk T go b left told w (.returned (.tuple #[.bool hd,.bool more])) w5:=⟨hd,more,rfl,P⟩
theorem D.jr.bd {b':Bd} {y I:Bool} {J:Nat} {U:List A} (P:jr vars fs ps ns head K sk T go b' J U y I w w6):iR vars b' sk 18 w6:=by
 obtain ⟨_,_,h,_⟩:=P;exact h
structure D.iy (vars:List ByteArray) (fs ps ns:List A) (head:A) (K:Nat→Prop) (sk:Nat) (T:Bool→World→List A→Prop) (go:List A→Bool) (b:Bd) (left m:Nat) (L:List Nat) (told ts:List A) (hd more:Bool) (k:Nat) (w wr:World):Prop where
 kept:dm K sk w wr
 at_:iR vars b sk 18 wr
 st:T more wr (told ++ ts)
 sound:∀ t ∈ ts,∃ σ,wG fs ps ns b left σ∧iF σ head=t
 whole:more=true→∀ i,i < k→∀ (h:i < L.length) (j:Nat) (hj:j < fs.length),L[i]=j→∀ (hm:m < ps.length) σ,wG fs ps ns b left σ→iF σ ps[m]=fs[j]→iF σ head ∈ ts
 held:hd=true→ts ≠ []
 nogo:more=false→go (told ++ ts)=false
theorem D.iy.skip (I:iy vars fs ps ns head K sk T go b left m L told ts hd true k w wr) (hk:k < L.length) (hj:L[k] < fs.length) (hm:m < ps.length) (y:(aF ps[m] fs[L[k]] b).2=false)
  (k6:dm K sk wr w6) (J:iR vars b sk 18 w6) (U:T true w6 (told ++ ts)):iy vars fs ps ns head K sk T go b left m L told ts hd true (k+1) w w6:=by
 refine ⟨I.kept.trans k6,J,U,I.sound,fun _ i hi h j a0 e a1 σ hσ he=>?_,I.held,fun h=>by cases h⟩
 rcases Nat.lt_succ_iff_lt_or_eq.1 hi with h1 | rfl
 ·exact I.whole rfl i h1 h j a0 e a1 σ hσ he
 ·subst e
  rw [(oJ hσ.1 he).1] at y;cases y
theorem D.iy.took (I:iy vars fs ps ns head K sk T go b left m L told ts hd true k w wr) (hl:left < 16) (a1:ps.length≤4) (hk:k < L.length) (hj:L[k] < fs.length) (a2:Gr fs[L[k]]) (hm:m < ps.length) (a0:left.testBit m=true) (a3:(aF ps[m] fs[L[k]] b).2=true)
  {w4:World} {J y:Bool} (P:jr vars fs ps ns head K sk T go (aF ps[m] fs[L[k]] b).1 (left - 2 ^ m) (told ++ ts) J y w4 w5) (k4:dm K sk wr w4) (k6:dm K sk w5 w6) (a4:iR vars b sk 18 w6) (hT:∀ U,T y w5 U→T y w6 U):
  ∃ a5,iy vars fs ps ns head K sk T go b left m L told a5 (hd || J) y (k+1) w w6:=by
 obtain ⟨U,p1,p2,p3,p4,p5,p6,p7⟩:=P;refine ⟨ts ++ U,I.kept.trans (k4.trans (p1.trans k6)),a4,by rw [← List.append_assoc]; exact hT _ p3,fun t ht=>?_,fun a6 i hi h j a7 e a8 σ hσ he=>?_,fun hh=>?_,fun h=>by rw [← List.append_assoc]; exact p7 h⟩
 ·rcases μ.1 ht with ht | ht
  ·exact I.sound t ht
  ·obtain ⟨σ,h1,h2⟩:=p4 t ht
   exact ⟨σ,h1.back hl a1 hm a0 (δ _) a2 a3,h2⟩
 ·rcases Nat.lt_succ_iff_lt_or_eq.1 hi with h1 | rfl
  ·exact Ξ _ (I.whole rfl i h1 h j a7 e a8 σ hσ he)
  ·subst e
   exact Ω _ (p5 a6 σ (hσ.step hl a1 hm a0 he).2)
 ·intro e
  rcases List.append_eq_nil_iff.1 e with ⟨e1,e2⟩
  rcases Bool.or_eq_true_iff.1 hh with h | h
  ·exact I.held h e1
  ·exact p6 h e2
theorem D.iy.drewN {U c7:Addr} (I:iy vars fs ps ns head K sk T go b left m L told ts hd more k w wr) (hT:xZ vars head sk K U c7 T go) (hs:sk < w.heap.size) {n:Nat}:iy vars fs ps ns head K sk T go b left m L told ts hd more k w (wr.drewN n):=by
 have J:Below wr.heap.size wr (wr.drewN n):=IG ϑ n;have y:=κ hs I.kept.size;exact ⟨I.kept.trans (dm.of_below y J),I.at_.keep rfl,hT.keep _ _ _ I.st (dN.of_below J y),I.sound,I.whole,I.held,I.nogo⟩
theorem D.iy.off (I:iy vars fs ps ns head K sk T go b left m L told ts hd false k w wr):jr vars fs ps ns head K sk T go b left told hd false w wr:=
 ⟨ts,I.kept,I.at_,I.st,I.sound,fun h=>absurd h (by decide),I.held,I.nogo⟩
theorem D.iy.brk (hc:yO b head.args) (I:iy vars fs ps ns head K sk T go b left m L told ts true true k w wr):jr vars fs ps ns head K sk T go b left told true true w wr:=
 ⟨ts,I.kept,I.at_,I.st,I.sound,fun _ σ hσ=>VH hc I.sound (I.held rfl) σ hσ,I.held,I.nogo⟩
theorem D.iy.fin (E:sS vars fs ps ns head wt) {key:WK} {A9:Option Addr} {c9:Nat} {bs bx:List Nat} {w3:World} (C:xX fs ps b bs left m A9 c9 key bx w3) (hL:L=idxs fs key) (I:iy vars fs ps ns head K sk T go b left m L told ts hd true k w wr) (hk:L.length≤k):
  jr vars fs ps ns head K sk T go b left told hd true w wr:=by
 refine ⟨ts,I.kept,I.at_,I.st,I.sound,fun _ σ hσ=>?_,I.held,I.nogo⟩;have hin:=hσ.2.1 m C.lt C.bit;obtain ⟨j,J,e⟩:=List.getElem_of_mem hin;have U:=(oJ (f:=fs[j]) hσ.1 e.symm).1;have y:=C.key_ (ps[m]'C.lt) (Ψ _) fs[j] (E.fok _ (δ J)).gr U;have a0:j ∈ L:=by rw [hL]; exact FK.2 ⟨J,y⟩
 obtain ⟨i,hi,e2⟩:=List.getElem_of_mem a0;exact I.whole rfl i (by omega) hi j J e2 C.lt σ hσ e.symm
end
end
end Go.Proofs.YtkjinanbccloeaaGreatDoor
