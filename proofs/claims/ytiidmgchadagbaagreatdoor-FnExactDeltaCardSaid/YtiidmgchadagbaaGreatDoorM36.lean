/- Of the proof of FnExactDelta: StPI. -/
import Derived.Test.YtiidmgchadagbaaGreatDoorM34
set_option linter.unusedVariables false
set_option maxHeartbeats 4000000
set_option maxRecDepth 100000
namespace Go.Proofs.YtiidmgchadagbaaGreatDoor
open Go.RowKit D
attribute [local go_sem ↓] Go.wp_at_zero Go.wp_at_succ
theorem Oz:(Tryz.prog.info? 68).map (fun i=>(i.zero,i.size,i.bytes))=some (some (.agg #[.string ⟨#[]⟩,.slice none 0 0]),2,40):=by kernel_rfl
theorem Vp:(Tryz.prog.info? 3).map (fun i=>(i.zero,i.size,i.bytes))=some (some (.int .i64 0),1,8):=by kernel_rfl
theorem D.FH:Bf 1 xU:=fun h=>by obtain ⟨rfl,_⟩:=h; simp [Value.oneCell']
def D.uU (G:WK→List Nat) (a:A) (i j:Nat):WK→List Nat:=fun k=>if k ∈ (keysOf a).take j then G k ++ [i] else G k
theorem D.NQ {a:A} (h:aZ a=true):(a.args.length:Int)≤3:=by
 unfold aZ at h;simp only [Bool.and_eq_true,decide_eq_true_eq] at h;have:=h.1.2;omega
theorem D.NR (a:A):(keysOf a).Nodup:=by
 unfold keysOf;refine List.nodup_cons.2 ⟨fun h=>?_,?_⟩
 ·obtain ⟨i,hi,e⟩:=List.mem_mapIdx.1 h
  simp at e
 ·refine List.pairwise_iff_getElem.2 fun i j hi hj hij e=>?_
  simp at e;omega
theorem D.yB (a:A):(keysOf a).length=a.args.length+1:=by simp [keysOf]
theorem D.OA (a:A) (j:Nat) (h:j < a.args.length):(keysOf a)[j+1]'(by rw [yB]; omega)=⟨a.name,a.args.length,j,a.args[j].name⟩:=by simp [keysOf]
theorem D.Kz (G:WK→List Nat) (a:A) (i j:Nat) (h:j < (keysOf a).length):uU G a i j (keysOf a)[j]=G (keysOf a)[j]:=by
 unfold uU;rw [if_neg];intro hm;obtain ⟨m,hm1,hm2⟩:=List.getElem_of_mem hm;simp at hm1 hm2;exact List.pairwise_iff_getElem.1 (NR a) m j (by omega) h (by omega) hm2
theorem D.FI (G:WK→List Nat) (a:A) (i j:Nat) (h:j < (keysOf a).length):Du (uU G a i j) (keysOf a)[j] i=uU G a i (j+1):=by
 funext k
 unfold Du;by_cases e:k=(keysOf a)[j]
 ·rw [if_pos e,Kz G a i j h,e]
  unfold uU;rw [if_pos (by rw [List.take_succ_eq_append_getElem h]; exact List.mem_append_right _ (List.mem_singleton_self _))]
 ·rw [if_neg e]
  unfold uU
  have:k ∈ (keysOf a).take (j+1) ↔ k ∈ (keysOf a).take j:=by
   rw [List.take_succ_eq_append_getElem h,List.mem_append,List.mem_singleton];exact ⟨fun g=>g.resolve_right e,.inl⟩
  simp only [this]
theorem D.TR (G:WK→List Nat) (a:A) (i:Nat):Du G ⟨a.name,a.args.length,-1,⟨#[]⟩⟩ i=uU G a i 1:=by
 have h:=FI G a i 0 (by rw [yB]; omega);have e:uU G a i 0=G:=by funext k; unfold uU; simp
 rw [e] at h;exact h
theorem D.TT (fs:List A) (a:A):uU (idxs fs) a fs.length (a.args.length+1)=idxs (fs ++ [a]):=by
 funext k
 unfold uU;rw [List.take_of_length_le (by rw [yB]; omega),Qk]
 split <;> simp
def D.BoxOk (bx:Nat) (fr:List Nat) (a:A) (Ae:Option Addr) (ce:Nat) (w0 w:World):Prop:=w.heap[bx]? = some (.cells #[.string a.name,.slice Ae a.args.length ce] 68 (0,0))∧(∃ ba,aU w [.string a.name,.slice Ae a.args.length ce] a ba∧∀ x ∈ ba,x ∈ fr)∧(∀ x ∈ fr,x < w.heap.size)∧∀ x ∈ fr,w.heap[x]? = w0.heap[x]?
theorem D.BoxOk.keep {bx:Nat} {fr:List Nat} {a:A} {Ae:Option Addr} {ce:Nat} {w0 w w':World} (h:BoxOk bx fr a Ae ce w0 w) (h1:w'.heap[bx]? = w.heap[bx]?) (h2:∀ x ∈ fr,w'.heap[x]? = w.heap[x]?) (hs:w.heap.size≤w'.heap.size):BoxOk bx fr a Ae ce w0 w':=by
 obtain ⟨g1,⟨ba,g2,g3⟩,g4,g5⟩:=h;exact ⟨h1.trans g1,⟨ba,aj.keep g2 fun x hx=>h2 x (g3 x hx),g3⟩,fun x hx=>Nat.lt_of_lt_of_le (g4 x hx) hs,fun x hx=>(h2 x hx).trans (g5 x hx)⟩
def D.KA (B sb mu mp:Nat) (vF vR:Value) (ou:List Nat) (bx:Nat) (fr:List Nat):Prop:=Free B sb mu mp vF vR ou bx∧∀ x ∈ fr,Free B sb mu mp vF vR ou x
def D.jI (B sb mu mp nf nr:Nat) (fs:List A) (bf:List Nat) (rn:List Nat) (Lp:List (Value × Value)) (G:WK→List Nat) (B0 bx:Nat) (fr:List Nat) (a:A) (Ae:Option Addr) (ce:Nat) (w0 w:World):Prop:=
 ∃ Af cf Lf Ar cr Lr ou,kZ B sb mu mp Af nf cf Lf fs bf Ar nr cr Lr rn Lp G ou w∧KA B sb mu mp (.slice Af nf cf) (.slice Ar nr cr) ou bx fr∧BoxOk bx fr a Ae ce w0 w∧Below B0 w0 w∧B0≤B
theorem D.jI.fact {B sb mu mp nf nr cf:Nat} {Af Ar:Option Addr} {cr:Nat} {Lf Lr:List Value} {fs:List A} {bf:List Nat} {rn:List Nat} {Lp:List (Value × Value)} {G:WK→List Nat} {ou:List Nat} {B0 bx:Nat} {fr:List Nat} {a:A} {Ae:Option Addr} {ce:Nat} {w0 w:World}
  (h:kZ B sb mu mp Af nf cf Lf fs bf Ar nr cr Lr rn Lp G ou w) (hf:KA B sb mu mp (.slice Af nf cf) (.slice Ar nr cr) ou bx fr) (hx:BoxOk bx fr a Ae ce w0 w) (hb:Below B0 w0 w) (hB0:B0≤sb∧B0≤mu∧B0≤mp∧B0≤B)
  {w5:World} {A5:Option Addr} {c5:Nat} {cs:List Value} {ba:List Nat} (hrow:aV 2 aU w cs [a] ba)
  (hown:w5.ownsRow B 68 2 (.slice A5 (nf+1) c5) (nf+1) (Lf ++ cs)) (hg:w.grownBy w5 (Value.slice Af nf cf).ownBlock) (hloc:(Value.slice A5 (nf+1) c5).ownBlock=(Value.slice Af nf cf).ownBlock∨(Value.slice A5 (nf+1) c5).ownBlock=some w.heap.size)
  (hba:∀ x ∈ ba,Free B sb mu mp (.slice Af nf cf) (.slice Ar nr cr) ou x):w5.cell? ⟨sb,0,none⟩=some (.slice Af nf cf)∧w5.frozen? ⟨sb,0,none⟩=false∧jI B sb mu mp (nf+1) nr (fs ++ [a]) (bf ++ ba) rn Lp G B0 bx fr a Ae ce w0 (w5.setCell ⟨sb,0,none⟩ (.slice A5 (nf+1) c5)):=by
 obtain ⟨z1,z2,z3,z4,z5⟩:=h.fact hrow hown hg hloc hba;have hlt:=lt_of_block hx.1;have hs:=h.pX;refine ⟨z1,z2,A5,c5,_,Ar,cr,Lr,ou,z3,⟨⟨fun e=>?_,hf.1.r,hf.1.u,hf.1.s⟩,fun x hx'=>⟨fun e=>?_,(hf.2 x hx').r,(hf.2 x hx').u,(hf.2 x hx').s⟩⟩,hx.keep (z4 bx hlt hf.1.f hf.1.s.1) (fun x hx'=>z4 x (hx.2.2.1 x hx') (hf.2 x hx').f (hf.2 x hx').s.1) (by have:=hg.size; simp [World.setCell]; omega),?_,hB0.2.2.2⟩
 ·rcases z5 bx e with e | e
  ·exact hf.1.f e
  ·omega
 ·rcases z5 x e with e | e
  ·exact (hf.2 x hx').f e
  ·have:=hx.2.2.1 x hx'; omega
 ·have hg2:Below B0 w0 w5:=hb.grown hg (Nat.le_trans hB0.2.2.2 hs) fun k e=>Nat.le_trans hB0.2.2.2 (bD h.cF.own e).1
  exact hg2.setCell (p:=⟨sb,0,none⟩) hB0.1 _
theorem D.jI.round {B sb mu mp nf nr cf:Nat} {Af Ar:Option Addr} {cr:Nat} {Lf Lr:List Value} {fs:List A} {bf:List Nat} {rn:List Nat} {Lp:List (Value × Value)} {G:WK→List Nat} {ou:List Nat} {B0 bx:Nat} {fr:List Nat} {a:A} {Ae:Option Addr} {ce:Nat} {w0 w:World}
  (h:kZ B sb mu mp Af nf cf Lf fs bf Ar nr cr Lr rn Lp G ou w) (hf:KA B sb mu mp (.slice Af nf cf) (.slice Ar nr cr) ou bx fr) (hx:BoxOk bx fr a Ae ce w0 w) (hb:Below B0 w0 w) (hB0:B0≤sb∧B0≤mu∧B0≤mp∧B0≤B)
  {w5:World} {A5:Option Addr} {c5:Nat} {cs:List Value} {i:Nat} (hrow:aV 1 xU w cs [i] [])
  (hown:w5.ownsRow B 3 1 (.slice A5 (nr+1) c5) (nr+1) (Lr ++ cs)) (hg:w.grownBy w5 (Value.slice Ar nr cr).ownBlock) (hloc:(Value.slice A5 (nr+1) c5).ownBlock=(Value.slice Ar nr cr).ownBlock∨(Value.slice A5 (nr+1) c5).ownBlock=some w.heap.size):
  w5.cell? ⟨sb,1,none⟩=some (.slice Ar nr cr)∧w5.frozen? ⟨sb,1,none⟩=false∧jI B sb mu mp nf (nr+1) fs bf (rn ++ [i]) Lp G B0 bx fr a Ae ce w0 (w5.setCell ⟨sb,1,none⟩ (.slice A5 (nr+1) c5)):=by
 obtain ⟨z1,z2,z3,z4,z5⟩:=h.round hrow hown hg hloc;have hlt:=lt_of_block hx.1;have hs:=h.pX;refine ⟨z1,z2,Af,cf,Lf,A5,c5,_,ou,z3,⟨⟨hf.1.f,fun e=>?_,hf.1.u,hf.1.s⟩,fun x hx'=>⟨(hf.2 x hx').f,fun e=>?_,(hf.2 x hx').u,(hf.2 x hx').s⟩⟩,hx.keep (z4 bx hlt hf.1.r hf.1.s.1) (fun x hx'=>z4 x (hx.2.2.1 x hx') (hf.2 x hx').r (hf.2 x hx').s.1) (by have:=hg.size; simp [World.setCell]; omega),?_,hB0.2.2.2⟩
 ·rcases z5 bx e with e | e
  ·exact hf.1.r e
  ·omega
 ·rcases z5 x e with e | e
  ·exact (hf.2 x hx').r e
  ·have:=hx.2.2.1 x hx'; omega
 ·have hg2:Below B0 w0 w5:=hb.grown hg (Nat.le_trans hB0.2.2.2 hs) fun k e=>Nat.le_trans hB0.2.2.2 (bD h.cR.own e).1
  exact hg2.setCell (p:=⟨sb,1,none⟩) hB0.1 _
theorem D.jI.later {B sb mu mp nf nr:Nat} {fs:List A} {bf:List Nat} {rn:List Nat} {Lp:List (Value × Value)} {G:WK→List Nat} {B0 bx:Nat} {fr:List Nat} {a:A} {Ae:Option Addr} {ce:Nat} {w0 w w':World} (h:jI B sb mu mp nf nr fs bf rn Lp G B0 bx fr a Ae ce w0 w) (hk:Below w.heap.size w w'):jI B sb mu mp nf nr fs bf rn Lp G B0 bx fr a Ae ce w0 w':=by
 obtain ⟨Af,cf,Lf,Ar,cr,Lr,ou,h1,h2,h3,h4,h5⟩:=h;have hs:=h1.pX;exact ⟨Af,cf,Lf,Ar,cr,Lr,ou,h1.later hk,h2,h3.keep (hk.block _ (lt_of_block h3.1)) (fun x hx=>hk.block x (h3.2.2.1 x hx)) hk.size,h4.trans (hk.mono (by omega)),h5⟩
theorem D.jI.place {B sb mu mp nf nr:Nat} {fs:List A} {bf:List Nat} {rn:List Nat} {Lp:List (Value × Value)} {G:WK→List Nat} {B0 bx:Nat} {fr:List Nat} {a:A} {Ae:Option Addr} {ce:Nat} {w0 w:World} (h:jI B sb mu mp nf nr fs bf rn Lp G B0 bx fr a Ae ce w0 w) (hB:B0≤mp) {s:ByteArray} (hs:s.size≤maxLen) (v:Value) (hno:∀ p ∈ Lp,p.1 ≠ .string s):
  ∃ w9,(Instr.mapUpdate 85 (.map (some mp)) (.string s) v).run Tryz.prog w=.ok () w9∧jI B sb mu mp nf nr fs bf rn (Lp ++ [(.string s,v)]) G B0 bx fr a Ae ce w0 w9:=by
 obtain ⟨Af,cf,Lf,Ar,cr,Lr,ou,h1,h2,h3,h4,h5⟩:=h;obtain ⟨w9,r1,r2,r3,-⟩:=xY mP (w:=w) trivial Tryz.underlying85 v h1.pl ⟨_,rfl,hs⟩ hno;have hz:=h1.pX;exact ⟨w9,r1,Af,cf,Lf,Ar,cr,Lr,ou,h1.place r2 r3,h2,h3.keep (r3.block _ (lt_of_block h3.1) (fun e=>h2.1.s.2.2 (by injection e))) (fun x hx=>r3.block x (h3.2.2.1 x hx) (fun e=>(h2.2 x hx).s.2.2 (by injection e))) r3.size,h4.grown r3 (by omega) fun k e=>by injection e with e; omega,h5⟩
structure D.KC (B sb mu mp nf nr:Nat) (fs:List A) (bf:List Nat) (rn:List Nat) (Lp:List (Value × Value)) (G:WK→List Nat) (B0 bx:Nat) (fr:List Nat) (a:A) (Ae:Option Addr) (ce:Nat) (w0:World) (k:WK) (u:Value) (L:List Value) (n:Nat) (w:World):Prop where
 ex:∃ Af cf Lf Ar cr Lr ou w1,kZ B sb mu mp Af nf cf Lf fs bf Ar nr cr Lr rn Lp G ou w1∧KA B sb mu mp (.slice Af nf cf) (.slice Ar nr cr) ou bx fr∧BoxOk bx fr a Ae ce w0 w1∧Below B0 w0 w1∧B0≤B∧B0≤mu∧
  Dt B mu G ou k u L n w∧w1.grownBy w (some mu)
theorem D.jI.entry {B sb mu mp nf nr:Nat} {fs:List A} {bf:List Nat} {rn:List Nat} {Lp:List (Value × Value)} {G:WK→List Nat} {B0 bx:Nat} {fr:List Nat} {a:A} {Ae:Option Addr} {ce:Nat} {w0 w:World} (h:jI B sb mu mp nf nr fs bf rn Lp G B0 bx fr a Ae ce w0 w) (hB:B0≤mu) (k:WK):
  ∃ r w9,(Instr.mapEntry 84 (.map (some mu)) (.agg #[.string k.name,.int .i64 k.size,.int .i64 k.place,.string k.word])).run Tryz.prog w=.ok r w9∧∃ u n L,r=.tuple #[u,.int .i64 (n:Nat)]∧KC B sb mu mp nf nr fs bf rn Lp G B0 bx fr a Ae ce w0 k u L n w9∧w.grownBy w9 (some mu):=by
 obtain ⟨Af,cf,Lf,Ar,cr,Lr,ou,h1,h2,h3,h4,h5⟩:=h;obtain ⟨w9,u,n,L,r1,r2,r3⟩:=h1.un.entry h1.lo.2.1 k;exact ⟨_,w9,r1,u,n,L,rfl,⟨Af,cf,Lf,Ar,cr,Lr,ou,w,h1,h2,h3,h4,h5,hB,r2,r3⟩,r3⟩
section
variable {B sb mu mp nf nr:Nat} {fs:List A} {bf:List Nat} {rn:List Nat} {Lp:List (Value × Value)} {G:WK→List Nat} {B0 bx:Nat} {fr:List Nat} {a:A} {Ae:Option Addr} {ce:Nat} {w0 w w':World} {k:WK} {u:Value} {L:List Value} {n:Nat}
theorem D.KC.own (h:KC B sb mu mp nf nr fs bf rn Lp G B0 bx fr a Ae ce w0 k u L n w):w.ownsRow B 3 1 u (G k).length L:=by
 obtain ⟨_,_,_,_,_,_,_,_,_,_,_,_,_,_,h,_⟩:=h.ex;exact h.coll.own
theorem D.KC.pX (h:KC B sb mu mp nf nr fs bf rn Lp G B0 bx fr a Ae ce w0 k u L n w):B≤w.heap.size:=by
 obtain ⟨_,_,_,_,_,_,_,w1,h1,_,_,_,_,_,_,h9⟩:=h.ex;exact Nat.le_trans h1.pX h9.size
theorem D.KC.store (h:KC B sb mu mp nf nr fs bf rn Lp G B0 bx fr a Ae ce w0 k u L n w) (hk:Below w.heap.size w w') {A5:Option Addr} {c5 i:Nat} {w5:World} (hown:w5.ownsRow B 3 1 (.slice A5 ((G k).length+1) c5) ((G k).length+1) (L ++ [.int .i64 (i:Nat)])) (hg:w'.grownBy w5 u.ownBlock)
  (hloc:(Value.slice A5 ((G k).length+1) c5).ownBlock=u.ownBlock∨(Value.slice A5 ((G k).length+1) c5).ownBlock=some w'.heap.size):
  ∃ w9,(Instr.entryStore 84 (.map (some mu)) (.int .i64 (n:Nat)) (.slice A5 ((G k).length+1) c5)).run Tryz.prog w5=.ok () w9∧jI B sb mu mp nf nr fs bf rn Lp (Du G k i) B0 bx fr a Ae ce w0 w9:=by
 obtain ⟨Af,cf,Lf,Ar,cr,Lr,ou,w1,h1,h2,h3,h4,h5,h6,h7,h8⟩:=h.ex;have hmu:mu < w.heap.size:=by have:=h1.pX; have:=h1.lo.2.1; have:=h8.size; omega
 have hou:∀ x ∈ ou,x < w.heap.size:=fun x hx=>Nat.lt_of_lt_of_le (h1.ous x hx).2 h8.size
 have hP:=h7.keep (w':=w') (hk.block _ hmu) fun x hx=>hk.block x (hou x hx)
 have hC:cO 1 xU B 3 w5 (.slice A5 ((G k).length+1) c5) (L ++ [.int .i64 (i:Nat)]) (G k ++ [i]) []:=hP.coll.app iW (aV.dB FH ⟨rfl,rfl⟩) (fun b hb=>by simp at hb) hown hg hloc;obtain ⟨w9,ou',r1,r2,r3,r4⟩:=hP.store h1.lo.2.1 hg hC hloc;have hs1:=h8.size;have hs2:=hk.size;have hs3:=hg.size;have hs4:=r3.size;have ku:∀ x,u.ownBlock=some x→x ∈ ou:=hP.own
 have kp:∀ x,x < w1.heap.size→x ≠ mu→x ∉ ou→w9.heap[x]? = w1.heap[x]?:=fun x hx hne hno=>
  (r3.block x (by omega) (fun e=>hne (by injection e))).trans ((hg.block x (by omega) (fun e=>hno (ku x e.symm))).trans ((hk.block x (by omega)).trans (h8.block x hx (fun e=>hne (by injection e)))))
 have new:∀ x ∈ ou',x ∈ ou∨(w1.heap.size≤x∧x < w9.heap.size):=fun x hx=>by
  rcases r4 x hx with g | ⟨g1,g2⟩
  ·exact .inl g
  ·have:=(bD hown g1).2
   exact .inr ⟨by omega,by omega⟩
 have hbx:=lt_of_block h3.1;have hz1:=h1.pX;refine ⟨w9,r1,Af,cf,Lf,Ar,cr,Lr,ou',h1.under (by omega) kp r2 new,⟨⟨h2.1.f,h2.1.r,fun e=>?_,h2.1.s⟩,fun x hx=>⟨(h2.2 x hx).f,(h2.2 x hx).r,fun e=>?_,(h2.2 x hx).s⟩⟩,h3.keep (kp bx hbx h2.1.s.2.1 h2.1.u) (fun x hx=>kp x (h3.2.2.1 x hx) (h2.2 x hx).s.2.1 (h2.2 x hx).u) (by omega),⟨?_,?_,?_,by have:=h4.size; omega,fun x hx=>?_⟩,h5⟩
 ·rcases new bx e with g | g
  ·exact h2.1.u g
  ·omega
 ·rcases new x e with g | g
  ·exact (h2.2 x hx).u g
  ·have:=h3.2.2.1 x hx; omega
 ·exact r3.os.trans (hg.os.trans (hk.os.trans (h8.os.trans h4.os)))
 ·exact r3.tape.trans (hg.tape.trans (hk.tape.trans (h8.tape.trans h4.tape)))
 ·exact r3.output.trans (hg.output.trans (hk.output.trans (h8.output.trans h4.output)))
 ·exact (kp x (by omega) (by omega) (fun e=>by have:=(h1.ous x e).1; omega)).trans (h4.block x hx)
end
section
variable {P:Program} {ops:Array Oper} {rest:List Oper} {o:Oper} {a:Act} {Q:Exit→Act→World→Prop}
end
theorem D.jI.cells {B sb mu mp nf nr:Nat} {fs:List A} {bf:List Nat} {rn:List Nat} {Lp:List (Value × Value)} {G:WK→List Nat} {B0 bx:Nat} {fr:List Nat} {a:A} {Ae:Option Addr} {ce:Nat} {w0 w:World} (h:jI B sb mu mp nf nr fs bf rn Lp G B0 bx fr a Ae ce w0 w):
  w.cell? ⟨sb,2,none⟩=some (.map (some mu))∧w.cell? ⟨sb,3,none⟩=some (.map (some mp))∧w.cell? ⟨bx,0,none⟩=some (.string a.name)∧w.cell? ⟨bx,1,none⟩=some (.slice Ae a.args.length ce)∧sb < w.heap.size∧bx < w.heap.size∧∃ ba,aU w [.string a.name,.slice Ae a.args.length ce] a ba:=by
 obtain ⟨Af,cf,Lf,Ar,cr,Lr,ou,h1,h2,h3,h4,h5⟩:=h;obtain ⟨ba,g,_⟩:=h3.2.1;exact ⟨ak h1.blk,ak h1.blk,ak h3.1,ak h3.1,lt_of_block h1.blk,lt_of_block h3.1,ba,g⟩
theorem put_any (B sb mu mp:Nat) (Af:Option Addr) (cf:Nat) (Lf:List Value) (fs:List A) (bf:List Nat) (Ar:Option Addr) (cr:Nat) (Lr:List Value) (rn:List Nat) (Lp:List (Value × Value)) (ou:List Nat) (a:A) (c1:Value) (ba:List Nat) (fr:List Nat) (rd:Nat) (w:World)
  (S:kZ B sb mu mp Af fs.length cf Lf fs bf Ar rn.length cr Lr rn Lp (idxs fs) ou w) (ha:aU w [.string a.name,c1] a ba) (hsb:∀ x ∈ ba,x ∈ fr) (hba:∀ x ∈ fr,Free B sb mu mp (.slice Af fs.length cf) (.slice Ar rn.length cr) ou x) (hfr:∀ x ∈ fr,x < w.heap.size) (hok:aZ a=true) (hno:∀ p ∈ Lp,p.1 ≠ .string (eu a)) (hfl:fs.length≤1000000) (hrl:rn.length≤1000000) (B0:Nat) (hB0:B0≤sb∧B0≤mu∧B0≤mp∧B0≤B):
  Calls Tryz.prog 75 #[.pointer (some ⟨sb,0,none⟩),.agg #[.string a.name,c1],.int .i64 rd] w fun e w'=>e=.returned (.tuple #[])∧Below B0 w w'∧
   ∃ Af' cf' Lf' Ar' cr' Lr' ou',kZ B sb mu mp Af' (fs.length+1) cf' Lf' (fs ++ [a]) (bf ++ ba) Ar' (rn.length+1) cr' Lr' (rn ++ [rd]) (Lp ++ [(.string (eu a),.int .i64 (fs.length:Nat))]) (idxs (fs ++ [a])) ou' w'∧∀ x ∈ fr,Free B sb mu mp (.slice Af' (fs.length+1) cf') (.slice Ar' (rn.length+1) cr') ou' x∧w'.heap[x]? = w.heap[x]?:=by
 obtain ⟨i0,hi,hz0,hz1,hz2⟩:=info_parts Oz;obtain ⟨i9,hj,hj0,hj1,hj2⟩:=info_parts Vp;obtain ⟨Ae,ce,_,rfl⟩:=bJ ha;have hA:Below w.heap.size w (w.alloc (.cells #[.string a.name,.slice Ae a.args.length ce] 68)):=(Below.refl _ _).alloc (Nat.le_refl _) _;have hS1:=S.later hA;have ha1:=aj.below ha hA;have hx0:(w.alloc (.cells #[.string a.name,.slice Ae a.args.length ce] 68)).heap[w.heap.size]? = some (.cells #[.string a.name,.slice Ae a.args.length ce] 68 (0,0)):=heap_alloc_new _ _;have hlit:∀ w2:World,Below (w.alloc (.cells #[.string a.name,.slice Ae a.args.length ce] 68)).heap.size (w.alloc (.cells #[.string a.name,.slice Ae a.args.length ce] 68)) w2→aV 2 aU w2 [.string a.name,.slice Ae a.args.length ce] [a] ba:=fun w2 h2=>aV.dB dP (aj.below ha1 h2)
 have q0:(w.alloc (.cells #[.string a.name,.slice Ae a.args.length ce] 68)).cell? ⟨sb,0,none⟩=some (.slice Af fs.length cf):=ak hS1.blk;have q1:(w.alloc (.cells #[.string a.name,.slice Ae a.args.length ce] 68)).frozen? ⟨sb,0,none⟩=false:=aB hS1.blk;have q2:sb < (w.alloc (.cells #[.string a.name,.slice Ae a.args.length ce] 68)).heap.size:=lt_of_block hS1.blk;have HS:=η hS1;have HX0:=η hx0;have HLIT:=η hlit;have HA1:=η ha1;have HA:=η hA;have H63:Hid (fs.length+1≤maxLen∧(fs.length+1) * 40≤140737488355328):=η (by unfold maxLen; omega);have z0:(w.alloc (.cells #[.string a.name,.slice Ae a.args.length ce] 68)).cell? ⟨w.heap.size,0,none⟩=some (.string a.name):=by go_simp
 have z1:(w.alloc (.cells #[.string a.name,.slice Ae a.args.length ce] 68)).cell? ⟨w.heap.size,1,none⟩=some (.slice Ae a.args.length ce):=by go_simp
 have hw1:(w.alloc (.cells #[.string a.name,.slice Ae a.args.length ce] 68)).heap.size=w.heap.size+1:=by simp
 have hlt0:w.heap.size < (w.alloc (.cells #[.string a.name,.slice Ae a.args.length ce] 68)).heap.size:=by rw [hw1]; omega
 have hsb9:sb < w.heap.size:=lt_of_block S.blk
 have HFR:Hid (KA B sb mu mp (.slice Af fs.length cf) (.slice Ar rn.length cr) ou w.heap.size fr):=η (by
  obtain ⟨l1,l2,l3,_⟩:=S.lo;have hs:=S.pX
  exact ⟨⟨fun e=>by have:=(bD S.cF.own e).2; omega,fun e=>by have:=(bD S.cR.own e).2; omega,fun e=>by have:=(S.ous _ e).2; omega,by omega⟩,hba⟩)
 have HW1:=η hw1;clear S ha hA hS1 ha1 hx0 hlit hw1
 go_enter Tryz.func75,Tryz.ntmps75
 go_wp2;generalize w.alloc (.cells #[.string a.name,.slice Ae a.args.length ce] 68)=W1 at *;have hL:Below W1.heap.size W1 (W1.drew.alloc (.cells #[.string a.name,.slice Ae a.args.length ce] 68)):=((Below.refl _ _).drew).alloc (Nat.le_refl _) _;have HSL:=η (HS.out.later hL);have HRW:=η (HLIT.out _ hL)
 have HLI:Hid (Lies (W1.drew.alloc (.cells #[.string a.name,.slice Ae a.args.length ce] 68)) (some ⟨W1.heap.size,0,none⟩) [.string a.name,.slice Ae a.args.length ce]):=η (by
  have:=aS (heap_alloc_new W1.drew (.cells #[.string a.name,.slice Ae a.args.length ce] 68)); simpa using this)
 have hxb:(W1.drew.alloc (.cells #[.string a.name,.slice Ae a.args.length ce] 68)).heap[w.heap.size]? = some (.cells #[.string a.name,.slice Ae a.args.length ce] 68 (0,0)):=(hL.block _ hlt0).trans HX0.out;have HXB:Hid (BoxOk w.heap.size fr a Ae ce w (W1.drew.alloc (.cells #[.string a.name,.slice Ae a.args.length ce] 68))):=η ⟨hxb,⟨ba,aj.below HA1.out hL,hsb⟩,fun x hx=>Nat.lt_of_lt_of_le (Nat.lt_of_lt_of_le (hfr x hx) HA.out.size) hL.size,fun x hx=>(hL.block x (Nat.lt_of_lt_of_le (hfr x hx) HA.out.size)).trans (HA.out.block x (hfr x hx))⟩;have HBL:Hid (Below B0 w (W1.drew.alloc (.cells #[.string a.name,.slice Ae a.args.length ce] 68))):=η ((HA.out.trans (hL.mono HA.out.size)).mono (by omega));clear hxb hL
 go_cut [] from 16 to 25 (fun wx=>jI B sb mu mp (fs.length+1) rn.length (fs ++ [a]) (bf ++ ba) rn Lp (idxs fs) B0 w.heap.size fr a Ae ce w wx)
 case first=>
  go_region_law
   (first
    | (refine iC (by rfl) (.tmp 20) (.tmp 22) _ (by rfl) B 68 i0 (.agg #[.string ⟨#[]⟩,.slice none 0 0]) 2 40 Tryz.underlying26 hi hz0 hz1 hz2 rfl (Nat.zero_lt_succ 1) (.slice Af fs.length cf) fs.length Lf (by rfl) HSL.out.cF.own (some ⟨W1.heap.size,0,none⟩) 1 1 _ (by rfl) rfl HLI.out HRW.out.one H63.out.1 H63.out.2 HSL.out.pX ?_; intro A5 c5 w5 h5 g5 l5; have HZ:=η (jI.fact HSL.out HFR.out HXB.out HBL.out hB0 HRW.out h5 g5 l5 fun x hx=>hba x (hsb x hx)); replace q0:=HZ.out.1; replace q1:=HZ.out.2.1; clear h5 g5 l5))
  all_goals
   have HZ2:=η HZ.out.2.2;clear q0 q1 HZ
   go_wp2_with fail
   go_meet
   exact HZ2.out
 case rest=>
  clear HSL HRW HLI HXB HBL HS HFR q0 q1 q2 z0 z1 HX0;obtain ⟨Af2,cf2,Lf2,Ar2,cr2,Lr2,ou2,S2,F2,X2,B2,_⟩:=hcut;have hL3:Below wc.heap.size wc (wc.alloc (.cells #[.int .i64 rd] 3)):=(Below.refl _ _).alloc (Nat.le_refl _) _;have hs2:=S2.pX;have HSL:=η (S2.later hL3);have HF2:=η F2;have HX2:=η (X2.keep (hL3.block _ (lt_of_block X2.1)) (fun x hx=>hL3.block x (X2.2.2.1 x hx)) hL3.size);have HB2:=η (B2.trans (hL3.mono (by omega)));have HRW:Hid (aV 1 xU (wc.alloc (.cells #[.int .i64 rd] 3)) [.int .i64 (rd:Nat)] [rd] []):=η (aV.dB FH ⟨rfl,rfl⟩)
  have HLI:Hid (Lies (wc.alloc (.cells #[.int .i64 rd] 3)) (some ⟨wc.heap.size,0,none⟩) [.int .i64 (rd:Nat)]):=η (by
   have:=aS (heap_alloc_new wc (.cells #[.int .i64 rd] 3)); simpa using this)
  have H64:Hid (rn.length+1≤maxLen∧(rn.length+1) * 8≤140737488355328):=η (by unfold maxLen; omega);have q0:wc.cell? ⟨sb,1,none⟩=some (.slice Ar2 rn.length cr2):=ak S2.blk;have q1:wc.frozen? ⟨sb,1,none⟩=false:=aB S2.blk;have q2:sb < wc.heap.size:=lt_of_block S2.blk;clear S2 F2 X2 B2 hL3
  go_wp2_with (first | (at_builtin; refine vO (by rfl) (.tmp 30) (.tmp 32) _ (by rfl) B 3 i9 (.int .i64 0) 1 8 Tryz.underlying37 hj hj0 hj1 hj2 rfl (Nat.zero_lt_succ 0) (.slice Ar2 rn.length cr2) rn.length Lr2 (by rfl) HSL.out.cR.own (some ⟨wc.heap.size,0,none⟩) 1 1 _ (by rfl) rfl HLI.out HRW.out.one H64.out.1 H64.out.2 HSL.out.pX ?_; intro A5 c5 w5 h5 g5 l5; have HZ:=η (jI.round HSL.out HF2.out HX2.out HB2.out hB0 HRW.out h5 g5 l5); replace q0:=HZ.out.1; replace q1:=HZ.out.2.1; clear h5 g5 l5) | go_in)
  have HP3:=η HZ.out.2.2;clear q0 q1 q2 HZ HSL HF2 HX2 HB2 HRW HLI;generalize (w5.setCell ⟨sb,1,none⟩ (.slice A5 (rn.length+1) c5))=W3 at *;obtain ⟨_,y3,y4,y5,y6,y7,ba3,hat3⟩:=HP3.out.cells;have hT:=η (qU a (.string a.name) (.slice Ae a.args.length ce) ba3 W3.drew (aj.keep hat3 fun _ _=>rfl) (by have:=G7 hok; omega));have HUP:Hid (∀ w2:World,Below W3.heap.size W3 w2→∃ w9,(Instr.mapUpdate 85 (.map (some mp)) (.string ⟨(xg a).toArray⟩) (.int .i64 fs.length)).run Tryz.prog w2=.ok () w9∧jI B sb mu mp (fs.length+1) (rn.length+1) (fs ++ [a]) (bf ++ ba) (rn ++ [rd]) (Lp ++ [(.string (eu a),.int .i64 (fs.length:Nat))]) (idxs fs) B0 w.heap.size fr a Ae ce w w9):=η fun w2 h2=>(HP3.out.later h2).place hB0.2.2.1 (ru hok) _ hno
  clear hat3
  go_cut [] from 36 to 42 (fun wx=>jI B sb mu mp (fs.length+1) (rn.length+1) (fs ++ [a]) (bf ++ ba) (rn ++ [rd]) (Lp ++ [(.string (eu a),.int .i64 (fs.length:Nat))]) (idxs fs) B0 w.heap.size fr a Ae ce w wx)
  case first=>
   go_region_law
    (first
     | (go_simp; go_at_call 110; refine hT.out.mono ?_; rintro e w2 ⟨rfl,hb2⟩; have HB2:=η ((Below.refl W3.heap.size W3).drew.trans hb2); replace y3:=cell_later HB2.out y3; obtain ⟨w9,hup,hF9⟩:=HUP.out w2 HB2.out; have HF9:=η hF9; clear hb2 hF9))
   all_goals
    clear y3 y4 y5 hup HB2
    go_wp2_with fail
    go_meet
    exact HF9.out
  case rest=>
   have HP4:=η hcut;clear hcut HP3 hT HUP y3 y4 y5 y6 y7;obtain ⟨y2,_,y4,y5,y6,y7,_⟩:=HP4.out.cells;have hK0:Below wc.heap.size wc (wc.alloc (.cells #[.string a.name,.int .i64 a.args.length,.int .i64 (-1),.string ⟨#[]⟩] 165)):=(Below.refl _ _).alloc (Nat.le_refl _) _;have HP5:=η (HP4.out.later hK0);have k0:(wc.alloc (.cells #[.string a.name,.int .i64 a.args.length,.int .i64 (-1),.string ⟨#[]⟩] 165)).cell? ⟨wc.heap.size,0,none⟩=some (.string a.name):=by go_simp
   have k1:(wc.alloc (.cells #[.string a.name,.int .i64 a.args.length,.int .i64 (-1),.string ⟨#[]⟩] 165)).cell? ⟨wc.heap.size,1,none⟩=some (.int .i64 a.args.length):=by go_simp
   have k2:(wc.alloc (.cells #[.string a.name,.int .i64 a.args.length,.int .i64 (-1),.string ⟨#[]⟩] 165)).cell? ⟨wc.heap.size,2,none⟩=some (.int .i64 (-1)):=by go_simp
   have k3:(wc.alloc (.cells #[.string a.name,.int .i64 a.args.length,.int .i64 (-1),.string ⟨#[]⟩] 165)).cell? ⟨wc.heap.size,3,none⟩=some (.string ⟨#[]⟩):=by go_simp
   have x2:=cell_later hK0 y2;have kz:=lt_of_cell k0;have sz:sb < (wc.alloc (.cells #[.string a.name,.int .i64 a.args.length,.int .i64 (-1),.string ⟨#[]⟩] 165)).heap.size:=by simp; omega
   clear hK0;go_wp2;generalize wc.alloc (.cells #[.string a.name,.int .i64 a.args.length,.int .i64 (-1),.string ⟨#[]⟩] 165)=W5 at *;have b1:Below W5.heap.size W5 W5.drew:=(Below.refl _ _).drew;have b2:Below W5.heap.size W5 (W5.alloc (.cells #[.int .i64 fs.length] 3)).drew:=((Below.refl _ _).alloc (Nat.le_refl _) _).drew;have HBB:=η (And.intro b1 b2);have HEN:Hid (∀ w':World,Below W5.heap.size W5 w'→∃ r w9,(Instr.mapEntry 84 (.map (some mu)) (.agg #[.string a.name,.int .i64 a.args.length,.int .i64 (-1),.string ⟨#[]⟩])).run Tryz.prog w'=.ok r w9∧∃ u n L,r=.tuple #[u,.int .i64 (n:Nat)]∧KC B sb mu mp (fs.length+1) (rn.length+1) (fs ++ [a]) (bf ++ ba) (rn ++ [rd]) (Lp ++ [(.string (eu a),.int .i64 (fs.length:Nat))]) (idxs fs) B0 w.heap.size fr a Ae ce w ⟨a.name,a.args.length,-1,⟨#[]⟩⟩ u L n w9∧w'.grownBy w9 (some mu)):=η fun w' h'=>(HP5.out.later h').entry hB0.2.1 ⟨a.name,a.args.length,-1,⟨#[]⟩⟩
   have HMU:Hid (mu < W5.heap.size):=η (by
    obtain ⟨_,_,_,_,_,_,_,h1,_⟩:=HP5.out
    have:=h1.pX; have:=h1.lo.2.1; omega)
   have HLB:Hid ((W5.alloc (.cells #[.int .i64 fs.length] 3)).drew.heap[W5.heap.size]? = some (.cells #[.int .i64 fs.length] 3 (0,0))):=η (heap_alloc_new W5 _)
   have HLN:Hid ((idxs fs ⟨a.name,a.args.length,-1,⟨#[]⟩⟩).length+1≤maxLen∧((idxs fs ⟨a.name,a.args.length,-1,⟨#[]⟩⟩).length+1) * 8≤140737488355328):=η (by
    have:=ng fs ⟨a.name,a.args.length,-1,⟨#[]⟩⟩
    unfold maxLen; omega)
   obtain ⟨_,we1,hrun1,u1,n1,L1,rfl,hPE1,hge1⟩:=HEN.out _ b1;obtain ⟨_,we2,hrun2,u2,n2,L2,rfl,hPE2,hge2⟩:=HEN.out _ b2;have HPE1:=η hPE1;have HPE2:=η hPE2
   have HLA2:Hid (Lies we2 (some ⟨W5.heap.size,0,none⟩) [.int .i64 (fs.length:Nat)]):=η (by
    have hh:=(hge2.block W5.heap.size (by simp) (fun e=>by have:=HMU.out; injection e with e; omega)).trans HLB.out
    have:=aS hh; simpa using this)
   clear b1 b2 hPE1 hPE2 hge1 hge2
   go_cut [] from 49 to 59 (fun wx=>jI B sb mu mp (fs.length+1) (rn.length+1) (fs ++ [a]) (bf ++ ba) (rn ++ [rd]) (Lp ++ [(.string (eu a),.int .i64 (fs.length:Nat))]) (Du (idxs fs) ⟨a.name,a.args.length,-1,⟨#[]⟩⟩ fs.length) B0 w.heap.size fr a Ae ce w wx)
   case first=>
    go_region_law
     (first
      | (refine iC (by rfl) (.tmp 54) (.tmp 56) _ (by rfl) B 3 i9 (.int .i64 0) 1 8 Tryz.underlying37 hj hj0 hj1 hj2 rfl (Nat.zero_lt_succ 0) u2 (idxs fs ⟨a.name,a.args.length,-1,⟨#[]⟩⟩).length L2 (by rfl) HPE2.out.own (some ⟨W5.heap.size,0,none⟩) 1 1 [.int .i64 (fs.length:Nat)] (by rfl) rfl HLA2.out (by simp [Value.oneCell']) HLN.out.1 HLN.out.2 HPE2.out.pX ?_; intro A6 c6 w6 h6 g6 l6; obtain ⟨w9,hst,hF9⟩:=HPE2.out.store (Below.refl _ _) h6 g6 l6; have HF9:=η hF9; clear h6 g6 l6 hF9)
      | (refine iC (by rfl) (.tmp 54) (.tmp 56) _ (by rfl) B 3 i9 (.int .i64 0) 1 8 Tryz.underlying37 hj hj0 hj1 hj2 rfl (Nat.zero_lt_succ 0) u1 (idxs fs ⟨a.name,a.args.length,-1,⟨#[]⟩⟩).length L1 (by rfl) (HPE1.out.Uw ((Below.refl _ _).alloc (Nat.le_refl _) _)) (some ⟨we1.heap.size,0,none⟩) 1 1 [.int .i64 (fs.length:Nat)] (by rfl) rfl (by have:=aS (heap_alloc_new we1 (.cells #[.int .i64 fs.length] 3)); simpa using this) (by simp [Value.oneCell']) HLN.out.1 HLN.out.2 (Nat.le_trans HPE1.out.pX (by simp)) ?_; intro A6 c6 w6 h6 g6 l6; obtain ⟨w9,hst,hF9⟩:=HPE1.out.store ((Below.refl _ _).alloc (Nat.le_refl _) _) h6 g6 l6; have HF9:=η hF9; clear h6 g6 l6 hF9))
    all_goals
     clear hst
     go_wp2_with fail
     go_meet
     exact HF9.out
   case rest=>
    rw [TR] at hcut;have HI0:=η hcut;obtain ⟨_,_,y4,y5,y6,y7,_⟩:=hcut.cells;have hal:=NQ hok;clear hcut HP4 HP5 k0 k1 k2 k3 x2 kz sz hrun1 hrun2 HPE1 HPE2 HLA2 HEN HBB HLB HLN HMU y2;go_wp2
    go_loopw [63] (fun i wr=>∃ (k:Nat),k≤a.args.length∧i=.int .i64 k∧jI B sb mu mp (fs.length+1) (rn.length+1) (fs ++ [a]) (bf ++ ba) (rn ++ [rd]) (Lp ++ [(.string (eu a),.int .i64 (fs.length:Nat))]) (uU (idxs fs) a fs.length (k+1)) B0 w.heap.size fr a Ae ce w wr) (fun i _=>a.args.length - (intOf i).toNat)
    case atStart=>exact ⟨0,Nat.zero_le _,rfl,HI0.out⟩
    case round=>
     obtain ⟨k,hk,rfl,hI⟩:=hrel;clear HI0 y4 y5 y6 y7;by_cases hlt:k < a.args.length
     ·obtain ⟨y2,_,y4,y5,y6,y7,ba9,hat⟩:=hI.cells
      obtain ⟨b8,o8,rfl,_,f0,f1,_⟩:=dV (eH hat) hlt;have hk0:(0:Int)≤(k:Int):=by omega
      have hk1:(k:Int) < (a.args.length:Int):=by omega
      have HKE:Hid (∀ w9,jI B sb mu mp (fs.length+1) (rn.length+1) (fs ++ [a]) (bf ++ ba) (rn ++ [rd]) (Lp ++ [(.string (eu a),.int .i64 (fs.length:Nat))]) (Du (uU (idxs fs) a fs.length (k+1)) ⟨a.name,a.args.length,k,a.args[k].name⟩ fs.length) B0 w.heap.size fr a (some ⟨b8,o8,none⟩) ce w w9→jI B sb mu mp (fs.length+1) (rn.length+1) (fs ++ [a]) (bf ++ ba) (rn ++ [rd]) (Lp ++ [(.string (eu a),.int .i64 (fs.length:Nat))]) (uU (idxs fs) a fs.length (k+1+1)) B0 w.heap.size fr a (some ⟨b8,o8,none⟩) ce w w9):=η fun w9 h9=>by
       rw [← OA a k hlt,FI] at h9; exact h9
      have HLN:Hid ((uU (idxs fs) a fs.length (k+1) ⟨a.name,a.args.length,k,a.args[k].name⟩).length+1≤maxLen∧((uU (idxs fs) a fs.length (k+1) ⟨a.name,a.args.length,k,a.args[k].name⟩).length+1) * 8≤140737488355328):=η (by
       rw [← OA a k hlt,Kz];have:=ng fs ((keysOf a)[k+1]'(by rw [yB]; omega))
       unfold maxLen; omega)
      have HLT:=η hlt;have HI:=η hI;clear hI hat hk;generalize a.args[k]=t at *;clear hlt;have hW7:Below wr.heap.size wr ((wr.alloc (.cells #[.bool t.var,.string t.name] 109)).alloc (.cells #[.string a.name,.int .i64 a.args.length,.int .i64 k,.string t.name] 165)):=((Below.refl _ _).alloc (Nat.le_refl _) _).alloc (by simp) _;have HP7:=η (HI.out.later hW7);have x2:=cell_later hW7 y2;have hs7:((wr.alloc (.cells #[.bool t.var,.string t.name] 109)).alloc (.cells #[.string a.name,.int .i64 a.args.length,.int .i64 k,.string t.name] 165)).heap.size=wr.heap.size+2:=by simp
      have k0:((wr.alloc (.cells #[.bool t.var,.string t.name] 109)).alloc (.cells #[.string a.name,.int .i64 a.args.length,.int .i64 k,.string t.name] 165)).cell? ⟨wr.heap.size+1,0,none⟩=some (.string a.name):=by go_simp
      have k1:((wr.alloc (.cells #[.bool t.var,.string t.name] 109)).alloc (.cells #[.string a.name,.int .i64 a.args.length,.int .i64 k,.string t.name] 165)).cell? ⟨wr.heap.size+1,1,none⟩=some (.int .i64 a.args.length):=by go_simp
      have k2:((wr.alloc (.cells #[.bool t.var,.string t.name] 109)).alloc (.cells #[.string a.name,.int .i64 a.args.length,.int .i64 k,.string t.name] 165)).cell? ⟨wr.heap.size+1,2,none⟩=some (.int .i64 k):=by go_simp
      have k3:((wr.alloc (.cells #[.bool t.var,.string t.name] 109)).alloc (.cells #[.string a.name,.int .i64 a.args.length,.int .i64 k,.string t.name] 165)).cell? ⟨wr.heap.size+1,3,none⟩=some (.string t.name):=by go_simp
      have kz:wr.heap.size+1 < ((wr.alloc (.cells #[.bool t.var,.string t.name] 109)).alloc (.cells #[.string a.name,.int .i64 a.args.length,.int .i64 k,.string t.name] 165)).heap.size:=by rw [hs7]; omega
      have sz:sb < ((wr.alloc (.cells #[.bool t.var,.string t.name] 109)).alloc (.cells #[.string a.name,.int .i64 a.args.length,.int .i64 k,.string t.name] 165)).heap.size:=by rw [hs7]; omega
      clear hW7 hs7;go_wp2;generalize ((wr.alloc (.cells #[.bool t.var,.string t.name] 109)).alloc (.cells #[.string a.name,.int .i64 a.args.length,.int .i64 k,.string t.name] 165))=W5 at *;have b1:Below W5.heap.size W5 W5.drew:=(Below.refl _ _).drew;have b2:Below W5.heap.size W5 (W5.alloc (.cells #[.int .i64 fs.length] 3)).drew:=((Below.refl _ _).alloc (Nat.le_refl _) _).drew
      have HMU:Hid (mu < W5.heap.size):=η (by
       obtain ⟨_,_,_,_,_,_,_,h1,_⟩:=HP7.out
       have:=h1.pX; have:=h1.lo.2.1; omega)
      obtain ⟨_,we1,hrun1,u1,n1,L1,rfl,hPE1,hge1⟩:=(HP7.out.later b1).entry hB0.2.1 ⟨a.name,a.args.length,k,t.name⟩;obtain ⟨_,we2,hrun2,u2,n2,L2,rfl,hPE2,hge2⟩:=(HP7.out.later b2).entry hB0.2.1 ⟨a.name,a.args.length,k,t.name⟩;dsimp only at hrun1 hrun2;have HPE1:=η hPE1;have HPE2:=η hPE2
      have HLA2:Hid (Lies we2 (some ⟨W5.heap.size,0,none⟩) [.int .i64 (fs.length:Nat)]):=η (by
       have hh:=(hge2.block W5.heap.size (by simp) (fun e=>by have:=HMU.out; injection e with e; omega)).trans (heap_alloc_new W5 (.cells #[.int .i64 fs.length] 3))
       have:=aS hh; simpa using this)
      clear b1 b2 hPE1 hPE2 hge1 hge2
      go_region_law
       (first
        | (refine iC (by rfl) (.tmp 82) (.tmp 84) _ (by rfl) B 3 i9 (.int .i64 0) 1 8 Tryz.underlying37 hj hj0 hj1 hj2 rfl (Nat.zero_lt_succ 0) u2 _ L2 (by rfl) HPE2.out.own (some ⟨W5.heap.size,0,none⟩) 1 1 [.int .i64 (fs.length:Nat)] (by rfl) rfl HLA2.out (by simp [Value.oneCell']) HLN.out.1 HLN.out.2 HPE2.out.pX ?_; intro A6 c6 w6 h6 g6 l6; obtain ⟨w9,hst,hF9⟩:=HPE2.out.store (Below.refl _ _) h6 g6 l6; have HF9:=η (HKE.out _ hF9); clear h6 g6 l6 hF9)
        | (refine iC (by rfl) (.tmp 82) (.tmp 84) _ (by rfl) B 3 i9 (.int .i64 0) 1 8 Tryz.underlying37 hj hj0 hj1 hj2 rfl (Nat.zero_lt_succ 0) u1 _ L1 (by rfl) (HPE1.out.Uw ((Below.refl _ _).alloc (Nat.le_refl _) _)) (some ⟨we1.heap.size,0,none⟩) 1 1 [.int .i64 (fs.length:Nat)] (by rfl) rfl (by have:=aS (heap_alloc_new we1 (.cells #[.int .i64 fs.length] 3)); simpa using this) (by simp [Value.oneCell']) HLN.out.1 HLN.out.2 (Nat.le_trans HPE1.out.pX (by simp)) ?_; intro A6 c6 w6 h6 g6 l6; obtain ⟨w9,hst,hF9⟩:=HPE1.out.store ((Below.refl _ _).alloc (Nat.le_refl _) _) h6 g6 l6; have HF9:=η (HKE.out _ hF9); clear h6 g6 l6 hF9))
      all_goals
       clear hst x2 k0 k1 k2 k3 hrun1 hrun2 HPE1 HPE2 HLA2 HKE HLN;go_wp2;go_roundw
       case rel=>exact ⟨k+1,HLT.out,by go_num,HF9.out⟩
       case measure=>have:=HLT.out; simp [intOf]; omega
     ·have he:k=a.args.length:=by omega
      subst he;have hk1:¬ (a.args.length:Int) < (a.args.length:Int):=by omega
      rw [TT] at hI;have HD:=η hI;clear hI;go_wp2
      go_end0
      obtain ⟨Af9,cf9,Lf9,Ar9,cr9,Lr9,ou9,h1,h2,h3,h4,h5⟩:=HD.out;exact ⟨rfl,h4,Af9,cf9,Lf9,Ar9,cr9,Lr9,ou9,h1,fun x hx=>⟨h2.2 x hx,h3.2.2.2 x hx⟩⟩
end Go.Proofs.YtiidmgchadagbaaGreatDoor
