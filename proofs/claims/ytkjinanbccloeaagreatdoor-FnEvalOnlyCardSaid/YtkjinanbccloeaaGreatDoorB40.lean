/- Of the proof of FnEvalOnly: FolG, AllQ. -/
import Derived.Test.YtkjinanbccloeaaGreatDoorB39
set_option linter.unusedVariables false
set_option maxHeartbeats 4000000
set_option maxRecDepth 100000
namespace Go.Proofs.YtkjinanbccloeaaGreatDoor
section
open Go.RowKit D
attribute [local go_sem ↓] Go.wp_at_zero Go.wp_at_succ
structure D.dQ (K:Nat→Prop) (w w':World):Prop where
 os:w'.os=w.os
 tape:w'.tape=w.tape
 output:w'.output=w.output
 size:w.heap.size≤w'.heap.size
 block:∀ k,k < w.heap.size→¬ K k→w'.heap[k]? = w.heap[k]?
theorem D.dQ.refl (K:Nat→Prop) (w:World):dQ K w w:=⟨rfl,rfl,rfl,ν,fun _ _ _=>rfl⟩
theorem D.dQ.trans {K:Nat→Prop} {w w' I:World} (h:dQ K w w') (k:dQ K w' I):dQ K w I:=
 ⟨k.os.trans h.os,k.tape.trans h.tape,k.output.trans h.output,τ h.size k.size,fun i J y=>(k.block i (κ J h.size) y).trans (h.block i J y)⟩
theorem D.dQ.of_below {K:Nat→Prop} {w w':World} (h:Below w.heap.size w w'):dQ K w w':=⟨h.os,h.tape,h.output,h.size,fun k y _=>h.block k y⟩
theorem D.dQ.dM {K:Nat→Prop} {w w':World} {b:Nat} (h:w.grownBy w' (some b)) (I:K b):dQ K w w':=⟨h.os,h.tape,h.output,h.size,fun k J y=>h.block k J (fun e=>y (by injection e with e; rw [e]; exact I))⟩
structure D.Xl (gf:Nat) (ug:Array Value) (K:Nat→Prop) (St:Bool→World→List A→List Nat→Prop) (go:List A→Bool):Prop where
 enters:∀ args w,(callFunc gf args).run Tryz.prog w=.ok (.enter gf args) w
 lt:∀ {f:Bool} {w:World} {told:List A} {fb:List Nat},St f w told fb→∀ x ∈ fb,x < w.heap.size
 mine:∀ {f:Bool} {w:World} {told:List A} {fb:List Nat},St f w told fb→∀ x,K x→x ∈ fb
 keep:∀ {f:Bool} {w w':World} {told:List A} {fb:List Nat},St f w told fb→(∀ x ∈ fb,w'.heap[x]? = w.heap[x]?)→w.heap.size≤w'.heap.size→St f w' told fb
 call:∀ (w:World) (told:List A) (fb:List Nat) (a:A) (c1:Value) (ba:List Nat) (b0:Nat),St true w told fb→(∀ x ∈ fb,x < b0)→New b0 w ba→aG w [.string a.name,c1] a ba→aI a→
  Calls Tryz.prog gf (#[.agg #[.string a.name,c1]] ++ ug) w fun e w'=>e=.returned (.bool (go (told ++ [a])))∧(∃ fb',St (go (told ++ [a])) w' (told ++ [a]) fb'∧∀ x ∈ fb',x ∈ fb∨b0≤x)∧dQ K w w'
theorem D.Qv {fs:List A} {r:Ru} {J:List A} (h1:∀ t ∈ J,∃ σ,tH fs (fV r.body) (dL r.body) [] (2 ^ (fV r.body).length - 1) σ∧fH σ r.head=t):∀ t ∈ J,ja fs r t:=fun t h=>by
 obtain ⟨σ,⟨_,g2,g3⟩,rfl⟩:=h1 t h;refine ⟨σ,rfl,fun p y I=>?_,fun p y I=>g3 _ (o6.2 ⟨p,y,I,rfl⟩)⟩;obtain ⟨j,U,e⟩:=List.getElem_of_mem (oZ.2 ⟨p,y,I,rfl⟩);rw [← e];exact g2 j U (by rw [Nat.testBit_two_pow_sub_one]; simpa using U)
theorem Ls (vars:List ByteArray) (hv:jr vars) (b:Bd) (a8:jq vars b) (head:A) (Ah:Option Addr) (ch:Nat) (bh:List Nat) (blk o c5 c7:Nat) {gf:Nat} {ug:Array Value} {K:Nat→Prop} {St:Bool→World→List A→List Nat→Prop} {go:List A→Bool} (TL:Xl gf ug K St go) (told:List A) (fb:List Nat) (w:World) (hb:gJ vars b blk o w) (F:St true w told fb) (hok:aI (bQ head b))
  (h5:w.cell? ⟨c5,0,none⟩=some (.func (.func gf) #[] ug)) (h7:w.cell? ⟨c7,0,none⟩=some (.string head.name)) (a9:w.cell? ⟨c7,1,none⟩=some (.slice Ah head.args.length ch))
  (hs:jS vars w [.slice Ah head.args.length ch] head.args bh) (a1:head.name.size≤maxLen) (hin:∀ t ∈ head.args,t.var=true→t.name ∈ vars) (a2:head.args.length≤1000000):
  Calls Tryz.prog 116 #[.pointer (some ⟨blk,o,none⟩),.pointer (some ⟨c5,0,none⟩),.pointer (some ⟨c7,0,none⟩)] w fun e w'=>e=.returned (.bool (go (told ++ [bQ head b])))∧(∃ y,St (go (told ++ [bQ head b])) w' (told ++ [bQ head b]) y∧∀ x ∈ y,x ∈ fb∨w.heap.size≤x)∧dQ K w w':=by
 have HF:=η (Ky vars hv b a8 head Ah ch bh blk o w.drew (hb.keep rfl) a1 ((cO vars).keep hs fun _ _=>rfl) hin a2);have eg:=TL.enters;have F0:=TL.lt F
 have a3:Hid (∀ (U:World) (v:Value) (bt:List Nat),Below w.heap.size w U→aG U [.string head.name,v] (bQ head b) bt→New w.heap.size U bt→Calls Tryz.prog gf (#[.agg #[.string head.name,v]] ++ ug) U fun e w'=>e=.returned (.bool (go (told ++ [bQ head b])))∧(∃ y,St (go (told ++ [bQ head b])) w' (told ++ [bQ head b]) y∧∀ x ∈ y,x ∈ fb∨w.heap.size≤x)∧dQ K w w'):=η fun U v bt h2 ha hn=>by
  refine (TL.call U told fb (bQ head b) v bt w.heap.size (TL.keep F (fun x hx=>h2.block x (F0 x hx)) h2.size) F0 hn ha hok).mono ?_;rintro e w3 ⟨rfl,I,J⟩;exact ⟨rfl,I,(dQ.of_below h2).trans J⟩
 generalize go (told ++ [bQ head b])=gv at *;clear hb F F0 TL hok hs a1 hin a2;have l5:=lt_of_cell h5;have l7:=lt_of_cell h7
 go_enter Tryz.func116,Tryz.ntmps116
 go_wp2
 go_region_law
  (first
   | (go_simp; go_at_call 117; refine HF.out.mono ?_; rintro e U ⟨v9,b9,rfl,a4,a5,a6⟩; have a0:=η ((Below.refl w.heap.size w).drew.trans a4); replace h5:=ξ a0.out h5; have a7:=η (a3.out U v9 b9 a0.out a5 a6); clear a4 a5 a6)
   | (go_simp; go_at_fn gf; refine a7.out.mono ?_; rintro e w3 ⟨rfl,I,J⟩; have HZ:=η (ι I J); clear I J))
 all_goals
  clear h5 h7 a9 a7 a3 HF a0;go_wp2;go_ret;exact ⟨rfl,HZ.out⟩
def D.LC (sb:Nat) (y I J:Value):Array Value:=#[.pointer (some ⟨sb,0,none⟩),y,I,J,.bool false,.bool false,.bool false,.bool false,.bool false,.bool false,.bool false,.bool false,.bool false,.bool false,.bool false,.bool false,.bool false,.int .i64 0,
 .string ⟨#[]⟩,.string ⟨#[]⟩,.string ⟨#[]⟩,.string ⟨#[]⟩,.string ⟨#[]⟩,.string ⟨#[]⟩,.string ⟨#[]⟩,.string ⟨#[]⟩,.string ⟨#[]⟩,.string ⟨#[]⟩,.string ⟨#[]⟩,.string ⟨#[]⟩,
 .int .i64 0,.int .i64 0,.int .i64 0,.int .i64 0,.int .i64 0,.int .i64 0,.int .i64 0,.int .i64 0,.int .i64 0,.int .i64 0,.int .i64 0,.int .i64 0,.int .i64 0,.nilFunc]
theorem D.Xf {w:World} {sk sb:Nat} {y I U:Value} {t:TypeId} (vars:List ByteArray) (h:w.heap[sk]? = some (.cells (LC sb y I U) t (0,0))):kT sk sb y I (fun _=>false) false 0 .nilFunc w∧gJ vars [] sk 18 w∧∀ q,w.frozen? ⟨sk,q,none⟩=false:=by
 have c:=fun o=>ai h (o:=o)
 refine ⟨⟨c 0,c 1,c 2,fun i J=>?_,c 16,c 17,c 43⟩,⟨fun i J=>?_,fun i J=>⟨0,?_,fun h=>by simp at h⟩,c 42,fun i _=>ax h⟩,fun q=>ax h⟩
 ·rw [c]
  have:i=0∨i=1∨i=2∨i=3∨i=4∨i=5∨i=6∨i=7∨i=8∨i=9∨i=10∨i=11:=by omega
  rcases this with rfl | rfl | rfl | rfl | rfl | rfl | rfl | rfl | rfl | rfl | rfl | rfl <;> rfl
 ·rw [c]
  have e:Iq vars [] i=⟨#[]⟩:=by unfold Iq; split <;> rfl
  rw [e];have:i=0∨i=1∨i=2∨i=3∨i=4∨i=5∨i=6∨i=7∨i=8∨i=9∨i=10∨i=11:=by omega
  rcases this with rfl | rfl | rfl | rfl | rfl | rfl | rfl | rfl | rfl | rfl | rfl | rfl <;> rfl
 ·rw [c]
  have:i=0∨i=1∨i=2∨i=3∨i=4∨i=5∨i=6∨i=7∨i=8∨i=9∨i=10∨i=11:=by omega
  rcases this with rfl | rfl | rfl | rfl | rfl | rfl | rfl | rfl | rfl | rfl | rfl | rfl <;> rfl
theorem D.kT.tell {sk sb:Nat} {I J:Value} {wt:Nat→Bool} {io:Bool} {ah:Int} {U:Value} {w:World} (h:kT sk sb I J wt io ah U w) (y:Value):kT sk sb I J wt io ah y (w.setCell ⟨sk,43,none⟩ y):=by
 have c:=D.jK w sk 43 y h.tl;exact ⟨by rw [c,if_neg (by omega)]; exact h.st,by rw [c,if_neg (by omega)]; exact h.p1,by rw [c,if_neg (by omega)]; exact h.p2,fun i hi=>by rw [c,if_neg (by omega)]; exact h.wd i hi,by rw [c,if_neg (by omega)]; exact h.io,by rw [c,if_neg (by omega)]; exact h.ah,by rw [c,if_pos rfl]⟩
theorem D.gJ.tell {vars:List ByteArray} {b:Bd} {sk:Nat} {J:Value} {w:World} (h:gJ vars b sk 18 w) (U:w.cell? ⟨sk,43,none⟩=some J) (I:Value):gJ vars b sk 18 (w.setCell ⟨sk,43,none⟩ I):=by
 have c:=D.jK w sk 43 I U
 exact ⟨fun i y=>by rw [c,if_neg (by omega)]; exact h.wd i y,fun i y=>by
  obtain ⟨z,h1,h2⟩:=h.bd i y
  exact ⟨z,by rw [c,if_neg (by omega)]; exact h1,h2⟩,by rw [c,if_neg (by omega)]; exact h.ct,fun i y=>by rw [World.frozen?_setCell]; exact h.fz i y⟩
structure D.DV (gf:Nat) (ug:Array Value) (St:Bool→World→List A→List Nat→Prop) (vars:List ByteArray) (head:A) (Ah:Option Addr) (ch:Nat) (bh:List Nat) (sk c5 c7:Nat) (fb:List Nat) (n0:Nat) (f:Bool) (w:World) (told:List A):Prop where
 fnd:∃ fb',St f w told fb'∧(∀ x ∈ fb',x ≠ sk)∧∀ x ∈ fb',x ∈ fb∨n0≤x
 f5:w.heap[c5]? = some (.cells #[.func (.func gf) #[] ug] 105 (0,0))
 f7:w.heap[c7]? = some (.cells #[.string head.name,.slice Ah head.args.length ch] 168 (0,0))
 sl:jS vars w [.slice Ah head.args.length ch] head.args bh
 oC:n0≤w.heap.size
theorem D.DV.keep {gf:Nat} {ug:Array Value} {K:Nat→Prop} {St:Bool→World→List A→List Nat→Prop} {go:List A→Bool} (TL:Xl gf ug K St go) {vars:List ByteArray} {head:A} {Ah:Option Addr} {ch:Nat} {J:List Nat} {sk U c7:Nat} {fb:List Nat} {n0:Nat} {f:Bool} {w w':World} {told:List A} (h:DV gf ug St vars head Ah ch J sk U c7 fb n0 f w told) (n5:U ≠ sk) (n7:c7 ≠ sk) (nb:∀ x ∈ J,x ≠ sk) (hs:w.heap.size≤w'.heap.size)
  (I:∀ x,x < w.heap.size→x ≠ sk→w'.heap[x]? = w.heap[x]?):DV gf ug St vars head Ah ch J sk U c7 fb n0 f w' told:=by
 obtain ⟨a0,g1,g2,g3⟩:=h.fnd;exact ⟨⟨a0,TL.keep g1 (fun x y=>I x (TL.lt g1 x y) (g2 x y)) hs,g2,g3⟩,(I _ (ψ h.f5) n5).trans h.f5,(I _ (ψ h.f7) n7).trans h.f7,(cO vars).keep h.sl fun x y=>I x ((cO vars).lt h.sl x y) (nb x y),τ h.oC hs⟩
theorem D.UB {gf:Nat} {ug:Array Value} {K:Nat→Prop} {St:Bool→World→List A→List Nat→Prop} {go:List A→Bool} (TL:Xl gf ug K St go) {r:Ru} (R:jC r) (hV:jr (aB r.body)) (hin:∀ t ∈ r.head.args,t.var=true→t.name ∈ aB r.body) (a1:r.head.name.size≤maxLen) {Ah:Option Addr} {ch:Nat} {bh:List Nat} {sk U c7:Nat} {fb:List Nat} {n0:Nat} (n5:U ≠ sk∧¬ K U) (n7:c7 ≠ sk∧¬ K c7) (nb:∀ x ∈ bh,x ≠ sk∧¬ K x) (nm:¬ K sk):
  uZ (aB r.body) r.head sk (fun k=>k ≠ sk∧¬ K k) ⟨U,0,none⟩ ⟨c7,0,none⟩ (DV gf ug St (aB r.body) r.head Ah ch bh sk U c7 fb n0) go:=by
 refine ⟨fun w b told a2 hw hc hb y=>?_,fun {f} w w' told y hk=>y.keep TL n5.1 n7.1 (fun x J=>(nb x J).1) hk.grow.size fun x J a3=>hk.block J a3⟩;obtain ⟨a4,g1,g2,g3⟩:=y.fnd;refine (Ls (aB r.body) hV b a2 r.head Ah ch bh sk 18 U c7 TL told a4 w hb g1 (Qo R hw hc) (ai y.f5) (ai y.f7) (ai y.f7) y.sl a1 hin (by have:=mQ R.hok; omega)).mono ?_;rintro e w2 ⟨rfl,⟨a5,h1,h2⟩,I⟩;have a0:=hb.lt;have hs:=y.oC
 refine ⟨rfl,⟨⟨a5,h1,fun x J=>?_,fun x J=>?_⟩,(I.block _ (ψ y.f5) n5.2).trans y.f5,(I.block _ (ψ y.f7) n7.2).trans y.f7,(cO _).keep y.sl fun x J=>I.block x ((cO _).lt y.sl x J) (nb x J).2,τ hs I.size⟩,
  ⟨I.os,I.tape,I.output,I.size,fun k hk hK=>I.block k hk hK.2,fun q _=>World.cell?_of_block (I.block _ a0 nm)⟩,I.block _ a0 nm⟩
 ·rcases h2 x J with h | h
  ·exact g2 x h
  ·omega
 ·rcases h2 x J with h | h
  ·exact g3 x h
  ·exact .inr (τ hs h)
theorem DW (sb:Nat) (fs:List A) (rn:List Nat) (bs:List Nat) (r:Ru) (c0 c1 c2:Value) (br:List Nat) {gf:Nat} {ug:Array Value} {K:Nat→Prop} {St:Bool→World→List A→List Nat→Prop} {go:List A→Bool} (TL:Xl gf ug K St go) (told:List A) (fb:List Nat) (w:World) (ST:jv sb fs rn bs w) (bj:∀ f ∈ fs,aI f) (bl:fs.length≤1000000) (hr:fG w [c0,c1,c2] r br) (R:jC r)
  (F:St true w told fb) (cg:∀ x ∈ bs,¬ K x) (cD:∀ x ∈ br,¬ K x):
  Calls Tryz.prog 59 #[.pointer (some ⟨sb,0,none⟩),.agg #[c0,c1,c2],.func (.func gf) #[] ug] w fun e w'=>e=.returned (.tuple #[])∧
   ∃ ts a5 more,St more w' (told ++ ts) a5∧(∀ x ∈ a5,x ∈ fb∨w.heap.size≤x)∧dQ K w w'∧(∀ t ∈ ts,ja fs r t)∧(more=true→∀ t,ja fs r t→t ∈ ts)∧(more=false→go (told ++ ts)=false):=by
 obtain ⟨a1,a2,Ab,cb,rfl,rfl,rfl⟩:=nV hr;obtain ⟨ci,cj,cE,ae,af⟩:=iO hr;have hV:=OG R;have b8:Below w.heap.size w ((w.alloc (.cells #[.string r.head.name,.slice a1 r.head.args.length a2,.slice Ab r.body.length cb] 40)).alloc (.cells #[.func (.func gf) #[] ug] 105)):=(ζ).alloc (by simp) _
 have bn:((w.alloc (.cells #[.string r.head.name,.slice a1 r.head.args.length a2,.slice Ab r.body.length cb] 40)).alloc (.cells #[.func (.func gf) #[] ug] 105)).heap[w.heap.size+1]? = some (.cells #[.func (.func gf) #[] ug] 105 (0,0)):=by
  have:=ω (w.alloc (.cells #[.string r.head.name,.slice a1 r.head.args.length a2,.slice Ab r.body.length cb] 40)) (.cells #[.func (.func gf) #[] ug] 105);simpa using this
 have bo:((w.alloc (.cells #[.string r.head.name,.slice a1 r.head.args.length a2,.slice Ab r.body.length cb] 40)).alloc (.cells #[.func (.func gf) #[] ug] 105)).heap[w.heap.size]? = some (.cells #[.string r.head.name,.slice a1 r.head.args.length a2,.slice Ab r.body.length cb] 40 (0,0)):=by
  rw [Below.heap_alloc _ _ _ (by simp)];exact ω _ _
 have hq:=Kv r.body (.slice Ab r.body.length cb) cj _ (dw.below af b8) (by have:=R.few; omega) (fun p hp=>by have:=mQ (R.pok p hp); omega);have ag:=η b8;have ck:=η bn;have bp:=η bo;have HH:=η ae;have bt:((w.alloc (.cells #[.string r.head.name,.slice a1 r.head.args.length a2,.slice Ab r.body.length cb] 40)).alloc (.cells #[.func (.func gf) #[] ug] 105)).heap.size=w.heap.size+2:=by simp
 have az:=η bt;clear hr b8 bn bo ae af bt
 go_enter Tryz.func59,Tryz.ntmps59
 go_wp2_with fail
 generalize ((w.alloc (.cells #[.string r.head.name,.slice a1 r.head.args.length a2,.slice Ab r.body.length cb] 40)).alloc (.cells #[.func (.func gf) #[] ug] 105))=W0 at *;refine hq.mono ?_;rintro e w1 ⟨A1,n1,q1,U,n2,q2,A3,q3,bq,rfl,am,cl,bu⟩;obtain ⟨v1,v2,v3,b1,b2,b3,he,rfl,b9,aa,bv⟩:=cl;simp only [List.cons.injEq,and_true] at he;obtain ⟨rfl,rfl,rfl⟩:=he;obtain ⟨_,_,e1,_⟩:=ak b9;obtain ⟨_,_,e2,_⟩:=ak aa;simp only [Value.slice.injEq] at e1 e2;obtain ⟨-,rfl,-⟩:=e1;obtain ⟨-,rfl,-⟩:=e2;have bc:Below w1.heap.size w1 (w1.alloc (.cells #[.slice A1 (fV r.body).length q1,.slice U (dL r.body).length q2,.slice A3 (aB r.body).length q3] 164)):=ζ;have a6:=η (am.trans (bc.mono am.size))
 have bw:=zn (aB r.body) r.head A1 U (fV r.body).length q1 (dL r.body).length q2 (.slice A3 (aB r.body).length q3) (.string r.head.name) (.slice a1 r.head.args.length a2) b3 ci _ (bV.below bv bc) (wX r.body) (by have:=hV.few; omega) (aj.Ro HH.out (ag.out.trans (a6.out.mono ag.out.size)) (fun b hb=>aj.lt HH.out b hb)) (Ig (fs:=[]) R (by simp) (by simp) (wt:=fun i=>KL (aB r.body) r.head (dL r.body) i) (fun _ _=>rfl)).hin (by have:=mQ R.hok; omega);have x4:W0.cell? ⟨w.heap.size,0,none⟩=some (.string r.head.name):=ai bp.out;have x5:W0.cell? ⟨w.heap.size,1,none⟩=some (.slice a1 r.head.args.length a2):=ai bp.out;have u4:(w1.alloc (.cells #[.slice A1 (fV r.body).length q1,.slice U (dL r.body).length q2,.slice A3 (aB r.body).length q3] 164)).cell? ⟨w.heap.size,0,none⟩=some (.string r.head.name):=ξ a6.out x4
 have u5:(w1.alloc (.cells #[.slice A1 (fV r.body).length q1,.slice U (dL r.body).length q2,.slice A3 (aB r.body).length q3] 164)).cell? ⟨w.heap.size,1,none⟩=some (.slice a1 r.head.args.length a2):=ξ a6.out x5;have a3:=η (ι b9 (ι aa (ι am bu)));have bf:Hid ((w1.alloc (.cells #[.slice A1 (fV r.body).length q1,.slice U (dL r.body).length q2,.slice A3 (aB r.body).length q3] 164)).heap[w1.heap.size]? = some (.cells #[.slice A1 (fV r.body).length q1,.slice U (dL r.body).length q2,.slice A3 (aB r.body).length q3] 164 (0,0))∧W0.heap.size≤w1.heap.size):=η ⟨ω _ _,am.size⟩;clear hq am bu b9 aa bv bc
 go_wp2_with fail
 refine bw.mono ?_;rintro e y ⟨vp,bh,rfl,a7,aD,ab,bx⟩;obtain ⟨Ah,ch,rfl,_⟩:=ak ab;have bz:Below y.heap.size y (y.alloc (.cells #[.string r.head.name,.slice Ah r.head.args.length ch] 168)):=ζ;have cm:=η (a7.trans (bz.mono a7.size));have ao:=(a7.block _ (ψ bf.out.1)).trans bf.out.1;have u0:y.cell? ⟨w1.heap.size,0,none⟩=some (.slice A1 (fV r.body).length q1):=ai ao;have u1:y.cell? ⟨w1.heap.size,1,none⟩=some (.slice U (dL r.body).length q2):=ai ao;have u2:y.cell? ⟨w1.heap.size,2,none⟩=some (.slice A3 (aB r.body).length q3):=ai ao;have u3:w1.heap.size < y.heap.size:=ψ ao;have ap:=η (ι aD (ι ab bx));have co:Hid (∀ x,x < (w1.alloc (.cells #[.slice A1 (fV r.body).length q1,.slice U (dL r.body).length q2,.slice A3 (aB r.body).length q3] 164)).heap.size→y.heap[x]? = (w1.alloc (.cells #[.slice A1 (fV r.body).length q1,.slice U (dL r.body).length q2,.slice A3 (aB r.body).length q3] 164)).heap[x]?):=η fun x I=>a7.block x I
 have aL:=η a7
 have bA:Hid (∀ x ∈ b2,x ≠ y.heap.size+1):=η fun x I=>by
  have h1:=(dI (aB r.body)).lt a3.out.2.1 x I;have h2:=a7.size;simp at h2;omega
 clear bw a7 aD ab bx bz u4 u5 x4 x5 ao;have hE:=Ig R bj bl (wt:=fun i=>KL (aB r.body) r.head (dL r.body) i) (fun _ _=>rfl)
 have bB:((y.alloc (.cells #[.string r.head.name,.slice Ah r.head.args.length ch] 168)).alloc (.cells (LC sb (.slice A1 (fV r.body).length q1) (.slice U (dL r.body).length q2) (.slice A3 (aB r.body).length q3)) 178)).heap[y.heap.size+1]? = some (.cells (LC sb (.slice A1 (fV r.body).length q1) (.slice U (dL r.body).length q2) (.slice A3 (aB r.body).length q3)) 178 (0,0)):=by
  have:=ω (y.alloc (.cells #[.string r.head.name,.slice Ah r.head.args.length ch] 168)) (.cells (LC sb (.slice A1 (fV r.body).length q1) (.slice U (dL r.body).length q2) (.slice A3 (aB r.body).length q3)) 178);simpa using this
 obtain ⟨aM,bE,bg⟩:=Xf (aB r.body) bB;have bi:Below y.heap.size y ((y.alloc (.cells #[.string r.head.name,.slice Ah r.head.args.length ch] 168)).alloc (.cells (LC sb (.slice A1 (fV r.body).length q1) (.slice U (dL r.body).length q2) (.slice A3 (aB r.body).length q3)) 178)):=(ζ).alloc (by simp) _
 have bL:((y.alloc (.cells #[.string r.head.name,.slice Ah r.head.args.length ch] 168)).alloc (.cells (LC sb (.slice A1 (fV r.body).length q1) (.slice U (dL r.body).length q2) (.slice A3 (aB r.body).length q3)) 178)).heap[y.heap.size]? = some (.cells #[.string r.head.name,.slice Ah r.head.args.length ch] 168 (0,0)):=by
  rw [Below.heap_alloc _ _ _ (by simp)];exact ω _ _
 have a0:=(cO (aB r.body)).lt ap.out.2.1;have bO:=KD (aB r.body) hV r.head Ah ch bh (y.heap.size+1) sb _ _ _ false 0 .nilFunc _ aM bg ((cO _).below ap.out.2.1 bi) hE.hin (fun hm=>by have:=a0 _ hm; omega) (by have:=mQ R.hok; omega);have cp:Hid (((y.alloc (.cells #[.string r.head.name,.slice Ah r.head.args.length ch] 168)).alloc (.cells (LC sb (.slice A1 (fV r.body).length q1) (.slice U (dL r.body).length q2) (.slice A3 (aB r.body).length q3)) 178)).heap.size=y.heap.size+2):=η (by simp);have a8:=η (ι bE (ι bg (ι bi bL)));have cq:=η a0;clear aM bE bg bi bL bB a0
 go_wp2_with fail
 refine bO.mono ?_;rintro e w3 ⟨rfl,aR,aq⟩;generalize ((y.alloc (.cells #[.string r.head.name,.slice Ah r.head.args.length ch] 168)).alloc (.cells (LC sb (.slice A1 (fV r.body).length q1) (.slice U (dL r.body).length q2) (.slice A3 (aB r.body).length q3)) 178))=WS at *;have z1:=a6.out.size;have z2:=cm.out.size;have z3:=bf.out.2;have z4:=cp.out;have z5:=az.out;simp at z1 z2;have HZ:Hid (w.heap.size+2≤w1.heap.size∧w1.heap.size < y.heap.size∧WS.heap.size=y.heap.size+2):=η ⟨by omega,u3,z4⟩;have b4:y.cell? ⟨w1.heap.size,1,none⟩=some (.slice U (dL r.body).length q2):=u1
 have bR:Hid (∀ wr:World,gX (y.heap.size+1) WS wr→wr.cell? ⟨w1.heap.size,1,none⟩=some (.slice U (dL r.body).length q2)∧rq (aB r.body) wr [.slice U (dL r.body).length q2] (dL r.body) b2):=η fun wr hk=>by
  have kp:∀ x,x < y.heap.size→wr.heap[x]? = y.heap[x]?:=fun x I=>(hk.grow.block x (by rw [z4]; omega) (fun e=>by injection e with e; omega)).trans (a8.out.2.2.1.block x I)
  have hp:=(dI (aB r.body)).below a3.out.2.1 ((Below.refl w1.heap.size w1).alloc ν (.cells #[.slice A1 (fV r.body).length q1,.slice U (dL r.body).length q2,.slice A3 (aB r.body).length q3] 164));have aa:=(dI (aB r.body)).keep (w':=y) hp fun x I=>co.out x ((dI (aB r.body)).lt hp x I)
  exact ⟨(World.cell?_of_block (kp _ u3)).trans b4,(dI (aB r.body)).keep aa fun x I=>kp x ((dI (aB r.body)).lt aa x I)⟩
 have y1:=(bR.out w3 aq).1;have bX:∀ n ∈ dL r.body,∀ t ∈ n.args,t.var=true→t.name ∈ aB r.body:=hE.nin;have c3:∀ n ∈ dL r.body,aX n=true:=hE.nok;have c4:=η (ι bX c3)
 have c5:Hid (kT (y.heap.size+1) sb (.slice A1 (fV r.body).length q1) (.slice U (dL r.body).length q2) (fun i=>fD (aB r.body) r.head.args i || ((dL r.body).take 0).any fun n=>fD (aB r.body) n.args i) false 0 .nilFunc w3∧gX (y.heap.size+1) WS w3):=η ⟨by
  have e:(fun i=>fD (aB r.body) r.head.args i || ((dL r.body).take 0).any fun n=>fD (aB r.body) n.args i)=fun i=>false || fD (aB r.body) r.head.args i:=funext fun i=>by simp
  rw [e]; exact aR,aq⟩
 have cG:(dL r.body).length≤1000000:=hE.nl;clear bO aR aq u0 u1 u2 b4 bX c3;go_wp2
 go_loopw [28] (fun i wr=>∃ (k:Nat),k≤(dL r.body).length∧i=.int .i64 k∧kT (y.heap.size+1) sb (.slice A1 (fV r.body).length q1) (.slice U (dL r.body).length q2) (fun i=>fD (aB r.body) r.head.args i || ((dL r.body).take k).any fun n=>fD (aB r.body) n.args i) false 0 .nilFunc wr∧gX (y.heap.size+1) WS wr) (fun i _=>(dL r.body).length - (intOf i).toNat)
 case atStart=>exact ⟨0,ε,rfl,c5.out⟩
 case round=>
  obtain ⟨k,hk,rfl,hI,hK⟩:=hrel;clear c5 y1;by_cases ac:k < (dL r.body).length
  ·obtain ⟨bq,oq,An,cn,bk,rfl,cr,f0,f1,⟨vv,c6,aD,ab⟩,b5⟩:=wJ (bR.out wr hK).2 ac
   simp only [List.cons.injEq,and_true,true_and] at c6;subst c6;have cI:(0:Int)≤(k:Int):=by omega
   have cu:(k:Int) < ((dL r.body).length:Int):=by omega
   have ar:Below wr.heap.size wr (wr.alloc (.cells #[.string (dL r.body)[k].name,.slice An (dL r.body)[k].args.length cn] 168)):=ζ;have av:=KD (aB r.body) hV (dL r.body)[k] An cn bk (y.heap.size+1) sb _ _ _ false 0 .nilFunc (wr.alloc (.cells #[.string (dL r.body)[k].name,.slice An (dL r.body)[k].args.length cn] 168)) (hI.keep (ar.block _ hI.lt)) (fun q=>(World.frozen?_of_block (ar.block _ hI.lt)).trans ((hK.frz q).trans (a8.out.2.1 q))) ((cO _).below ab ar) (c4.out.1 _ (δ ac)) (fun hm=>bA.out _ (b5 _ hm) rfl) (by have:=mQ (c4.out.2 _ (δ ac)); omega);have c7:=η (hK.trans (gX.of_below ar hI.lt))
   have c8:Hid (∀ i,(fD (aB r.body) r.head.args i || ((dL r.body).take (k+1)).any fun n=>fD (aB r.body) n.args i)=((fD (aB r.body) r.head.args i || ((dL r.body).take k).any fun n=>fD (aB r.body) n.args i) || fD (aB r.body) (dL r.body)[k].args i)):=η fun i=>by
    rw [ρ ac,List.any_append]; simp [Bool.or_assoc]
   have c9:=η ac;clear hI hK ar aD ab b5 hk cr;generalize (dL r.body)[k]=n at *;obtain ⟨nn,cv⟩:=n;dsimp only at *;clear ac
   go_wp2_with fail
   refine av.mono ?_;rintro e w4 ⟨rfl,ca,cc⟩
   have cw:Hid (kT (y.heap.size+1) sb (.slice A1 (fV r.body).length q1) (.slice (some ⟨bq,oq,none⟩) (dL r.body).length q2) (fun i=>fD (aB r.body) r.head.args i || ((dL r.body).take (k+1)).any fun n=>fD (aB r.body) n.args i) false 0 .nilFunc w4∧gX (y.heap.size+1) WS w4):=η ⟨by
    rw [funext c8.out]; exact ca,c7.out.trans cc⟩
   clear av ca cc c7 c8;go_wp2;go_roundw
   case rel=>exact ⟨k+1,c9.out,by go_num,cw.out⟩
   case measure=>have:=c9.out; simp [intOf]; omega
  ·have he:k=(dL r.body).length:=by omega
   have cu:¬ (k:Int) < ((dL r.body).length:Int):=by omega
   rw [ϕ (Nat.le_of_eq he.symm)] at hI;have hz:=HZ.out;have cJ:=hK.grow.size;have cx:=hI.tl;have cK:wr.frozen? ⟨y.heap.size+1,43,none⟩=false:=(hK.frz 43).trans (a8.out.2.1 43);have J:Below w.heap.size w WS:=ag.out.trans ((a6.out.mono ag.out.size).trans ((aL.out.mono (τ ag.out.size a6.out.size)).trans (a8.out.2.2.1.mono (by omega))));have cA:=η J
   have a4:∀ x,x < y.heap.size+1→(wr.setCell ⟨y.heap.size+1,43,none⟩ (.func (.func 116) #[] #[.pointer (some ⟨w.heap.size+1,0,none⟩),.pointer (some ⟨y.heap.size,0,none⟩)])).heap[x]? = WS.heap[x]?:=fun x I=>
    (π _ _ _ _ (by show x ≠ y.heap.size+1; omega)).trans (hK.grow.block x (by omega) (fun e=>by injection e with e; omega))
   have aw:∀ x,x < y.heap.size→WS.heap[x]? = y.heap[x]?:=fun x I=>a8.out.2.2.1.block x I
   have aE:∀ x,x < w1.heap.size→y.heap[x]? = w1.heap[x]?:=fun x I=>(aL.out.block x (by simp; omega)).trans (Below.heap_alloc _ _ _ I)
   have S5:oW (aB r.body) fs rn bs (fV r.body) (dL r.body) (y.heap.size+1) sb (.slice A1 (fV r.body).length q1) (.slice U (dL r.body).length q2) b1 b2 (fun i=>fD (aB r.body) r.head.args i || (dL r.body).any fun n=>fD (aB r.body) n.args i) 0
     (.func (.func 116) #[] #[.pointer (some ⟨w.heap.size+1,0,none⟩),.pointer (some ⟨y.heap.size,0,none⟩)]) (fun k=>k ≠ y.heap.size+1∧¬ K k) []
     (wr.setCell ⟨y.heap.size+1,43,none⟩ (.func (.func 116) #[] #[.pointer (some ⟨w.heap.size+1,0,none⟩),.pointer (some ⟨y.heap.size,0,none⟩)])):=by
    refine ⟨hI.tell _,(a8.out.1.wt hK).tell cx _,jq.nil _,fun p hp=>by simp at hp,ST.keep (fun x I=>?_) ?_,(dI _).keep a3.out.1 fun x I=>?_,(dI _).keep a3.out.2.1 fun x I=>?_,fun x I=>⟨?_,cg x I⟩,fun x I=>?_,fun x I=>?_⟩
    ·have:=ST.lt x I
     exact (a4 x (by omega)).trans (J.block x this)
    ·simp [World.setCell]; omega
    ·have:=(dI (aB r.body)).lt a3.out.1 x I
     exact (a4 x (by omega)).trans ((aw x (by omega)).trans (aE x this))
    ·have:=(dI (aB r.body)).lt a3.out.2.1 x I
     exact (a4 x (by omega)).trans ((aw x (by omega)).trans (aE x this))
    ·have:=ST.lt x I; omega
    ·have h1:=(dI (aB r.body)).lt a3.out.1 x I
     have h2:=a3.out.2.2.2 x (by simp [I]);have h4:=az.out;exact ⟨by omega,fun hK=>by have:=TL.lt F x (TL.mine F x hK); omega⟩
    ·have h1:=(dI (aB r.body)).lt a3.out.2.1 x I
     have h2:=a3.out.2.2.2 x (by simp [I]);have h4:=az.out;exact ⟨by omega,fun hK=>by have:=TL.lt F x (TL.mine F x hK); omega⟩
   have a9:∀ x,K x→x < w.heap.size:=fun x I=>TL.lt F x (TL.mine F x I)
   have a0:=cq.out
   have cd:DV gf ug St (aB r.body) r.head Ah ch bh (y.heap.size+1) (w.heap.size+1) y.heap.size fb w.heap.size true (wr.setCell ⟨y.heap.size+1,43,none⟩ (.func (.func 116) #[] #[.pointer (some ⟨w.heap.size+1,0,none⟩),.pointer (some ⟨y.heap.size,0,none⟩)])) told:=by
    refine ⟨⟨fb,TL.keep F (fun x I=>?_) ?_,fun x I=>?_,fun x I=>.inl I⟩,?_,?_,(cO _).keep ap.out.2.1 fun x I=>?_,?_⟩
    ·have:=TL.lt F x I
     exact (a4 x (by omega)).trans (J.block x this)
    ·simp [World.setCell]; omega
    ·have:=TL.lt F x I; omega
    ·have h4:=az.out
     have h9:=a6.out.block (w.heap.size+1) (by omega);rw [Below.heap_alloc _ _ _ (by omega)] at h9;exact (a4 _ (by omega)).trans ((aw _ (by omega)).trans ((aE _ (by omega)).trans (h9.trans ck.out)))
    ·exact (a4 _ (by omega)).trans a8.out.2.2.2
    ·have:=a0 x I
     exact (a4 x (by omega)).trans (aw x this)
    ·simp [World.setCell]; omega
   have ce:∀ x ∈ bh,x ≠ y.heap.size+1∧¬ K x:=fun x I=>by
    have h1:=a0 x I;have h2:=(ap.out.2.2.own x I).1;simp at h2;exact ⟨by omega,fun hK=>by have:=a9 x hK; omega⟩
   have b6:=EJ (aB r.body) fs rn bs (fV r.body) (dL r.body) r.head (y.heap.size+1) sb A1 q1 U q2 b1 b2 (fun i=>fD (aB r.body) r.head.args i || (dL r.body).any fun n=>fD (aB r.body) n.args i) 0 ⟨w.heap.size+1,0,none⟩ ⟨y.heap.size,0,none⟩ (fun k=>k ≠ y.heap.size+1∧¬ K k)
    (DV gf ug St (aB r.body) r.head Ah ch bh (y.heap.size+1) (w.heap.size+1) y.heap.size fb w.heap.size) go (Ig R bj bl fun i _=>rfl) (fun k hk=>hk.1)
    (UB TL R hV hE.hin ap.out.1 ⟨by omega,fun hK=>by have:=a9 _ hK; omega⟩ ⟨by omega,fun hK=>by have:=a9 _ hK; omega⟩ ce (fun hK=>by have:=a9 _ hK; omega)) told _ S5 cd
   have b7:Hid (∀ w9 held more,iL (aB r.body) fs (fV r.body) (dL r.body) r.head (fun k=>k ≠ y.heap.size+1∧¬ K k) (y.heap.size+1) (DV gf ug St (aB r.body) r.head Ah ch bh (y.heap.size+1) (w.heap.size+1) y.heap.size fb w.heap.size) go [] (2 ^ (fV r.body).length - 1) told held more
     (wr.setCell ⟨y.heap.size+1,43,none⟩ (.func (.func 116) #[] #[.pointer (some ⟨w.heap.size+1,0,none⟩),.pointer (some ⟨y.heap.size,0,none⟩)])) w9→
     ∃ ts a5 more,St more w9 (told ++ ts) a5∧(∀ x ∈ a5,x ∈ fb∨w.heap.size≤x)∧dQ K w w9∧(∀ t ∈ ts,ja fs r t)∧(more=true→∀ t,ja fs r t→t ∈ ts)∧(more=false→go (told ++ ts)=false)):=η fun w9 held more hP=>by
    obtain ⟨ts,p1,_,p3,p4,p5,_,p7⟩:=hP;obtain ⟨a5,g1,g2,g3⟩:=p3.fnd;have cy:w.heap.size≤wr.heap.size:=by omega
    exact ⟨ts,a5,more,g1,g3,⟨p1.os.trans (hK.grow.os.trans J.os),p1.tape.trans (hK.grow.tape.trans J.tape),p1.output.trans (hK.grow.output.trans J.output),τ cy (τ (by simp [World.setCell]) p1.size),
     fun x I cz=>(p1.block x (by simp [World.setCell]; omega) ⟨by omega,cz⟩).trans ((a4 x (by omega)).trans (J.block x I))⟩,Qv p4,fun h t=>(Um R p4 (p5 h) t).2,p7⟩
   have cB:y.heap.size+1 < wr.heap.size:=by omega
   clear S5 cd ce hI hK J a4 aw aE a0 hE
   go_wp2_with fail
   refine b6.mono ?_;rintro e w9 ⟨rfl,held,more,hP⟩;have HD:=η (b7.out w9 held more hP);clear b6 hP b7;go_wp2
   go_end0
   exact ⟨rfl,HD.out⟩
end
section
open Go.RowKit D
theorem D.Xg {rs:List Ru} (h:qF rs) {r:Ru} (hr:r ∈ rs):gY rs r.head.name < rs.length:=by
 obtain ⟨i,y,rfl⟩:=List.getElem_of_mem hr;obtain ⟨h1,U⟩:=nG h.cyc;have I:=xX h1;have e:dH rs i=rs[i]:=by unfold dH; simp [List.getD,y]
 have J:=U i y;rw [e] at J;rw [← J];unfold lg at I;rw [List.any_eq_false] at I
 have h5:fU (ay rs) i ∈ ay rs:=by
  unfold fU; rw [List.getD_eq_getElem?_getD,Ψ (by rw [fC]; exact y)]; exact δ _
 have:=I _ h5;simpa using this
structure D.uf (rs:List Ru) (given:List A) (L:Nat) (fs:List A) (rn:List Nat) (number:Nat) (r:Rd) (fuel:Nat):Prop where
 sim:VX fs rn r
 ok:l9 r
 fact:∀ x ∈ r.1,aI x
 len:r.1.length≤300
 num:number≤r.1.length
 fu:302≤fuel+r.1.length
 run:dW rs given=zY rs (ay rs) (rs.length+1 - L) fuel r number
def D.pF (rs:List Ru) (given:List A) (L:Nat) (fs:List A) (rn:List Nat) (number:Nat):Prop:=∃ r fuel,uf rs given L fs rn number r fuel
def D.pG (rs:List Ru) (given:List A) (L:Nat) (own next:List Ru) (fs:List A) (rn:List Nat) (number:Nat):Prop:=
 (∃ r fuel,uf rs given L fs rn number r fuel∧(∀ q ∈ next,q ∈ own)∧∀ q ∈ own,q ∉ next→∀ t,ja fs q t→t ∈ fs)∨(next = []∧pF rs given (L+1) fs rn number)
open Classical in
noncomputable def D.NZ (own:List Ru) (new:List A):List Ru:=own.filter fun q=>q.body.any fun p=>!p.no && decide (∃ t ∈ new,t.name=p.atom.name)
section
variable {rs:List Ru} {given:List A} {L:Nat} {own next:List Ru} {fs:List A} {rn:List Nat} {number fuel:Nat} {r:Rd}
theorem D.uf.VY (h:uf rs given L fs rn number r fuel):fs.length=r.1.length:=(h.sim.fst h.ok).length_eq
theorem D.uf.facts (h:uf rs given L fs rn number r fuel):∀ x ∈ fs,aI x:=fun x y=>h.fact x ((h.sim.fst h.ok).mem_iff.1 y)
theorem D.pF.few (h:pF rs given L fs rn number):fs.length≤300∧rn.length=fs.length∧number≤fs.length∧∀ x ∈ fs,aI x:=by
 obtain ⟨r,fuel,h⟩:=h;have:=h.VY;exact ⟨by have:=h.len; omega,h.sim.len,by have:=h.num; omega,h.facts⟩
theorem D.pG.few (h:pG rs given L own next fs rn number):fs.length≤300∧rn.length=fs.length∧number≤fs.length∧∀ x ∈ fs,aI x:=by
 rcases h with ⟨r,fuel,h,_⟩ | ⟨_,h⟩
 ·exact pF.few ⟨r,fuel,h⟩
 ·exact h.few
theorem D.all_start (ha:fK given=true) (hf:∀ x ∈ given,aI x) (y:given.length≤300):pF rs given 0 given (List.replicate given.length 0) 0:=
 ⟨(given,List.replicate given.length 0),302,⟨by simp,List.Perm.refl _⟩,⟨ha,by simp⟩,hf,y,ε,by show 302≤302+given.length; omega,rfl⟩
theorem D.pF.enter (h:pF rs given L fs rn number):pG rs given L own own fs rn number:=by
 obtain ⟨r,fuel,h⟩:=h;exact .inl ⟨r,fuel,h,fun q hq=>hq,fun q hq y=>absurd hq y⟩
theorem D.uf.go (h:uf rs given L fs rn number r fuel) (y:L≤rs.length):∃ f,fuel=f+1∧dW rs given =
  if 300 < (dK rs (ay rs) L r (number+1)).1.length then (dK rs (ay rs) L r (number+1),false)
  else if (dK rs (ay rs) L r (number+1)).1.length=r.1.length then zY rs (ay rs) (rs.length - L) 302 (dK rs (ay rs) L r (number+1)) number
  else zY rs (ay rs) (rs.length - L+1) f (dK rs (ay rs) L r (number+1)) (number+1):=by
 have h1:=h.fu;have I:=h.len;obtain ⟨f,rfl⟩:∃ f,fuel=f+1:=⟨fuel - 1,by omega⟩;refine ⟨f,rfl,?_⟩;rw [h.run,show rs.length+1 - L=rs.length - L+1 by omega,zY,show rs.length - (rs.length - L)=L by omega]
theorem D.uf.UC (H:qF rs) (h:uf rs given L fs rn number r fuel) (n:Nat):l9 (dK rs (ay rs) L r n)∧∀ x ∈ (dK rs (ay rs) L r n).1,aI x:=
 ⟨(lq h.ok n _).1,(jU H h.fact L n).1⟩
theorem D.pG.done (H:qF rs) (U:L≤rs.length) (y:OwnAt rs L own) (h:pG rs given L own [] fs rn number):pF rs given (L+1) fs rn number:=by
 rcases h with ⟨r,fuel,h,_,h2⟩ | ⟨_,h⟩
 ·obtain ⟨f,rfl,e⟩:=h.go U
  obtain ⟨I,s2⟩:=Gl (next:=[]) (new:=[]) (n:=number+1) H h.ok h.fact h.sim (fun q hq=>by simp at hq) (fun q hq J _ t hf=>h2 q ((y q).2 ⟨hq,J⟩) (by simp) t hf) List.nodup_nil (fun t=>by simp);have a0:=h.VY;have J:=h.len;simp only [List.length_nil,Nat.add_zero] at s2;rw [if_neg (by omega),if_pos (by omega)] at e;simp only [List.append_nil,List.length_nil,List.replicate_zero] at I;obtain ⟨o1,o2⟩:=h.UC H (number+1);exact ⟨_,302,I,o1,o2,by omega,by have:=h.num; omega,by omega,by rw [e,show rs.length+1 - (L+1)=rs.length - L by omega]⟩
 ·exact h
theorem D.pG.round (H:qF rs) (hL:L≤rs.length) (y:OwnAt rs L own) (h:pG rs given L own next fs rn number) {new:List A} (a0:next ≠ []) (hn:new.Nodup) (I:∀ t,t ∈ new ↔ t ∉ fs∧∃ q ∈ next,ja fs q t) (a5:fs.length+new.length≤300):
  (new = []→pG rs given L own [] fs rn number)∧(new ≠ []→pG rs given L own (NZ own new) (fs ++ new) (rn ++ List.replicate new.length (number+1)) (number+1)):=by
 classical
 rcases h with ⟨r,fuel,h,h1,h2⟩ | ⟨h,_⟩
 ·obtain ⟨f,rfl,e⟩:=h.go hL
  obtain ⟨s1,s2⟩:=Gl (next:=next) (new:=new) (n:=number+1) H h.ok h.fact h.sim (fun q hq=>(y q).1 (h1 q hq)) (fun q hq hl a1 t hf=>h2 q ((y q).2 ⟨hq,hl⟩) a1 t hf) hn I;have a6:=h.VY;have hl:=h.len;obtain ⟨o1,o2⟩:=h.UC H (number+1);refine ⟨fun hz=>?_,fun hz=>?_⟩
  ·subst hz
   simp only [List.length_nil,Nat.add_zero] at s2;rw [if_neg (by omega),if_pos (by omega)] at e;simp only [List.append_nil,List.length_nil,List.replicate_zero] at s1;exact .inr ⟨rfl,_,302,s1,o1,o2,by omega,by have:=h.num; omega,by omega,by rw [e,show rs.length+1 - (L+1)=rs.length - L by omega]⟩
  ·have hp:0 < new.length:=List.length_pos_iff.2 hz
   rw [if_neg (by omega),if_neg (by omega)] at e;have a7:=h.fu;have a8:=h.num;refine .inl ⟨_,f,⟨s1,o1,o2,by omega,by omega,by omega,by rw [e,show rs.length+1 - L=rs.length - L+1 by omega]⟩,fun q hq=>(List.mem_filter.1 hq).1,fun q hq a2 t hf=>?_⟩;have a3:∀ p ∈ q.body,p.no=false→∀ t ∈ new,t.name ≠ p.atom.name:=fun p hp a4 t ht he=>a2 (List.mem_filter.2 ⟨hq,List.any_eq_true.2 ⟨p,hp,by simp [a4]; exact ⟨t,ht,he⟩⟩⟩)
   have J:=Ll a3 hf;by_cases hm:t ∈ fs
   ·exact Ξ _ hm
   ·by_cases U:q ∈ next
    ·exact Ω _ ((I t).2 ⟨hm,q,U,J⟩)
    ·exact absurd (h2 q hq U t J) hm
 ·exact absurd h a0
theorem D.pG.over (H:qF rs) (U:L≤rs.length) (y:OwnAt rs L own) (h:pG rs given L own next fs rn number) {new:List A} (J:next ≠ []) (hn:new.Nodup) (I:∀ t ∈ new,t ∉ fs∧∃ q ∈ next,ja fs q t) (hm:300 < fs.length+new.length):(dW rs given).2=false:=by
 rcases h with ⟨r,fuel,h,h1,h2⟩ | ⟨h,_⟩
 ·obtain ⟨f,rfl,e⟩:=h.go U
  have:=UA (n:=number+1) H h.ok h.fact h.sim (fun q hq=>(y q).1 (h1 q hq)) hn I hm;rw [e,if_pos this]
 ·exact absurd h J
theorem D.pF.fin (H:qF rs) (h:pF rs given rs.length fs rn number):(dW rs given).2=true∧VX fs rn (dW rs given).1∧l9 (dW rs given).1∧(∀ x ∈ fs,aI x)∧fs.length≤300:=by
 have I:OwnAt rs rs.length []:=fun q=>⟨fun h=>by simp at h,fun ⟨h1,y⟩=>by have:=Xg H h1; omega⟩
 obtain ⟨r,fuel,y⟩:=(h.enter (own:=[])).done H ν I;have e:=y.run;rw [Nat.sub_self,zY] at e;have hf:=y.VY;exact ⟨by rw [e],by rw [e]; exact y.sim,by rw [e]; exact y.ok,y.facts,by have:=y.len; omega⟩
end
end
end Go.Proofs.YtkjinanbccloeaaGreatDoor
