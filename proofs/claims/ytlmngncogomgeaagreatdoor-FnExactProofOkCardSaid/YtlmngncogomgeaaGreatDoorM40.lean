/- Of the proof of FnExactProofOk: FolG, FtsP, PrvP. -/
import Derived.Test.YtlmngncogomgeaaGreatDoorM39
set_option linter.unusedVariables false
set_option maxHeartbeats 4000000
set_option maxRecDepth 100000
namespace Go.Proofs.YtlmngncogomgeaaGreatDoor
section
open Go.RowKit D
attribute [local go_sem ↓] Go.wp_at_zero Go.wp_at_succ
structure D.fV (K:Nat→Prop) (w w':World):Prop where
 os:w'.os=w.os
 tape:w'.tape=w.tape
 output:w'.output=w.output
 size:w.heap.size≤w'.heap.size
 block:∀ k,k < w.heap.size→¬ K k→w'.heap[k]? = w.heap[k]?
theorem D.fV.refl (K:Nat→Prop) (w:World):fV K w w:=⟨rfl,rfl,rfl,ν,fun _ _ _=>rfl⟩
theorem D.fV.trans {K:Nat→Prop} {w w' I:World} (h:fV K w w') (k:fV K w' I):fV K w I:=
 ⟨k.os.trans h.os,k.tape.trans h.tape,k.output.trans h.output,τ h.size k.size,fun i hi y=>(k.block i (κ hi h.size) y).trans (h.block i hi y)⟩
theorem D.fV.of_below {K:Nat→Prop} {w w':World} (h:Below w.heap.size w w'):fV K w w':=⟨h.os,h.tape,h.output,h.size,fun k hk _=>h.block k hk⟩
structure D.VP (gf:Nat) (tN:Array Value) (K:Nat→Prop) (St:Bool→World→List A→List Nat→Prop) (go:List A→Bool):Prop where
 enters:∀ args w,(callFunc gf args).run Tryz.prog w=.ok (.enter gf args) w
 lt:∀ {f:Bool} {w:World} {told:List A} {fb:List Nat},St f w told fb→∀ x ∈ fb,x < w.heap.size
 mine:∀ {f:Bool} {w:World} {told:List A} {fb:List Nat},St f w told fb→∀ x,K x→x ∈ fb
 keep:∀ {f:Bool} {w w':World} {told:List A} {fb:List Nat},St f w told fb→(∀ x ∈ fb,w'.heap[x]? = w.heap[x]?)→w.heap.size≤w'.heap.size→St f w' told fb
 call:∀ (w:World) (told:List A) (fb:List Nat) (a:A) (c1:Value) (ba:List Nat) (b0:Nat),St true w told fb→(∀ x ∈ fb,x < b0)→New b0 w ba→aP w [.string a.name,c1] a ba→aT a→
  Calls Tryz.prog gf (#[.agg #[.string a.name,c1]] ++ tN) w fun e w'=>e=.returned (.bool (go (told ++ [a])))∧(∃ fb',St (go (told ++ [a])) w' (told ++ [a]) fb'∧∀ x ∈ fb',x ∈ fb∨b0≤x)∧fV K w w'
theorem D.Pv {fs:List A} {r:Ru} {J:List A} (h1:∀ t ∈ J,∃ σ,sZ fs (bW r.body) (bH r.body) [] (2 ^ (bW r.body).length - 1) σ∧gm σ r.head=t):∀ t ∈ J,kE fs r t:=fun t h=>by
 obtain ⟨σ,⟨_,g2,g3⟩,rfl⟩:=h1 t h;refine ⟨σ,rfl,fun p y I=>?_,fun p y I=>g3 _ (o6.2 ⟨p,y,I,rfl⟩)⟩;obtain ⟨j,U,e⟩:=List.getElem_of_mem (oZ.2 ⟨p,y,I,rfl⟩);rw [← e];exact g2 j U (by rw [Nat.testBit_two_pow_sub_one]; simpa using U)
theorem JW (vars:List ByteArray) (hv:ji vars) (b:Bd) (a8:iW vars b) (head:A) (Ah:Option Addr) (ch:Nat) (bh:List Nat) (blk o c5 c7:Nat) {gf:Nat} {tN:Array Value} {K:Nat→Prop} {St:Bool→World→List A→List Nat→Prop} {go:List A→Bool} (TL:VP gf tN K St go) (told:List A) (fb:List Nat) (w:World) (hb:fQ vars b blk o w) (F:St true w told fb) (hok:aT (aY head b))
  (h5:w.cell? ⟨c5,0,none⟩=some (.func (.func gf) #[] tN)) (h7:w.cell? ⟨c7,0,none⟩=some (.string head.name)) (a9:w.cell? ⟨c7,1,none⟩=some (.slice Ah head.args.length ch))
  (hs:jG vars w [.slice Ah head.args.length ch] head.args bh) (a1:head.name.size≤maxLen) (hin:∀ t ∈ head.args,t.var=true→t.name ∈ vars) (a2:head.args.length≤1000000):
  Calls Tryz.prog 208 #[.pointer (some ⟨blk,o,none⟩),.pointer (some ⟨c5,0,none⟩),.pointer (some ⟨c7,0,none⟩)] w fun e w'=>e=.returned (.bool (go (told ++ [aY head b])))∧(∃ y,St (go (told ++ [aY head b])) w' (told ++ [aY head b]) y∧∀ x ∈ y,x ∈ fb∨w.heap.size≤x)∧fV K w w':=by
 have HF:=η (Dk vars hv b a8 head Ah ch bh blk o w.drew (hb.keep rfl) a1 ((bU vars).keep hs fun _ _=>rfl) hin a2);have eg:=TL.enters;have F0:=TL.lt F
 have a3:Hid (∀ (U:World) (v:Value) (bt:List Nat),Below w.heap.size w U→aP U [.string head.name,v] (aY head b) bt→New w.heap.size U bt→Calls Tryz.prog gf (#[.agg #[.string head.name,v]] ++ tN) U fun e w'=>e=.returned (.bool (go (told ++ [aY head b])))∧(∃ y,St (go (told ++ [aY head b])) w' (told ++ [aY head b]) y∧∀ x ∈ y,x ∈ fb∨w.heap.size≤x)∧fV K w w'):=η fun U v bt h2 ha hn=>by
  refine (TL.call U told fb (aY head b) v bt w.heap.size (TL.keep F (fun x hx=>h2.block x (F0 x hx)) h2.size) F0 hn ha hok).mono ?_;rintro e w3 ⟨rfl,I,J⟩;exact ⟨rfl,I,(fV.of_below h2).trans J⟩
 generalize go (told ++ [aY head b])=gv at *;clear hb F F0 TL hok hs a1 hin a2;have l5:=lt_of_cell h5;have l7:=lt_of_cell h7
 go_enter Tryz.func208,Tryz.ntmps208
 go_wp2
 go_region_law
  (first
   | (go_simp; go_at_call 87; refine HF.out.mono ?_; rintro e U ⟨v9,b9,rfl,a4,a5,a6⟩; have a0:=η ((Below.refl w.heap.size w).drew.trans a4); replace h5:=ξ a0.out h5; have a7:=η (a3.out U v9 b9 a0.out a5 a6); clear a4 a5 a6)
   | (go_simp; go_at_fn gf; refine a7.out.mono ?_; rintro e w3 ⟨rfl,I,J⟩; have HZ:=η (ι I J); clear I J))
 all_goals
  clear h5 h7 a9 a7 a3 HF a0;go_wp2;go_ret;exact ⟨rfl,HZ.out⟩
def D.JX (sb:Nat) (y I J:Value):Array Value:=#[.pointer (some ⟨sb,0,none⟩),y,I,J,.bool false,.bool false,.bool false,.bool false,.bool false,.bool false,.bool false,.bool false,.bool false,.bool false,.bool false,.bool false,.bool false,.int .i64 0,
 .string ⟨#[]⟩,.string ⟨#[]⟩,.string ⟨#[]⟩,.string ⟨#[]⟩,.string ⟨#[]⟩,.string ⟨#[]⟩,.string ⟨#[]⟩,.string ⟨#[]⟩,.string ⟨#[]⟩,.string ⟨#[]⟩,.string ⟨#[]⟩,.string ⟨#[]⟩,
 .int .i64 0,.int .i64 0,.int .i64 0,.int .i64 0,.int .i64 0,.int .i64 0,.int .i64 0,.int .i64 0,.int .i64 0,.int .i64 0,.int .i64 0,.int .i64 0,.int .i64 0,.nilFunc]
theorem D.VB {w:World} {sk sb:Nat} {y I J:Value} {t:TypeId} (vars:List ByteArray) (h:w.heap[sk]? = some (.cells (JX sb y I J) t (0,0))):kP sk sb y I (fun _=>false) false 0 .nilFunc w∧fQ vars [] sk 18 w∧∀ q,w.frozen? ⟨sk,q,none⟩=false:=by
 have c:=fun o=>aj h (o:=o)
 refine ⟨⟨c 0,c 1,c 2,fun i hi=>?_,c 16,c 17,c 43⟩,⟨fun i hi=>?_,fun i hi=>⟨0,?_,fun h=>by simp at h⟩,c 42,fun i _=>aB h⟩,fun q=>aB h⟩
 ·rw [c]
  have:i=0∨i=1∨i=2∨i=3∨i=4∨i=5∨i=6∨i=7∨i=8∨i=9∨i=10∨i=11:=by omega
  rcases this with rfl | rfl | rfl | rfl | rfl | rfl | rfl | rfl | rfl | rfl | rfl | rfl <;> rfl
 ·rw [c]
  have e:Ey vars [] i=⟨#[]⟩:=by unfold Ey; split <;> rfl
  rw [e];have:i=0∨i=1∨i=2∨i=3∨i=4∨i=5∨i=6∨i=7∨i=8∨i=9∨i=10∨i=11:=by omega
  rcases this with rfl | rfl | rfl | rfl | rfl | rfl | rfl | rfl | rfl | rfl | rfl | rfl <;> rfl
 ·rw [c]
  have:i=0∨i=1∨i=2∨i=3∨i=4∨i=5∨i=6∨i=7∨i=8∨i=9∨i=10∨i=11:=by omega
  rcases this with rfl | rfl | rfl | rfl | rfl | rfl | rfl | rfl | rfl | rfl | rfl | rfl <;> rfl
theorem D.kP.tell {sk sb:Nat} {I J:Value} {wt:Nat→Bool} {io:Bool} {ah:Int} {U:Value} {w:World} (h:kP sk sb I J wt io ah U w) (y:Value):kP sk sb I J wt io ah y (w.setCell ⟨sk,43,none⟩ y):=by
 have c:=D.jH w sk 43 y h.tl;exact ⟨by rw [c,if_neg (by omega)]; exact h.st,by rw [c,if_neg (by omega)]; exact h.p1,by rw [c,if_neg (by omega)]; exact h.p2,fun i hi=>by rw [c,if_neg (by omega)]; exact h.wd i hi,by rw [c,if_neg (by omega)]; exact h.io,by rw [c,if_neg (by omega)]; exact h.ah,by rw [c,if_pos rfl]⟩
theorem D.fQ.tell {vars:List ByteArray} {b:Bd} {sk:Nat} {I:Value} {w:World} (h:fQ vars b sk 18 w) (J:w.cell? ⟨sk,43,none⟩=some I) (y:Value):fQ vars b sk 18 (w.setCell ⟨sk,43,none⟩ y):=by
 have c:=D.jH w sk 43 y J
 exact ⟨fun i hi=>by rw [c,if_neg (by omega)]; exact h.wd i hi,fun i hi=>by
  obtain ⟨z,h1,U⟩:=h.bd i hi
  exact ⟨z,by rw [c,if_neg (by omega)]; exact h1,U⟩,by rw [c,if_neg (by omega)]; exact h.ct,fun i hi=>by rw [World.frozen?_setCell]; exact h.fz i hi⟩
structure D.Dt (gf:Nat) (tN:Array Value) (St:Bool→World→List A→List Nat→Prop) (vars:List ByteArray) (head:A) (Ah:Option Addr) (ch:Nat) (bh:List Nat) (sk c5 c7:Nat) (fb:List Nat) (n0:Nat) (f:Bool) (w:World) (told:List A):Prop where
 fnd:∃ fb',St f w told fb'∧(∀ x ∈ fb',x ≠ sk)∧∀ x ∈ fb',x ∈ fb∨n0≤x
 f5:w.heap[c5]? = some (.cells #[.func (.func gf) #[] tN] 100 (0,0))
 f7:w.heap[c7]? = some (.cells #[.string head.name,.slice Ah head.args.length ch] 143 (0,0))
 sl:jG vars w [.slice Ah head.args.length ch] head.args bh
 oH:n0≤w.heap.size
theorem D.Dt.keep {I:Nat} {tN:Array Value} {K:Nat→Prop} {St:Bool→World→List A→List Nat→Prop} {go:List A→Bool} (TL:VP I tN K St go) {vars:List ByteArray} {head:A} {Ah:Option Addr} {ch:Nat} {J:List Nat} {sk U c7:Nat} {fb:List Nat} {n0:Nat} {f:Bool} {w w':World} {told:List A} (h:Dt I tN St vars head Ah ch J sk U c7 fb n0 f w told) (n5:U ≠ sk) (n7:c7 ≠ sk) (nb:∀ x ∈ J,x ≠ sk) (hs:w.heap.size≤w'.heap.size)
  (hk:∀ x,x < w.heap.size→x ≠ sk→w'.heap[x]? = w.heap[x]?):Dt I tN St vars head Ah ch J sk U c7 fb n0 f w' told:=by
 obtain ⟨a0,g1,g2,g3⟩:=h.fnd;exact ⟨⟨a0,TL.keep g1 (fun x y=>hk x (TL.lt g1 x y) (g2 x y)) hs,g2,g3⟩,(hk _ (ψ h.f5) n5).trans h.f5,(hk _ (ψ h.f7) n7).trans h.f7,(bU vars).keep h.sl fun x y=>hk x ((bU vars).lt h.sl x y) (nb x y),τ h.oH hs⟩
theorem D.Tc {gf:Nat} {tN:Array Value} {K:Nat→Prop} {St:Bool→World→List A→List Nat→Prop} {go:List A→Bool} (TL:VP gf tN K St go) {r:Ru} (R:jr r) (hV:ji (ax r.body)) (hin:∀ t ∈ r.head.args,t.var=true→t.name ∈ ax r.body) (a1:r.head.name.size≤maxLen) {Ah:Option Addr} {ch:Nat} {bh:List Nat} {sk U c7:Nat} {fb:List Nat} {n0:Nat} (n5:U ≠ sk∧¬ K U) (n7:c7 ≠ sk∧¬ K c7) (nb:∀ x ∈ bh,x ≠ sk∧¬ K x) (nm:¬ K sk):
  vS (ax r.body) r.head sk (fun k=>k ≠ sk∧¬ K k) ⟨U,0,none⟩ ⟨c7,0,none⟩ (Dt gf tN St (ax r.body) r.head Ah ch bh sk U c7 fb n0) go:=by
 refine ⟨fun w b told a2 hw hc hb y=>?_,fun {f} w w' told y hk=>y.keep TL n5.1 n7.1 (fun x J=>(nb x J).1) hk.grow.size fun x J a3=>hk.block J a3⟩;obtain ⟨a4,g1,g2,g3⟩:=y.fnd;refine (JW (ax r.body) hV b a2 r.head Ah ch bh sk 18 U c7 TL told a4 w hb g1 (Pg R hw hc) (aj y.f5) (aj y.f7) (aj y.f7) y.sl a1 hin (by have:=jo R.hok; omega)).mono ?_;rintro e w2 ⟨rfl,⟨a5,h1,h2⟩,I⟩;have a0:=hb.lt;have hs:=y.oH
 refine ⟨rfl,⟨⟨a5,h1,fun x J=>?_,fun x J=>?_⟩,(I.block _ (ψ y.f5) n5.2).trans y.f5,(I.block _ (ψ y.f7) n7.2).trans y.f7,(bU _).keep y.sl fun x J=>I.block x ((bU _).lt y.sl x J) (nb x J).2,τ hs I.size⟩,
  ⟨I.os,I.tape,I.output,I.size,fun k hk hK=>I.block k hk hK.2,fun q _=>World.cell?_of_block (I.block _ a0 nm)⟩,I.block _ a0 nm⟩
 ·rcases h2 x J with h | h
  ·exact g2 x h
  ·omega
 ·rcases h2 x J with h | h
  ·exact g3 x h
  ·exact .inr (τ hs h)
theorem MV (sb:Nat) (fs:List A) (rn:List Nat) (bs:List Nat) (r:Ru) (c0 c1 c2:Value) (br:List Nat) {gf:Nat} {tN:Array Value} {K:Nat→Prop} {St:Bool→World→List A→List Nat→Prop} {go:List A→Bool} (TL:VP gf tN K St go) (told:List A) (fb:List Nat) (w:World) (ST:jO sb fs rn bs w) (bj:∀ f ∈ fs,aT f) (bl:fs.length≤1000000) (hr:jk w [c0,c1,c2] r br) (R:jr r)
  (F:St true w told fb) (cg:∀ x ∈ bs,¬ K x) (cE:∀ x ∈ br,¬ K x):
  Calls Tryz.prog 166 #[.pointer (some ⟨sb,0,none⟩),.agg #[c0,c1,c2],.func (.func gf) #[] tN] w fun e w'=>e=.returned (.tuple #[])∧
   ∃ ts a5 more,St more w' (told ++ ts) a5∧(∀ x ∈ a5,x ∈ fb∨w.heap.size≤x)∧fV K w w'∧(∀ t ∈ ts,kE fs r t)∧(more=true→∀ t,kE fs r t→t ∈ ts)∧(more=false→go (told ++ ts)=false):=by
 obtain ⟨a1,a2,Ab,cb,rfl,rfl,rfl⟩:=iK hr;obtain ⟨ci,cj,cG,ae,af⟩:=dX hr;have hV:=Gw R;have b8:Below w.heap.size w ((w.alloc (.cells #[.string r.head.name,.slice a1 r.head.args.length a2,.slice Ab r.body.length cb] 77)).alloc (.cells #[.func (.func gf) #[] tN] 100)):=(ζ).alloc (by simp) _
 have bn:((w.alloc (.cells #[.string r.head.name,.slice a1 r.head.args.length a2,.slice Ab r.body.length cb] 77)).alloc (.cells #[.func (.func gf) #[] tN] 100)).heap[w.heap.size+1]? = some (.cells #[.func (.func gf) #[] tN] 100 (0,0)):=by
  have:=ω (w.alloc (.cells #[.string r.head.name,.slice a1 r.head.args.length a2,.slice Ab r.body.length cb] 77)) (.cells #[.func (.func gf) #[] tN] 100);simpa using this
 have bo:((w.alloc (.cells #[.string r.head.name,.slice a1 r.head.args.length a2,.slice Ab r.body.length cb] 77)).alloc (.cells #[.func (.func gf) #[] tN] 100)).heap[w.heap.size]? = some (.cells #[.string r.head.name,.slice a1 r.head.args.length a2,.slice Ab r.body.length cb] 77 (0,0)):=by
  rw [Below.heap_alloc _ _ _ (by simp)];exact ω _ _
 have hq:=zL r.body (.slice Ab r.body.length cb) cj _ (aU.below af b8) (by have:=R.few; omega) (fun p hp=>by have:=jo (R.pok p hp); omega);have ag:=η b8;have ck:=η bn;have bp:=η bo;have HH:=η ae;have bt:((w.alloc (.cells #[.string r.head.name,.slice a1 r.head.args.length a2,.slice Ab r.body.length cb] 77)).alloc (.cells #[.func (.func gf) #[] tN] 100)).heap.size=w.heap.size+2:=by simp
 have az:=η bt;clear hr b8 bn bo ae af bt
 go_enter Tryz.func166,Tryz.ntmps166
 go_wp2_with fail
 generalize ((w.alloc (.cells #[.string r.head.name,.slice a1 r.head.args.length a2,.slice Ab r.body.length cb] 77)).alloc (.cells #[.func (.func gf) #[] tN] 100))=W0 at *;refine hq.mono ?_;rintro e w1 ⟨A1,n1,q1,A2,n2,U,A3,q3,bq,rfl,am,cl,bu⟩;obtain ⟨v1,v2,v3,b1,b2,b3,he,rfl,b9,aa,bv⟩:=cl;simp only [List.cons.injEq,and_true] at he;obtain ⟨rfl,rfl,rfl⟩:=he;obtain ⟨_,_,e1,_⟩:=ai b9;obtain ⟨_,_,e2,_⟩:=ai aa;simp only [Value.slice.injEq] at e1 e2;obtain ⟨-,rfl,-⟩:=e1;obtain ⟨-,rfl,-⟩:=e2;have bc:Below w1.heap.size w1 (w1.alloc (.cells #[.slice A1 (bW r.body).length q1,.slice A2 (bH r.body).length U,.slice A3 (ax r.body).length q3] 134)):=ζ;have a6:=η (am.trans (bc.mono am.size))
 have bw:=rG (ax r.body) r.head A1 A2 (bW r.body).length q1 (bH r.body).length U (.slice A3 (ax r.body).length q3) (.string r.head.name) (.slice a1 r.head.args.length a2) b3 ci _ (bV.below bv bc) (qo r.body) (by have:=hV.few; omega) (ak.Qd HH.out (ag.out.trans (a6.out.mono ag.out.size)) (fun b hb=>ak.lt HH.out b hb)) (AO (fs:=[]) R (by simp) (by simp) (wt:=fun i=>Gv (ax r.body) r.head (bH r.body) i) (fun _ _=>rfl)).hin (by have:=jo R.hok; omega);have x4:W0.cell? ⟨w.heap.size,0,none⟩=some (.string r.head.name):=aj bp.out;have x5:W0.cell? ⟨w.heap.size,1,none⟩=some (.slice a1 r.head.args.length a2):=aj bp.out;have u4:(w1.alloc (.cells #[.slice A1 (bW r.body).length q1,.slice A2 (bH r.body).length U,.slice A3 (ax r.body).length q3] 134)).cell? ⟨w.heap.size,0,none⟩=some (.string r.head.name):=ξ a6.out x4
 have u5:(w1.alloc (.cells #[.slice A1 (bW r.body).length q1,.slice A2 (bH r.body).length U,.slice A3 (ax r.body).length q3] 134)).cell? ⟨w.heap.size,1,none⟩=some (.slice a1 r.head.args.length a2):=ξ a6.out x5;have a3:=η (ι b9 (ι aa (ι am bu)));have bf:Hid ((w1.alloc (.cells #[.slice A1 (bW r.body).length q1,.slice A2 (bH r.body).length U,.slice A3 (ax r.body).length q3] 134)).heap[w1.heap.size]? = some (.cells #[.slice A1 (bW r.body).length q1,.slice A2 (bH r.body).length U,.slice A3 (ax r.body).length q3] 134 (0,0))∧W0.heap.size≤w1.heap.size):=η ⟨ω _ _,am.size⟩;clear hq am bu b9 aa bv bc
 go_wp2_with fail
 refine bw.mono ?_;rintro e y ⟨vp,bh,rfl,a7,aD,ab,bx⟩;obtain ⟨Ah,ch,rfl,_⟩:=ai ab;have bz:Below y.heap.size y (y.alloc (.cells #[.string r.head.name,.slice Ah r.head.args.length ch] 143)):=ζ;have cm:=η (a7.trans (bz.mono a7.size));have ao:=(a7.block _ (ψ bf.out.1)).trans bf.out.1;have u0:y.cell? ⟨w1.heap.size,0,none⟩=some (.slice A1 (bW r.body).length q1):=aj ao;have u1:y.cell? ⟨w1.heap.size,1,none⟩=some (.slice A2 (bH r.body).length U):=aj ao;have u2:y.cell? ⟨w1.heap.size,2,none⟩=some (.slice A3 (ax r.body).length q3):=aj ao;have u3:w1.heap.size < y.heap.size:=ψ ao;have ap:=η (ι aD (ι ab bx));have co:Hid (∀ x,x < (w1.alloc (.cells #[.slice A1 (bW r.body).length q1,.slice A2 (bH r.body).length U,.slice A3 (ax r.body).length q3] 134)).heap.size→y.heap[x]? = (w1.alloc (.cells #[.slice A1 (bW r.body).length q1,.slice A2 (bH r.body).length U,.slice A3 (ax r.body).length q3] 134)).heap[x]?):=η fun x I=>a7.block x I
 have aL:=η a7
 have bA:Hid (∀ x ∈ b2,x ≠ y.heap.size+1):=η fun x I=>by
  have h1:=(aX (ax r.body)).lt a3.out.2.1 x I;have h2:=a7.size;simp at h2;omega
 clear bw a7 aD ab bx bz u4 u5 x4 x5 ao;have hE:=AO R bj bl (wt:=fun i=>Gv (ax r.body) r.head (bH r.body) i) (fun _ _=>rfl)
 have bB:((y.alloc (.cells #[.string r.head.name,.slice Ah r.head.args.length ch] 143)).alloc (.cells (JX sb (.slice A1 (bW r.body).length q1) (.slice A2 (bH r.body).length U) (.slice A3 (ax r.body).length q3)) 290)).heap[y.heap.size+1]? = some (.cells (JX sb (.slice A1 (bW r.body).length q1) (.slice A2 (bH r.body).length U) (.slice A3 (ax r.body).length q3)) 290 (0,0)):=by
  have:=ω (y.alloc (.cells #[.string r.head.name,.slice Ah r.head.args.length ch] 143)) (.cells (JX sb (.slice A1 (bW r.body).length q1) (.slice A2 (bH r.body).length U) (.slice A3 (ax r.body).length q3)) 290);simpa using this
 obtain ⟨aM,bE,bg⟩:=VB (ax r.body) bB;have bi:Below y.heap.size y ((y.alloc (.cells #[.string r.head.name,.slice Ah r.head.args.length ch] 143)).alloc (.cells (JX sb (.slice A1 (bW r.body).length q1) (.slice A2 (bH r.body).length U) (.slice A3 (ax r.body).length q3)) 290)):=(ζ).alloc (by simp) _
 have bL:((y.alloc (.cells #[.string r.head.name,.slice Ah r.head.args.length ch] 143)).alloc (.cells (JX sb (.slice A1 (bW r.body).length q1) (.slice A2 (bH r.body).length U) (.slice A3 (ax r.body).length q3)) 290)).heap[y.heap.size]? = some (.cells #[.string r.head.name,.slice Ah r.head.args.length ch] 143 (0,0)):=by
  rw [Below.heap_alloc _ _ _ (by simp)];exact ω _ _
 have a0:=(bU (ax r.body)).lt ap.out.2.1;have bO:=JB (ax r.body) hV r.head Ah ch bh (y.heap.size+1) sb _ _ _ false 0 .nilFunc _ aM bg ((bU _).below ap.out.2.1 bi) hE.hin (fun hm=>by have:=a0 _ hm; omega) (by have:=jo R.hok; omega);have cp:Hid (((y.alloc (.cells #[.string r.head.name,.slice Ah r.head.args.length ch] 143)).alloc (.cells (JX sb (.slice A1 (bW r.body).length q1) (.slice A2 (bH r.body).length U) (.slice A3 (ax r.body).length q3)) 290)).heap.size=y.heap.size+2):=η (by simp);have a8:=η (ι bE (ι bg (ι bi bL)));have cq:=η a0;clear aM bE bg bi bL bB a0
 go_wp2_with fail
 refine bO.mono ?_;rintro e w3 ⟨rfl,aR,aq⟩;generalize ((y.alloc (.cells #[.string r.head.name,.slice Ah r.head.args.length ch] 143)).alloc (.cells (JX sb (.slice A1 (bW r.body).length q1) (.slice A2 (bH r.body).length U) (.slice A3 (ax r.body).length q3)) 290))=WS at *;have z1:=a6.out.size;have z2:=cm.out.size;have z3:=bf.out.2;have z4:=cp.out;have z5:=az.out;simp at z1 z2;have HZ:Hid (w.heap.size+2≤w1.heap.size∧w1.heap.size < y.heap.size∧WS.heap.size=y.heap.size+2):=η ⟨by omega,u3,z4⟩;have b4:y.cell? ⟨w1.heap.size,1,none⟩=some (.slice A2 (bH r.body).length U):=u1
 have bR:Hid (∀ wr:World,ig (y.heap.size+1) WS wr→wr.cell? ⟨w1.heap.size,1,none⟩=some (.slice A2 (bH r.body).length U)∧kK (ax r.body) wr [.slice A2 (bH r.body).length U] (bH r.body) b2):=η fun wr hk=>by
  have kp:∀ x,x < y.heap.size→wr.heap[x]? = y.heap[x]?:=fun x I=>(hk.grow.block x (by rw [z4]; omega) (fun e=>by injection e with e; omega)).trans (a8.out.2.2.1.block x I)
  have hp:=(aX (ax r.body)).below a3.out.2.1 ((Below.refl w1.heap.size w1).alloc ν (.cells #[.slice A1 (bW r.body).length q1,.slice A2 (bH r.body).length U,.slice A3 (ax r.body).length q3] 134));have aa:=(aX (ax r.body)).keep (w':=y) hp fun x I=>co.out x ((aX (ax r.body)).lt hp x I)
  exact ⟨(World.cell?_of_block (kp _ u3)).trans b4,(aX (ax r.body)).keep aa fun x I=>kp x ((aX (ax r.body)).lt aa x I)⟩
 have y1:=(bR.out w3 aq).1;have bX:∀ n ∈ bH r.body,∀ t ∈ n.args,t.var=true→t.name ∈ ax r.body:=hE.nin;have c3:∀ n ∈ bH r.body,aZ n=true:=hE.nok;have c4:=η (ι bX c3)
 have c5:Hid (kP (y.heap.size+1) sb (.slice A1 (bW r.body).length q1) (.slice A2 (bH r.body).length U) (fun i=>fG (ax r.body) r.head.args i || ((bH r.body).take 0).any fun n=>fG (ax r.body) n.args i) false 0 .nilFunc w3∧ig (y.heap.size+1) WS w3):=η ⟨by
  have e:(fun i=>fG (ax r.body) r.head.args i || ((bH r.body).take 0).any fun n=>fG (ax r.body) n.args i)=fun i=>false || fG (ax r.body) r.head.args i:=funext fun i=>by simp
  rw [e]; exact aR,aq⟩
 have cI:(bH r.body).length≤1000000:=hE.nl;clear bO aR aq u0 u1 u2 b4 bX c3;go_wp2
 go_loopw [28] (fun i wr=>∃ (k:Nat),k≤(bH r.body).length∧i=.int .i64 k∧kP (y.heap.size+1) sb (.slice A1 (bW r.body).length q1) (.slice A2 (bH r.body).length U) (fun i=>fG (ax r.body) r.head.args i || ((bH r.body).take k).any fun n=>fG (ax r.body) n.args i) false 0 .nilFunc wr∧ig (y.heap.size+1) WS wr) (fun i _=>(bH r.body).length - (intOf i).toNat)
 case atStart=>exact ⟨0,ε,rfl,c5.out⟩
 case round=>
  obtain ⟨k,hk,rfl,hI,hK⟩:=hrel;clear c5 y1;by_cases ac:k < (bH r.body).length
  ·obtain ⟨bq,oq,An,cn,bk,rfl,cr,f0,f1,⟨vv,c6,aD,ab⟩,b5⟩:=qj (bR.out wr hK).2 ac
   simp only [List.cons.injEq,and_true,true_and] at c6;subst c6;have cJ:(0:Int)≤(k:Int):=by omega
   have cv:(k:Int) < ((bH r.body).length:Int):=by omega
   have ar:Below wr.heap.size wr (wr.alloc (.cells #[.string (bH r.body)[k].name,.slice An (bH r.body)[k].args.length cn] 143)):=ζ;have av:=JB (ax r.body) hV (bH r.body)[k] An cn bk (y.heap.size+1) sb _ _ _ false 0 .nilFunc (wr.alloc (.cells #[.string (bH r.body)[k].name,.slice An (bH r.body)[k].args.length cn] 143)) (hI.keep (ar.block _ hI.lt)) (fun q=>(World.frozen?_of_block (ar.block _ hI.lt)).trans ((hK.frz q).trans (a8.out.2.1 q))) ((bU _).below ab ar) (c4.out.1 _ (δ ac)) (fun hm=>bA.out _ (b5 _ hm) rfl) (by have:=jo (c4.out.2 _ (δ ac)); omega);have c7:=η (hK.trans (ig.of_below ar hI.lt))
   have c8:Hid (∀ i,(fG (ax r.body) r.head.args i || ((bH r.body).take (k+1)).any fun n=>fG (ax r.body) n.args i)=((fG (ax r.body) r.head.args i || ((bH r.body).take k).any fun n=>fG (ax r.body) n.args i) || fG (ax r.body) (bH r.body)[k].args i)):=η fun i=>by
    rw [ρ ac,List.any_append]; simp [Bool.or_assoc]
   have c9:=η ac;clear hI hK ar aD ab b5 hk cr;generalize (bH r.body)[k]=n at *;obtain ⟨nn,cw⟩:=n;dsimp only at *;clear ac
   go_wp2_with fail
   refine av.mono ?_;rintro e w4 ⟨rfl,ca,cc⟩
   have cx:Hid (kP (y.heap.size+1) sb (.slice A1 (bW r.body).length q1) (.slice (some ⟨bq,oq,none⟩) (bH r.body).length U) (fun i=>fG (ax r.body) r.head.args i || ((bH r.body).take (k+1)).any fun n=>fG (ax r.body) n.args i) false 0 .nilFunc w4∧ig (y.heap.size+1) WS w4):=η ⟨by
    rw [funext c8.out]; exact ca,c7.out.trans cc⟩
   clear av ca cc c7 c8;go_wp2;go_roundw
   case rel=>exact ⟨k+1,c9.out,by go_num,cx.out⟩
   case measure=>have:=c9.out; simp [intOf]; omega
  ·have he:k=(bH r.body).length:=by omega
   have cv:¬ (k:Int) < ((bH r.body).length:Int):=by omega
   rw [ϕ (Nat.le_of_eq he.symm)] at hI;have hz:=HZ.out;have cK:=hK.grow.size;have cy:=hI.tl;have cL:wr.frozen? ⟨y.heap.size+1,43,none⟩=false:=(hK.frz 43).trans (a8.out.2.1 43);have J:Below w.heap.size w WS:=ag.out.trans ((a6.out.mono ag.out.size).trans ((aL.out.mono (τ ag.out.size a6.out.size)).trans (a8.out.2.2.1.mono (by omega))));have cB:=η J
   have a4:∀ x,x < y.heap.size+1→(wr.setCell ⟨y.heap.size+1,43,none⟩ (.func (.func 208) #[] #[.pointer (some ⟨w.heap.size+1,0,none⟩),.pointer (some ⟨y.heap.size,0,none⟩)])).heap[x]? = WS.heap[x]?:=fun x I=>
    (π _ _ _ _ (by show x ≠ y.heap.size+1; omega)).trans (hK.grow.block x (by omega) (fun e=>by injection e with e; omega))
   have aw:∀ x,x < y.heap.size→WS.heap[x]? = y.heap[x]?:=fun x I=>a8.out.2.2.1.block x I
   have aE:∀ x,x < w1.heap.size→y.heap[x]? = w1.heap[x]?:=fun x I=>(aL.out.block x (by simp; omega)).trans (Below.heap_alloc _ _ _ I)
   have S5:oW (ax r.body) fs rn bs (bW r.body) (bH r.body) (y.heap.size+1) sb (.slice A1 (bW r.body).length q1) (.slice A2 (bH r.body).length U) b1 b2 (fun i=>fG (ax r.body) r.head.args i || (bH r.body).any fun n=>fG (ax r.body) n.args i) 0
     (.func (.func 208) #[] #[.pointer (some ⟨w.heap.size+1,0,none⟩),.pointer (some ⟨y.heap.size,0,none⟩)]) (fun k=>k ≠ y.heap.size+1∧¬ K k) []
     (wr.setCell ⟨y.heap.size+1,43,none⟩ (.func (.func 208) #[] #[.pointer (some ⟨w.heap.size+1,0,none⟩),.pointer (some ⟨y.heap.size,0,none⟩)])):=by
    refine ⟨hI.tell _,(a8.out.1.wt hK).tell cy _,iW.nil _,fun p hp=>by simp at hp,ST.keep (fun x I=>?_) ?_,(aX _).keep a3.out.1 fun x I=>?_,(aX _).keep a3.out.2.1 fun x I=>?_,fun x I=>⟨?_,cg x I⟩,fun x I=>?_,fun x I=>?_⟩
    ·have:=ST.lt x I
     exact (a4 x (by omega)).trans (J.block x this)
    ·simp [World.setCell]; omega
    ·have:=(aX (ax r.body)).lt a3.out.1 x I
     exact (a4 x (by omega)).trans ((aw x (by omega)).trans (aE x this))
    ·have:=(aX (ax r.body)).lt a3.out.2.1 x I
     exact (a4 x (by omega)).trans ((aw x (by omega)).trans (aE x this))
    ·have:=ST.lt x I; omega
    ·have h1:=(aX (ax r.body)).lt a3.out.1 x I
     have h2:=a3.out.2.2.2 x (by simp [I]);have h4:=az.out;exact ⟨by omega,fun hK=>by have:=TL.lt F x (TL.mine F x hK); omega⟩
    ·have h1:=(aX (ax r.body)).lt a3.out.2.1 x I
     have h2:=a3.out.2.2.2 x (by simp [I]);have h4:=az.out;exact ⟨by omega,fun hK=>by have:=TL.lt F x (TL.mine F x hK); omega⟩
   have a9:∀ x,K x→x < w.heap.size:=fun x I=>TL.lt F x (TL.mine F x I)
   have a0:=cq.out
   have cd:Dt gf tN St (ax r.body) r.head Ah ch bh (y.heap.size+1) (w.heap.size+1) y.heap.size fb w.heap.size true (wr.setCell ⟨y.heap.size+1,43,none⟩ (.func (.func 208) #[] #[.pointer (some ⟨w.heap.size+1,0,none⟩),.pointer (some ⟨y.heap.size,0,none⟩)])) told:=by
    refine ⟨⟨fb,TL.keep F (fun x I=>?_) ?_,fun x I=>?_,fun x I=>.inl I⟩,?_,?_,(bU _).keep ap.out.2.1 fun x I=>?_,?_⟩
    ·have:=TL.lt F x I
     exact (a4 x (by omega)).trans (J.block x this)
    ·simp [World.setCell]; omega
    ·have:=TL.lt F x I; omega
    ·have h4:=az.out
     have h9:=a6.out.block (w.heap.size+1) (by omega);rw [Below.heap_alloc _ _ _ (by omega)] at h9;exact (a4 _ (by omega)).trans ((aw _ (by omega)).trans ((aE _ (by omega)).trans (h9.trans ck.out)))
    ·exact (a4 _ (by omega)).trans a8.out.2.2.2
    ·have:=a0 x I
     exact (a4 x (by omega)).trans (aw x this)
    ·simp [World.setCell]; omega
   have ce:∀ x ∈ bh,x ≠ y.heap.size+1∧¬ K x:=fun x I=>by
    have h1:=a0 x I;have h2:=(ap.out.2.2.own x I).1;simp at h2;exact ⟨by omega,fun hK=>by have:=a9 x hK; omega⟩
   have b6:=DT (ax r.body) fs rn bs (bW r.body) (bH r.body) r.head (y.heap.size+1) sb A1 q1 A2 U b1 b2 (fun i=>fG (ax r.body) r.head.args i || (bH r.body).any fun n=>fG (ax r.body) n.args i) 0 ⟨w.heap.size+1,0,none⟩ ⟨y.heap.size,0,none⟩ (fun k=>k ≠ y.heap.size+1∧¬ K k)
    (Dt gf tN St (ax r.body) r.head Ah ch bh (y.heap.size+1) (w.heap.size+1) y.heap.size fb w.heap.size) go (AO R bj bl fun i _=>rfl) (fun k hk=>hk.1)
    (Tc TL R hV hE.hin ap.out.1 ⟨by omega,fun hK=>by have:=a9 _ hK; omega⟩ ⟨by omega,fun hK=>by have:=a9 _ hK; omega⟩ ce (fun hK=>by have:=a9 _ hK; omega)) told _ S5 cd
   have b7:Hid (∀ w9 held more,iO (ax r.body) fs (bW r.body) (bH r.body) r.head (fun k=>k ≠ y.heap.size+1∧¬ K k) (y.heap.size+1) (Dt gf tN St (ax r.body) r.head Ah ch bh (y.heap.size+1) (w.heap.size+1) y.heap.size fb w.heap.size) go [] (2 ^ (bW r.body).length - 1) told held more
     (wr.setCell ⟨y.heap.size+1,43,none⟩ (.func (.func 208) #[] #[.pointer (some ⟨w.heap.size+1,0,none⟩),.pointer (some ⟨y.heap.size,0,none⟩)])) w9→
     ∃ ts a5 more,St more w9 (told ++ ts) a5∧(∀ x ∈ a5,x ∈ fb∨w.heap.size≤x)∧fV K w w9∧(∀ t ∈ ts,kE fs r t)∧(more=true→∀ t,kE fs r t→t ∈ ts)∧(more=false→go (told ++ ts)=false)):=η fun w9 held more hP=>by
    obtain ⟨ts,p1,_,p3,p4,p5,_,p7⟩:=hP;obtain ⟨a5,g1,g2,g3⟩:=p3.fnd;have cz:w.heap.size≤wr.heap.size:=by omega
    exact ⟨ts,a5,more,g1,g3,⟨p1.os.trans (hK.grow.os.trans J.os),p1.tape.trans (hK.grow.tape.trans J.tape),p1.output.trans (hK.grow.output.trans J.output),τ cz (τ (by simp [World.setCell]) p1.size),
     fun x I cA=>(p1.block x (by simp [World.setCell]; omega) ⟨by omega,cA⟩).trans ((a4 x (by omega)).trans (J.block x I))⟩,Pv p4,fun h t=>(SC R p4 (p5 h) t).2,p7⟩
   have cD:y.heap.size+1 < wr.heap.size:=by omega
   clear S5 cd ce hI hK J a4 aw aE a0 hE
   go_wp2_with fail
   refine b6.mono ?_;rintro e w9 ⟨rfl,held,more,hP⟩;have HD:=η (b7.out w9 held more hP);clear b6 hP b7;go_wp2
   go_end0
   exact ⟨rfl,HD.out⟩
end
namespace D
open Go.RowKit
theorem Du:∀ (l fs l2 f2:List A) (b:Bd),l.length=fs.length→oI (l ++ l2) (fs ++ f2) b=if (oI l fs b).2 then oI l2 f2 (oI l fs b).1 else oI l fs b
 | [],[],l2,f2,b,_=>by simp [oI]
 | a :: l,f :: fs,l2,f2,b,h=>by
  have ih:=Du l fs l2 f2 (aC a f b).1 (by simpa using h);simp only [List.cons_append,oI]
  split
  ·exact ih
  ·rfl
 | [],f :: fs,_,_,_,h=>by simp at h
 | a :: l,[],_,_,_,h=>by simp at h
theorem Td (a f:A) (b:Bd):oI [a] [f] b=aC a f b:=by
 rw [oI]
 split
 ·rename_i h; exact Prod.ext rfl h.symm
 ·rename_i h
  exact Prod.ext rfl (by simpa using h)
structure jZ (body:List Pt) (ks:List A) (b0:Bd) (i k:Nat) (m:Bd × Bool):Prop where
 hi:i≤body.length
 len:(bW (body.take i)).length=k
 hk:k≤ks.length
 eq:oI (bW (body.take i)) (ks.take k) b0=m
theorem UO (body:List Pt) (i:Nat):(bW (body.take i)).length≤(bW body).length:=by
 unfold bW;simp only [List.length_map];exact ((List.take_sublist i body).filter _).length_le
theorem jZ.start (body:List Pt) (y:List A) (b0:Bd):jZ body y b0 0 0 (b0,true):=⟨ε,rfl,ε,rfl⟩
theorem jZ.skip {body:List Pt} {y:List A} {b0:Bd} {i k:Nat} {m:Bd × Bool} (h:jZ body y b0 i k m) (hi:i < body.length) (I:body[i].no=true):jZ body y b0 (i+1) k m:=by
 have e:bW (body.take (i+1))=bW (body.take i):=by rw [sK body i hi,I]; simp
 exact ⟨hi,by rw [e]; exact h.len,h.hk,by rw [e]; exact h.eq⟩
theorem jZ.step {body:List Pt} {y:List A} {b0 b:Bd} {i k:Nat} (h:jZ body y b0 i k (b,true)) (hi:i < body.length) (I:body[i].no=false) (hk:k < y.length):jZ body y b0 (i+1) (k+1) (aC body[i].atom y[k] b):=by
 have e:bW (body.take (i+1))=bW (body.take i) ++ [body[i].atom]:=by rw [sK body i hi,I]; simp
 refine ⟨hi,by rw [e,χ,h.len]; rfl,hk,?_⟩;rw [e,ρ hk,Du _ _ _ _ _ (by rw [h.len,List.length_take]; have:=h.hk; omega),h.eq,if_pos rfl,Td]
theorem jZ.short {r:Ru} {f:A} {y ys:List A} {b0:Bd} {i k:Nat} {m:Bd × Bool} (h:jZ r.body y b0 i k m) (hi:i < r.body.length) (I:r.body[i].no=false) (hk:¬ k < y.length):iV r f y ys=false:=by
 have e:bW (r.body.take (i+1))=bW (r.body.take i) ++ [r.body[i].atom]:=by rw [sK r.body i hi,I]; simp
 have h1:=UO r.body (i+1);rw [e,χ,h.len] at h1;have J:=h.hk;simp at h1;unfold iV;rw [decide_eq_false (by omega)];rfl
theorem jZ.bad {r:Ru} {f:A} {y ys:List A} {i k:Nat} {m:Bd × Bool} (h:jZ r.body y (aC r.head f []).1 i k m) (hm:m.2=false):iV r f y ys=false:=by
 unfold iV;by_cases I:y.length=(bW r.body).length
 ·have J:bW r.body=bW (r.body.take i) ++ bW (r.body.drop i):=by
   unfold bW;rw [← List.map_append,← List.filter_append,List.take_append_drop]
  have e:oI (bW r.body) y (aC r.head f []).1=m:=by
   conv=>lhs; rw [J,← List.take_append_drop k y]
   rw [Du _ _ _ _ _ (by rw [h.len,List.length_take]; have:=h.hk; omega),h.eq,hm];rfl
  rw [e,hm];simp
 ·rw [decide_eq_false I]
  rfl
theorem jZ.full {r:Ru} {f:A} {y ys:List A} {b:Bd} {k:Nat} (h:jZ r.body y (aC r.head f []).1 r.body.length k (b,true)) (h0:(aC r.head f []).2=true):iV r f y ys=(decide (k=y.length) && dW ys r.body b):=by
 have I:=h.len;have he:=h.eq;rw [ϕ ν] at I he;unfold iV;rw [h0,I];by_cases hk:k=y.length
 ·subst hk
  rw [ϕ ν] at he;rw [he];simp
 ·rw [decide_eq_false hk,decide_eq_false (fun e=>hk e.symm)]
  rfl
theorem Px {r:Ru} {f:A} {y ys:List A} (h:(aC r.head f []).2=false):iV r f y ys=false:=by
 unfold iV;rw [h];simp
theorem JY {a f:A} {b:Bd}:(aC a f b).1.length≤b.length+a.args.length:=vz a f b
theorem JZ {rs:List Ru} {xs ys:List A} {p:Pf} (h:p.rule = -1):jw rs xs ys p=(p.kids.isEmpty && (hasB xs p.fact && aW p.fact)):=by
 obtain ⟨f,r,y⟩:=p;change r = -1 at h;rw [jw,if_pos h]; rfl
theorem Py {rs:List Ru} {xs ys:List A} {p:Pf} (h:p.rule ≠ -1) (y:¬ (0≤p.rule∧p.rule < (rs.length:Int))):jw rs xs ys p=false:=by
 obtain ⟨f,r,I⟩:=p;change r ≠ -1 at h;change ¬ (0≤r∧r < (rs.length:Int)) at y;rw [jw,if_neg h]
 split
 ·rfl
 ·rw [List.getElem?_eq_none (by omega)]
theorem J3 {rs:List Ru} {xs ys:List A} {p:Pf} {i:Nat} (h:p.rule=i) (hi:i < rs.length):jw rs xs ys p=(aW p.fact && (iV rs[i] p.fact (p.kids.map Pf.fact) ys && p.kids.all fun k=>xY k.fact) && p.kids.all (jw rs xs ys)):=by
 obtain ⟨f,r,y⟩:=p;change r=i at h;subst h;rw [jw,if_neg (by omega),if_neg (by omega),Int.toNat_natCast,Ψ hi];dsimp only;rw [vT];rfl
def ng (l fs:List A) (b0:Bd) (i:Nat) (b:Bd):Prop:=oI l fs b0=oI (l.drop i) (fs.drop i) b
theorem ng.start (l fs:List A) (b0:Bd):ng l fs b0 0 b0:=rfl
theorem ng.step {l fs:List A} {b0 b b2:Bd} {i:Nat} (h:ng l fs b0 i b) (y:i < l.length) (hf:i < fs.length) (hm:aC l[i] fs[i] b=(b2,true)):ng l fs b0 (i+1) b2:=by
 unfold ng at *;rw [h,List.drop_eq_getElem_cons y,List.drop_eq_getElem_cons hf,oI,hm];rfl
theorem ng.bad {l fs:List A} {b0 b b2:Bd} {i:Nat} (h:ng l fs b0 i b) (y:i < l.length) (hf:i < fs.length) (hm:aC l[i] fs[i] b=(b2,false)):(oI l fs b0).2=false:=by
 unfold ng at h;rw [h,List.drop_eq_getElem_cons y,List.drop_eq_getElem_cons hf,oI,hm];rfl
theorem ng.full {l fs:List A} {b0 b:Bd} {i:Nat} (h:ng l fs b0 i b) (hi:l.length≤i):oI l fs b0=(b,true):=by
 unfold ng at h;rw [h,List.drop_eq_nil_of_le hi]
 cases fs.drop i <;> rfl
theorem J4 (ys:List A) (body:List Pt) (b:Bd):dW ys body b=(bH body).all fun a=>!hasB ys (aY a b):=by
 induction body with
 | nil=>rfl
 | cons p l ih=>
  have y:dW ys (p :: l) b=((!p.no || !hasB ys (aY p.atom b)) && dW ys l b):=by unfold dW; rw [List.all_cons]
  have I:bH (p :: l)=if p.no then p.atom :: bH l else bH l:=by unfold bH; rw [List.filter_cons]; split <;> rfl
  rw [y,I,ih];cases p.no
  ·rw [if_neg (by decide)]; rfl
  ·rw [if_pos rfl,List.all_cons]; rfl
theorem Tf {ys:List A} (I:∀ y ∈ ys,aT y) (a:A) (b:Bd):(hasB ys (aY a b) && aW (aY a b))=hasB ys (aY a b):=by
 cases h:hasB ys (aY a b)
 ·rfl
 ·obtain ⟨x,J,U⟩:=mF.1 h
  have hf:aW x=true:=yV (I x J);have:x=aY a b:=Q8 (yu hf) (nT (iR b) a) U;rw [← this,hf]; rfl
end D
end Go.Proofs.YtlmngncogomgeaaGreatDoor
