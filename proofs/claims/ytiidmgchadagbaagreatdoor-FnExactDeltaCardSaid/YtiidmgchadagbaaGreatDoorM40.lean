/- Of the proof of FnExactDelta: FolG. -/
import Derived.Test.YtiidmgchadagbaaGreatDoorM39
set_option linter.unusedVariables false
set_option maxHeartbeats 4000000
set_option maxRecDepth 100000
namespace Go.Proofs.YtiidmgchadagbaaGreatDoor
open Go.RowKit D
attribute [local go_sem ↓] Go.wp_at_zero Go.wp_at_succ
structure D.gW (K:Nat→Prop) (w w':World):Prop where
 os:w'.os=w.os
 tape:w'.tape=w.tape
 output:w'.output=w.output
 size:w.heap.size≤w'.heap.size
 block:∀ k,k < w.heap.size→¬ K k→w'.heap[k]? = w.heap[k]?
theorem D.gW.refl (K:Nat→Prop) (w:World):gW K w w:=⟨rfl,rfl,rfl,Nat.le_refl _,fun _ _ _=>rfl⟩
theorem D.gW.trans {K:Nat→Prop} {w w' w2:World} (h:gW K w w') (k:gW K w' w2):gW K w w2:=
 ⟨k.os.trans h.os,k.tape.trans h.tape,k.output.trans h.output,Nat.le_trans h.size k.size,fun i hi hne=>(k.block i (Nat.lt_of_lt_of_le hi h.size) hne).trans (h.block i hi hne)⟩
theorem D.gW.of_below {K:Nat→Prop} {w w':World} (h:Below w.heap.size w w'):gW K w w':=⟨h.os,h.tape,h.output,h.size,fun k hk _=>h.block k hk⟩
structure D.WL (gf:Nat) (vG:Array Value) (K:Nat→Prop) (St:Bool→World→List A→List Nat→Prop) (go:List A→Bool):Prop where
 enters:∀ args w,(callFunc gf args).run Tryz.prog w=.ok (.enter gf args) w
 lt:∀ {f:Bool} {w:World} {told:List A} {fb:List Nat},St f w told fb→∀ x ∈ fb,x < w.heap.size
 mine:∀ {f:Bool} {w:World} {told:List A} {fb:List Nat},St f w told fb→∀ x,K x→x ∈ fb
 keep:∀ {f:Bool} {w w':World} {told:List A} {fb:List Nat},St f w told fb→(∀ x ∈ fb,w'.heap[x]? = w.heap[x]?)→w.heap.size≤w'.heap.size→St f w' told fb
 call:∀ (w:World) (told:List A) (fb:List Nat) (a:A) (c1:Value) (ba:List Nat) (b0:Nat),St true w told fb→(∀ x ∈ fb,x < b0)→New b0 w ba→aU w [.string a.name,c1] a ba→aX a→
  Calls Tryz.prog gf (#[.agg #[.string a.name,c1]] ++ vG) w fun e w'=>e=.returned (.bool (go (told ++ [a])))∧(∃ fb',St (go (told ++ [a])) w' (told ++ [a]) fb'∧∀ x ∈ fb',x ∈ fb∨b0≤x)∧gW K w w'
theorem D.QA {fs:List A} {r:Ru} {ts:List A} (h1:∀ t ∈ ts,∃ σ,uT fs (gZ r.body) (dX r.body) [] (2 ^ (gZ r.body).length - 1) σ∧gY σ r.head=t):∀ t ∈ ts,lg fs r t:=fun t h=>by
 obtain ⟨σ,⟨_,g2,g3⟩,rfl⟩:=h1 t h;refine ⟨σ,rfl,fun p hp hn=>?_,fun p hp hn=>g3 _ (qy.2 ⟨p,hp,hn,rfl⟩)⟩;obtain ⟨j,hj,e⟩:=List.getElem_of_mem (qx.2 ⟨p,hp,hn,rfl⟩);rw [← e];exact g2 j hj (by rw [Nat.testBit_two_pow_sub_one]; simpa using hj)
theorem KQ (vars:List ByteArray) (hv:jT vars) (b:Bd) (hbo:jJ vars b) (head:A) (Ah:Option Addr) (ch:Nat) (bh:List Nat) (blk o c5 c7:Nat) {gf:Nat} {vG:Array Value} {K:Nat→Prop} {St:Bool→World→List A→List Nat→Prop} {go:List A→Bool} (TL:WL gf vG K St go) (told:List A) (fb:List Nat) (w:World) (hb:iJ vars b blk o w) (F:St true w told fb) (hok:aX (bY head b))
  (h5:w.cell? ⟨c5,0,none⟩=some (.func (.func gf) #[] vG)) (h7:w.cell? ⟨c7,0,none⟩=some (.string head.name)) (h71:w.cell? ⟨c7,1,none⟩=some (.slice Ah head.args.length ch))
  (hs:kP vars w [.slice Ah head.args.length ch] head.args bh) (hnm:head.name.size≤maxLen) (hin:∀ t ∈ head.args,t.var=true→t.name ∈ vars) (hal:head.args.length≤1000000):
  Calls Tryz.prog 142 #[.pointer (some ⟨blk,o,none⟩),.pointer (some ⟨c5,0,none⟩),.pointer (some ⟨c7,0,none⟩)] w fun e w'=>e=.returned (.bool (go (told ++ [bY head b])))∧(∃ fb',St (go (told ++ [bY head b])) w' (told ++ [bY head b]) fb'∧∀ x ∈ fb',x ∈ fb∨w.heap.size≤x)∧gW K w w':=by
 have HF:=η (J6 vars hv b hbo head Ah ch bh blk o w.drew (hb.keep rfl) hnm ((dm vars).keep hs fun _ _=>rfl) hin hal);have eg:=TL.enters;have F0:=TL.lt F
 have HTL:Hid (∀ (w2:World) (v:Value) (bt:List Nat),Below w.heap.size w w2→aU w2 [.string head.name,v] (bY head b) bt→New w.heap.size w2 bt→Calls Tryz.prog gf (#[.agg #[.string head.name,v]] ++ vG) w2 fun e w'=>e=.returned (.bool (go (told ++ [bY head b])))∧(∃ fb',St (go (told ++ [bY head b])) w' (told ++ [bY head b]) fb'∧∀ x ∈ fb',x ∈ fb∨w.heap.size≤x)∧gW K w w'):=η fun w2 v bt h2 ha hn=>by
  refine (TL.call w2 told fb (bY head b) v bt w.heap.size (TL.keep F (fun x hx=>h2.block x (F0 x hx)) h2.size) F0 hn ha hok).mono ?_;rintro e w3 ⟨rfl,h31,h32⟩;exact ⟨rfl,h31,(gW.of_below h2).trans h32⟩
 generalize go (told ++ [bY head b])=gv at *;clear hb F F0 TL hok hs hnm hin hal;have l5:=lt_of_cell h5;have l7:=lt_of_cell h7
 go_enter Tryz.func142,Tryz.ntmps142
 go_wp2
 go_region_law
  (first
   | (go_simp; go_at_call 143; refine HF.out.mono ?_; rintro e w2 ⟨v9,b9,rfl,hb9,ha9,hn9⟩; have HK2:=η ((Below.refl w.heap.size w).drew.trans hb9); replace h5:=cell_later HK2.out h5; have HTC:=η (HTL.out w2 v9 b9 HK2.out ha9 hn9); clear hb9 ha9 hn9)
   | (go_simp; go_at_fn gf; refine HTC.out.mono ?_; rintro e w3 ⟨rfl,h31,h32⟩; have HZ:=η (And.intro h31 h32); clear h31 h32))
 all_goals
  clear h5 h7 h71 HTC HTL HF HK2;go_wp2;go_ret;exact ⟨rfl,HZ.out⟩
def D.KR (sb:Nat) (v1 v2 v3:Value):Array Value:=#[.pointer (some ⟨sb,0,none⟩),v1,v2,v3,.bool false,.bool false,.bool false,.bool false,.bool false,.bool false,.bool false,.bool false,.bool false,.bool false,.bool false,.bool false,.bool false,.int .i64 0,
 .string ⟨#[]⟩,.string ⟨#[]⟩,.string ⟨#[]⟩,.string ⟨#[]⟩,.string ⟨#[]⟩,.string ⟨#[]⟩,.string ⟨#[]⟩,.string ⟨#[]⟩,.string ⟨#[]⟩,.string ⟨#[]⟩,.string ⟨#[]⟩,.string ⟨#[]⟩,
 .int .i64 0,.int .i64 0,.int .i64 0,.int .i64 0,.int .i64 0,.int .i64 0,.int .i64 0,.int .i64 0,.int .i64 0,.int .i64 0,.int .i64 0,.int .i64 0,.int .i64 0,.nilFunc]
theorem D.Wx {w:World} {sk sb:Nat} {v1 v2 v3:Value} {t:TypeId} (vars:List ByteArray) (h:w.heap[sk]? = some (.cells (KR sb v1 v2 v3) t (0,0))):lN sk sb v1 v2 (fun _=>false) false 0 .nilFunc w∧iJ vars [] sk 18 w∧∀ q,w.frozen? ⟨sk,q,none⟩=false:=by
 have c:=fun o=>ak h (o:=o)
 refine ⟨⟨c 0,c 1,c 2,fun i hi=>?_,c 16,c 17,c 43⟩,⟨fun i hi=>?_,fun i hi=>⟨0,?_,fun h=>by simp at h⟩,c 42,fun i _=>aB h⟩,fun q=>aB h⟩
 ·rw [c]
  have:i=0∨i=1∨i=2∨i=3∨i=4∨i=5∨i=6∨i=7∨i=8∨i=9∨i=10∨i=11:=by omega
  rcases this with rfl | rfl | rfl | rfl | rfl | rfl | rfl | rfl | rfl | rfl | rfl | rfl <;> rfl
 ·rw [c]
  have e:Hz vars [] i=⟨#[]⟩:=by unfold Hz; split <;> rfl
  rw [e];have:i=0∨i=1∨i=2∨i=3∨i=4∨i=5∨i=6∨i=7∨i=8∨i=9∨i=10∨i=11:=by omega
  rcases this with rfl | rfl | rfl | rfl | rfl | rfl | rfl | rfl | rfl | rfl | rfl | rfl <;> rfl
 ·rw [c]
  have:i=0∨i=1∨i=2∨i=3∨i=4∨i=5∨i=6∨i=7∨i=8∨i=9∨i=10∨i=11:=by omega
  rcases this with rfl | rfl | rfl | rfl | rfl | rfl | rfl | rfl | rfl | rfl | rfl | rfl <;> rfl
theorem D.lN.tell {sk sb:Nat} {v1 v2:Value} {wt:Nat→Bool} {io:Bool} {ah:Int} {t0:Value} {w:World} (h:lN sk sb v1 v2 wt io ah t0 w) (t1:Value):lN sk sb v1 v2 wt io ah t1 (w.setCell ⟨sk,43,none⟩ t1):=by
 have c:=D.jU w sk 43 t1 h.tl;exact ⟨by rw [c,if_neg (by omega)]; exact h.st,by rw [c,if_neg (by omega)]; exact h.p1,by rw [c,if_neg (by omega)]; exact h.p2,fun i hi=>by rw [c,if_neg (by omega)]; exact h.wd i hi,by rw [c,if_neg (by omega)]; exact h.io,by rw [c,if_neg (by omega)]; exact h.ah,by rw [c,if_pos rfl]⟩
theorem D.iJ.tell {vars:List ByteArray} {b:Bd} {sk:Nat} {t0:Value} {w:World} (h:iJ vars b sk 18 w) (ht:w.cell? ⟨sk,43,none⟩=some t0) (t1:Value):iJ vars b sk 18 (w.setCell ⟨sk,43,none⟩ t1):=by
 have c:=D.jU w sk 43 t1 ht
 exact ⟨fun i hi=>by rw [c,if_neg (by omega)]; exact h.wd i hi,fun i hi=>by
  obtain ⟨z,h1,h2⟩:=h.bd i hi
  exact ⟨z,by rw [c,if_neg (by omega)]; exact h1,h2⟩,by rw [c,if_neg (by omega)]; exact h.ct,fun i hi=>by rw [World.frozen?_setCell]; exact h.fz i hi⟩
structure D.DJ (gf:Nat) (vG:Array Value) (St:Bool→World→List A→List Nat→Prop) (vars:List ByteArray) (head:A) (Ah:Option Addr) (ch:Nat) (bh:List Nat) (sk c5 c7:Nat) (fb:List Nat) (n0:Nat) (f:Bool) (w:World) (told:List A):Prop where
 fnd:∃ fb',St f w told fb'∧(∀ x ∈ fb',x ≠ sk)∧∀ x ∈ fb',x ∈ fb∨n0≤x
 f5:w.heap[c5]? = some (.cells #[.func (.func gf) #[] vG] 134 (0,0))
 f7:w.heap[c7]? = some (.cells #[.string head.name,.slice Ah head.args.length ch] 199 (0,0))
 sl:kP vars w [.slice Ah head.args.length ch] head.args bh
 pX:n0≤w.heap.size
theorem D.DJ.keep {gf:Nat} {vG:Array Value} {K:Nat→Prop} {St:Bool→World→List A→List Nat→Prop} {go:List A→Bool} (TL:WL gf vG K St go) {vars:List ByteArray} {head:A} {Ah:Option Addr} {ch:Nat} {bh:List Nat} {sk c5 c7:Nat} {fb:List Nat} {n0:Nat} {f:Bool} {w w':World} {told:List A} (h:DJ gf vG St vars head Ah ch bh sk c5 c7 fb n0 f w told) (n5:c5 ≠ sk) (n7:c7 ≠ sk) (nb:∀ x ∈ bh,x ≠ sk) (hs:w.heap.size≤w'.heap.size)
  (hk:∀ x,x < w.heap.size→x ≠ sk→w'.heap[x]? = w.heap[x]?):DJ gf vG St vars head Ah ch bh sk c5 c7 fb n0 f w' told:=by
 obtain ⟨fb',g1,g2,g3⟩:=h.fnd;exact ⟨⟨fb',TL.keep g1 (fun x hx=>hk x (TL.lt g1 x hx) (g2 x hx)) hs,g2,g3⟩,(hk _ (lt_of_block h.f5) n5).trans h.f5,(hk _ (lt_of_block h.f7) n7).trans h.f7,(dm vars).keep h.sl fun x hx=>hk x ((dm vars).lt h.sl x hx) (nb x hx),Nat.le_trans h.pX hs⟩
theorem D.Um {gf:Nat} {vG:Array Value} {K:Nat→Prop} {St:Bool→World→List A→List Nat→Prop} {go:List A→Bool} (TL:WL gf vG K St go) {r:Ru} (R:kL r) (hV:jT (aG r.body)) (hin:∀ t ∈ r.head.args,t.var=true→t.name ∈ aG r.body) (hnm:r.head.name.size≤maxLen) {Ah:Option Addr} {ch:Nat} {bh:List Nat} {sk c5 c7:Nat} {fb:List Nat} {n0:Nat} (n5:c5 ≠ sk∧¬ K c5) (n7:c7 ≠ sk∧¬ K c7) (nb:∀ x ∈ bh,x ≠ sk∧¬ K x) (nm:¬ K sk):
  wL (aG r.body) r.head sk (fun k=>k ≠ sk∧¬ K k) ⟨c5,0,none⟩ ⟨c7,0,none⟩ (DJ gf vG St (aG r.body) r.head Ah ch bh sk c5 c7 fb n0) go:=by
 refine ⟨fun w b told hbo hw hc hb hT=>?_,fun {f} w w' told hT hk=>hT.keep TL n5.1 n7.1 (fun x hx=>(nb x hx).1) hk.grow.size fun x hx hne=>hk.block hx hne⟩;obtain ⟨fb',g1,g2,g3⟩:=hT.fnd;refine (KQ (aG r.body) hV b hbo r.head Ah ch bh sk 18 c5 c7 TL told fb' w hb g1 (Qu R hw hc) (ak hT.f5) (ak hT.f7) (ak hT.f7) hT.sl hnm hin (by have:=nR R.hok; omega)).mono ?_;rintro e w2 ⟨rfl,⟨fb2,h1,h2⟩,h3⟩;have hsk:=hb.lt;have hs:=hT.pX
 refine ⟨rfl,⟨⟨fb2,h1,fun x hx=>?_,fun x hx=>?_⟩,(h3.block _ (lt_of_block hT.f5) n5.2).trans hT.f5,(h3.block _ (lt_of_block hT.f7) n7.2).trans hT.f7,(dm _).keep hT.sl fun x hx=>h3.block x ((dm _).lt hT.sl x hx) (nb x hx).2,Nat.le_trans hs h3.size⟩,
  ⟨h3.os,h3.tape,h3.output,h3.size,fun k hk hK=>h3.block k hk hK.2,fun q _=>World.cell?_of_block (h3.block _ hsk nm)⟩,h3.block _ hsk nm⟩
 ·rcases h2 x hx with h | h
  ·exact g2 x h
  ·omega
 ·rcases h2 x hx with h | h
  ·exact g3 x h
  ·exact .inr (Nat.le_trans hs h)
theorem NV (sb:Nat) (fs:List A) (rn:List Nat) (bs:List Nat) (r:Ru) (c0 c1 c2:Value) (br:List Nat) {gf:Nat} {vG:Array Value} {K:Nat→Prop} {St:Bool→World→List A→List Nat→Prop} {go:List A→Bool} (TL:WL gf vG K St go) (told:List A) (fb:List Nat) (w:World) (ST:kE sb fs rn bs w) (hfs:∀ f ∈ fs,aX f) (hfl:fs.length≤1000000) (hr:jK w [c0,c1,c2] r br) (R:kL r)
  (F:St true w told fb) (hmb:∀ x ∈ bs,¬ K x) (hmr:∀ x ∈ br,¬ K x):
  Calls Tryz.prog 108 #[.pointer (some ⟨sb,0,none⟩),.agg #[c0,c1,c2],.func (.func gf) #[] vG] w fun e w'=>e=.returned (.tuple #[])∧
   ∃ ts fb' more,St more w' (told ++ ts) fb'∧(∀ x ∈ fb',x ∈ fb∨w.heap.size≤x)∧gW K w w'∧(∀ t ∈ ts,lg fs r t)∧(more=true→∀ t,lg fs r t→t ∈ ts)∧(more=false→go (told ++ ts)=false):=by
 obtain ⟨Ah0,ch0,Ab,cb,rfl,rfl,rfl⟩:=jo hr;obtain ⟨bh1,bb1,hbr,hhead,hbody⟩:=gu hr;have hV:=OB R;have hA0:Below w.heap.size w ((w.alloc (.cells #[.string r.head.name,.slice Ah0 r.head.args.length ch0,.slice Ab r.body.length cb] 71)).alloc (.cells #[.func (.func gf) #[] vG] 134)):=((Below.refl _ _).alloc (Nat.le_refl _) _).alloc (by simp) _
 have hc5:((w.alloc (.cells #[.string r.head.name,.slice Ah0 r.head.args.length ch0,.slice Ab r.body.length cb] 71)).alloc (.cells #[.func (.func gf) #[] vG] 134)).heap[w.heap.size+1]? = some (.cells #[.func (.func gf) #[] vG] 134 (0,0)):=by
  have:=heap_alloc_new (w.alloc (.cells #[.string r.head.name,.slice Ah0 r.head.args.length ch0,.slice Ab r.body.length cb] 71)) (.cells #[.func (.func gf) #[] vG] 134);simpa using this
 have hc4:((w.alloc (.cells #[.string r.head.name,.slice Ah0 r.head.args.length ch0,.slice Ab r.body.length cb] 71)).alloc (.cells #[.func (.func gf) #[] vG] 134)).heap[w.heap.size]? = some (.cells #[.string r.head.name,.slice Ah0 r.head.args.length ch0,.slice Ab r.body.length cb] 71 (0,0)):=by
  rw [Below.heap_alloc _ _ _ (by simp)];exact heap_alloc_new _ _
 have hq:=J5 r.body (.slice Ab r.body.length cb) bb1 _ (aY.below hbody hA0) (by have:=R.few; omega) (fun p hp=>by have:=nR (R.pok p hp); omega);have HA0:=η hA0;have HC5:=η hc5;have HC4:=η hc4;have HH:=η hhead;have hs0:((w.alloc (.cells #[.string r.head.name,.slice Ah0 r.head.args.length ch0,.slice Ab r.body.length cb] 71)).alloc (.cells #[.func (.func gf) #[] vG] 134)).heap.size=w.heap.size+2:=by simp
 have HS0:=η hs0;clear hr hA0 hc5 hc4 hhead hbody hs0
 go_enter Tryz.func108,Tryz.ntmps108
 go_wp2_with fail
 generalize ((w.alloc (.cells #[.string r.head.name,.slice Ah0 r.head.args.length ch0,.slice Ab r.body.length cb] 71)).alloc (.cells #[.func (.func gf) #[] vG] 134))=W0 at *;refine hq.mono ?_;rintro e w1 ⟨A1,n1,q1,A2,n2,q2,A3,q3,bq,rfl,hb1,hqk,hqn⟩;obtain ⟨v1,v2,v3,b1,b2,b3,he,rfl,hp1,hp2,hp3⟩:=hqk;simp only [List.cons.injEq,and_true] at he;obtain ⟨rfl,rfl,rfl⟩:=he;obtain ⟨_,_,e1,_⟩:=af hp1;obtain ⟨_,_,e2,_⟩:=af hp2;simp only [Value.slice.injEq] at e1 e2;obtain ⟨-,rfl,-⟩:=e1;obtain ⟨-,rfl,-⟩:=e2;have hA1:Below w1.heap.size w1 (w1.alloc (.cells #[.slice A1 (gZ r.body).length q1,.slice A2 (dX r.body).length q2,.slice A3 (aG r.body).length q3] 195)):=(Below.refl _ _).alloc (Nat.le_refl _) _;have HB1:=η (hb1.trans (hA1.mono hb1.size))
 have hpt:=zO (aG r.body) r.head A1 A2 (gZ r.body).length q1 (dX r.body).length q2 (.slice A3 (aG r.body).length q3) (.string r.head.name) (.slice Ah0 r.head.args.length ch0) b3 bh1 _ (cZ.below hp3 hA1) (yt r.body) (by have:=hV.few; omega) (aj.QY HH.out (HA0.out.trans (HB1.out.mono HA0.out.size)) (fun b hb=>aj.lt HH.out b hb)) (Ho (fs:=[]) R (by simp) (by simp) (wt:=fun i=>Ky (aG r.body) r.head (dX r.body) i) (fun _ _=>rfl)).hin (by have:=nR R.hok; omega);have x4:W0.cell? ⟨w.heap.size,0,none⟩=some (.string r.head.name):=ak HC4.out;have x5:W0.cell? ⟨w.heap.size,1,none⟩=some (.slice Ah0 r.head.args.length ch0):=ak HC4.out;have u4:(w1.alloc (.cells #[.slice A1 (gZ r.body).length q1,.slice A2 (dX r.body).length q2,.slice A3 (aG r.body).length q3] 195)).cell? ⟨w.heap.size,0,none⟩=some (.string r.head.name):=cell_later HB1.out x4
 have u5:(w1.alloc (.cells #[.slice A1 (gZ r.body).length q1,.slice A2 (dX r.body).length q2,.slice A3 (aG r.body).length q3] 195)).cell? ⟨w.heap.size,1,none⟩=some (.slice Ah0 r.head.args.length ch0):=cell_later HB1.out x5;have HQ1:=η (And.intro hp1 (And.intro hp2 (And.intro hb1 hqn)));have HQB:Hid ((w1.alloc (.cells #[.slice A1 (gZ r.body).length q1,.slice A2 (dX r.body).length q2,.slice A3 (aG r.body).length q3] 195)).heap[w1.heap.size]? = some (.cells #[.slice A1 (gZ r.body).length q1,.slice A2 (dX r.body).length q2,.slice A3 (aG r.body).length q3] 195 (0,0))∧W0.heap.size≤w1.heap.size):=η ⟨heap_alloc_new _ _,hb1.size⟩;clear hq hb1 hqn hp1 hp2 hp3 hA1
 go_wp2_with fail
 refine hpt.mono ?_;rintro e w2 ⟨vp,bh,rfl,hb2,hnm,hsl,hsn⟩;obtain ⟨Ah,ch,rfl,_⟩:=af hsl;have hA2:Below w2.heap.size w2 (w2.alloc (.cells #[.string r.head.name,.slice Ah r.head.args.length ch] 199)):=(Below.refl _ _).alloc (Nat.le_refl _) _;have HB2:=η (hb2.trans (hA2.mono hb2.size));have hqb:=(hb2.block _ (lt_of_block HQB.out.1)).trans HQB.out.1;have u0:w2.cell? ⟨w1.heap.size,0,none⟩=some (.slice A1 (gZ r.body).length q1):=ak hqb;have u1:w2.cell? ⟨w1.heap.size,1,none⟩=some (.slice A2 (dX r.body).length q2):=ak hqb;have u2:w2.cell? ⟨w1.heap.size,2,none⟩=some (.slice A3 (aG r.body).length q3):=ak hqb;have u3:w1.heap.size < w2.heap.size:=lt_of_block hqb;have HQ2:=η (And.intro hnm (And.intro hsl hsn))
 have HQP:Hid (∀ x,x < (w1.alloc (.cells #[.slice A1 (gZ r.body).length q1,.slice A2 (dX r.body).length q2,.slice A3 (aG r.body).length q3] 195)).heap.size→w2.heap[x]? = (w1.alloc (.cells #[.slice A1 (gZ r.body).length q1,.slice A2 (dX r.body).length q2,.slice A3 (aG r.body).length q3] 195)).heap[x]?):=η fun x hx=>hb2.block x hx
 have HB2P:=η hb2
 have HB2N:Hid (∀ x ∈ b2,x ≠ w2.heap.size+1):=η fun x hx=>by
  have h1:=(dS (aG r.body)).lt HQ1.out.2.1 x hx;have h2:=hb2.size;simp at h2;omega
 clear hpt hb2 hnm hsl hsn hA2 u4 u5 x4 x5 hqb;have hE:=Ho R hfs hfl (wt:=fun i=>Ky (aG r.body) r.head (dX r.body) i) (fun _ _=>rfl)
 have hWS:((w2.alloc (.cells #[.string r.head.name,.slice Ah r.head.args.length ch] 199)).alloc (.cells (KR sb (.slice A1 (gZ r.body).length q1) (.slice A2 (dX r.body).length q2) (.slice A3 (aG r.body).length q3)) 209)).heap[w2.heap.size+1]? = some (.cells (KR sb (.slice A1 (gZ r.body).length q1) (.slice A2 (dX r.body).length q2) (.slice A3 (aG r.body).length q3)) 209 (0,0)):=by
  have:=heap_alloc_new (w2.alloc (.cells #[.string r.head.name,.slice Ah r.head.args.length ch] 199)) (.cells (KR sb (.slice A1 (gZ r.body).length q1) (.slice A2 (dX r.body).length q2) (.slice A3 (aG r.body).length q3)) 209);simpa using this
 obtain ⟨hsea,hbd,hfz⟩:=Wx (aG r.body) hWS;have hBS:Below w2.heap.size w2 ((w2.alloc (.cells #[.string r.head.name,.slice Ah r.head.args.length ch] 199)).alloc (.cells (KR sb (.slice A1 (gZ r.body).length q1) (.slice A2 (dX r.body).length q2) (.slice A3 (aG r.body).length q3)) 209)):=((Below.refl _ _).alloc (Nat.le_refl _) _).alloc (by simp) _
 have hc7:((w2.alloc (.cells #[.string r.head.name,.slice Ah r.head.args.length ch] 199)).alloc (.cells (KR sb (.slice A1 (gZ r.body).length q1) (.slice A2 (dX r.body).length q2) (.slice A3 (aG r.body).length q3)) 209)).heap[w2.heap.size]? = some (.cells #[.string r.head.name,.slice Ah r.head.args.length ch] 199 (0,0)):=by
  rw [Below.heap_alloc _ _ _ (by simp)];exact heap_alloc_new _ _
 have hslb:=(dm (aG r.body)).lt HQ2.out.2.1;have hw0:=Ko (aG r.body) hV r.head Ah ch bh (w2.heap.size+1) sb _ _ _ false 0 .nilFunc _ hsea hfz ((dm _).below HQ2.out.2.1 hBS) hE.hin (fun hm=>by have:=hslb _ hm; omega) (by have:=nR R.hok; omega);have HSS:Hid (((w2.alloc (.cells #[.string r.head.name,.slice Ah r.head.args.length ch] 199)).alloc (.cells (KR sb (.slice A1 (gZ r.body).length q1) (.slice A2 (dX r.body).length q2) (.slice A3 (aG r.body).length q3)) 209)).heap.size=w2.heap.size+2):=η (by simp);have HWS:=η (And.intro hbd (And.intro hfz (And.intro hBS hc7)));have HSL:=η hslb;clear hsea hbd hfz hBS hc7 hWS hslb
 go_wp2_with fail
 refine hw0.mono ?_;rintro e w3 ⟨rfl,hsv3,hwk3⟩;generalize ((w2.alloc (.cells #[.string r.head.name,.slice Ah r.head.args.length ch] 199)).alloc (.cells (KR sb (.slice A1 (gZ r.body).length q1) (.slice A2 (dX r.body).length q2) (.slice A3 (aG r.body).length q3)) 209))=WS at *;have z1:=HB1.out.size;have z2:=HB2.out.size;have z3:=HQB.out.2;have z4:=HSS.out;have z5:=HS0.out;simp at z1 z2;have HZ:Hid (w.heap.size+2≤w1.heap.size∧w1.heap.size < w2.heap.size∧WS.heap.size=w2.heap.size+2):=η ⟨by omega,u3,z4⟩;have hqb3:w2.cell? ⟨w1.heap.size,1,none⟩=some (.slice A2 (dX r.body).length q2):=u1
 have HQN:Hid (∀ wr:World,iL (w2.heap.size+1) WS wr→wr.cell? ⟨w1.heap.size,1,none⟩=some (.slice A2 (dX r.body).length q2)∧tC (aG r.body) wr [.slice A2 (dX r.body).length q2] (dX r.body) b2):=η fun wr hk=>by
  have kp:∀ x,x < w2.heap.size→wr.heap[x]? = w2.heap[x]?:=fun x hx=>(hk.grow.block x (by rw [z4]; omega) (fun e=>by injection e with e; omega)).trans (HWS.out.2.2.1.block x hx)
  have hp:=(dS (aG r.body)).below HQ1.out.2.1 ((Below.refl w1.heap.size w1).alloc (Nat.le_refl _) (.cells #[.slice A1 (gZ r.body).length q1,.slice A2 (dX r.body).length q2,.slice A3 (aG r.body).length q3] 195));have hp2:=(dS (aG r.body)).keep (w':=w2) hp fun x hx=>HQP.out x ((dS (aG r.body)).lt hp x hx)
  exact ⟨(World.cell?_of_block (kp _ u3)).trans hqb3,(dS (aG r.body)).keep hp2 fun x hx=>kp x ((dS (aG r.body)).lt hp2 x hx)⟩
 have y1:=(HQN.out w3 hwk3).1;have hni:∀ n ∈ dX r.body,∀ t ∈ n.args,t.var=true→t.name ∈ aG r.body:=hE.nin;have hno:∀ n ∈ dX r.body,aZ n=true:=hE.nok;have HNN:=η (And.intro hni hno)
 have HI0:Hid (lN (w2.heap.size+1) sb (.slice A1 (gZ r.body).length q1) (.slice A2 (dX r.body).length q2) (fun i=>gG (aG r.body) r.head.args i || ((dX r.body).take 0).any fun n=>gG (aG r.body) n.args i) false 0 .nilFunc w3∧iL (w2.heap.size+1) WS w3):=η ⟨by
  have e:(fun i=>gG (aG r.body) r.head.args i || ((dX r.body).take 0).any fun n=>gG (aG r.body) n.args i)=fun i=>false || gG (aG r.body) r.head.args i:=funext fun i=>by simp
  rw [e]; exact hsv3,hwk3⟩
 have hnl:(dX r.body).length≤1000000:=hE.nl;clear hw0 hsv3 hwk3 u0 u1 u2 hqb3 hni hno;go_wp2
 go_loopw [28] (fun i wr=>∃ (k:Nat),k≤(dX r.body).length∧i=.int .i64 k∧lN (w2.heap.size+1) sb (.slice A1 (gZ r.body).length q1) (.slice A2 (dX r.body).length q2) (fun i=>gG (aG r.body) r.head.args i || ((dX r.body).take k).any fun n=>gG (aG r.body) n.args i) false 0 .nilFunc wr∧iL (w2.heap.size+1) WS wr) (fun i _=>(dX r.body).length - (intOf i).toNat)
 case atStart=>exact ⟨0,Nat.zero_le _,rfl,HI0.out⟩
 case round=>
  obtain ⟨k,hk,rfl,hI,hK⟩:=hrel;clear HI0 y1;by_cases hlt:k < (dX r.body).length
  ·obtain ⟨bq,oq,An,cn,bk,rfl,hbq,f0,f1,⟨vv,hvv,hnm,hsl⟩,hsub⟩:=xQ (HQN.out wr hK).2 hlt
   simp only [List.cons.injEq,and_true,true_and] at hvv;subst hvv;have hk0:(0:Int)≤(k:Int):=by omega
   have hk1:(k:Int) < ((dX r.body).length:Int):=by omega
   have hA9:Below wr.heap.size wr (wr.alloc (.cells #[.string (dX r.body)[k].name,.slice An (dX r.body)[k].args.length cn] 199)):=(Below.refl _ _).alloc (Nat.le_refl _) _;have hcall:=Ko (aG r.body) hV (dX r.body)[k] An cn bk (w2.heap.size+1) sb _ _ _ false 0 .nilFunc (wr.alloc (.cells #[.string (dX r.body)[k].name,.slice An (dX r.body)[k].args.length cn] 199)) (hI.keep (hA9.block _ hI.lt)) (fun q=>(World.frozen?_of_block (hA9.block _ hI.lt)).trans ((hK.frz q).trans (HWS.out.2.1 q))) ((dm _).below hsl hA9) (HNN.out.1 _ (List.getElem_mem hlt)) (fun hm=>HB2N.out _ (hsub _ hm) rfl) (by have:=nR (HNN.out.2 _ (List.getElem_mem hlt)); omega);have HKA:=η (hK.trans (iL.of_below hA9 hI.lt))
   have HWE:Hid (∀ i,(gG (aG r.body) r.head.args i || ((dX r.body).take (k+1)).any fun n=>gG (aG r.body) n.args i)=((gG (aG r.body) r.head.args i || ((dX r.body).take k).any fun n=>gG (aG r.body) n.args i) || gG (aG r.body) (dX r.body)[k].args i)):=η fun i=>by
    rw [List.take_succ_eq_append_getElem hlt,List.any_append]; simp [Bool.or_assoc]
   have HLT:=η hlt;clear hI hK hA9 hnm hsl hsub hk hbq;generalize (dX r.body)[k]=n at *;obtain ⟨nn,nargs⟩:=n;dsimp only at *;clear hlt
   go_wp2_with fail
   refine hcall.mono ?_;rintro e w4 ⟨rfl,h41,h42⟩
   have HI4:Hid (lN (w2.heap.size+1) sb (.slice A1 (gZ r.body).length q1) (.slice (some ⟨bq,oq,none⟩) (dX r.body).length q2) (fun i=>gG (aG r.body) r.head.args i || ((dX r.body).take (k+1)).any fun n=>gG (aG r.body) n.args i) false 0 .nilFunc w4∧iL (w2.heap.size+1) WS w4):=η ⟨by
    rw [funext HWE.out]; exact h41,HKA.out.trans h42⟩
   clear hcall h41 h42 HKA HWE;go_wp2;go_roundw
   case rel=>exact ⟨k+1,HLT.out,by go_num,HI4.out⟩
   case measure=>have:=HLT.out; simp [intOf]; omega
  ·have he:k=(dX r.body).length:=by omega
   have hk1:¬ (k:Int) < ((dX r.body).length:Int):=by omega
   rw [List.take_of_length_le (Nat.le_of_eq he.symm)] at hI;have hz:=HZ.out;have hwr:=hK.grow.size;have x43:=hI.tl;have f43:wr.frozen? ⟨w2.heap.size+1,43,none⟩=false:=(hK.frz 43).trans (HWS.out.2.1 43);have hbel:Below w.heap.size w WS:=HA0.out.trans ((HB1.out.mono HA0.out.size).trans ((HB2P.out.mono (Nat.le_trans HA0.out.size HB1.out.size)).trans (HWS.out.2.2.1.mono (by omega))));have HBEL:=η hbel
   have kpW:∀ x,x < w2.heap.size+1→(wr.setCell ⟨w2.heap.size+1,43,none⟩ (.func (.func 142) #[] #[.pointer (some ⟨w.heap.size+1,0,none⟩),.pointer (some ⟨w2.heap.size,0,none⟩)])).heap[x]? = WS.heap[x]?:=fun x hx=>
    (Below.heap_setCell _ _ _ _ (by show x ≠ w2.heap.size+1; omega)).trans (hK.grow.block x (by omega) (fun e=>by injection e with e; omega))
   have kp2:∀ x,x < w2.heap.size→WS.heap[x]? = w2.heap[x]?:=fun x hx=>HWS.out.2.2.1.block x hx
   have kp1:∀ x,x < w1.heap.size→w2.heap[x]? = w1.heap[x]?:=fun x hx=>(HB2P.out.block x (by simp; omega)).trans (Below.heap_alloc _ _ _ hx)
   have S5:qw (aG r.body) fs rn bs (gZ r.body) (dX r.body) (w2.heap.size+1) sb (.slice A1 (gZ r.body).length q1) (.slice A2 (dX r.body).length q2) b1 b2 (fun i=>gG (aG r.body) r.head.args i || (dX r.body).any fun n=>gG (aG r.body) n.args i) 0
     (.func (.func 142) #[] #[.pointer (some ⟨w.heap.size+1,0,none⟩),.pointer (some ⟨w2.heap.size,0,none⟩)]) (fun k=>k ≠ w2.heap.size+1∧¬ K k) []
     (wr.setCell ⟨w2.heap.size+1,43,none⟩ (.func (.func 142) #[] #[.pointer (some ⟨w.heap.size+1,0,none⟩),.pointer (some ⟨w2.heap.size,0,none⟩)])):=by
    refine ⟨hI.tell _,(HWS.out.1.wt hK).tell x43 _,jJ.nil _,fun p hp=>by simp at hp,ST.keep (fun x hx=>?_) ?_,(dS _).keep HQ1.out.1 fun x hx=>?_,(dS _).keep HQ1.out.2.1 fun x hx=>?_,fun x hx=>⟨?_,hmb x hx⟩,fun x hx=>?_,fun x hx=>?_⟩
    ·have:=ST.lt x hx
     exact (kpW x (by omega)).trans (hbel.block x this)
    ·simp [World.setCell]; omega
    ·have:=(dS (aG r.body)).lt HQ1.out.1 x hx
     exact (kpW x (by omega)).trans ((kp2 x (by omega)).trans (kp1 x this))
    ·have:=(dS (aG r.body)).lt HQ1.out.2.1 x hx
     exact (kpW x (by omega)).trans ((kp2 x (by omega)).trans (kp1 x this))
    ·have:=ST.lt x hx; omega
    ·have h1:=(dS (aG r.body)).lt HQ1.out.1 x hx
     have h2:=HQ1.out.2.2.2 x (by simp [hx]);have h4:=HS0.out;exact ⟨by omega,fun hK=>by have:=TL.lt F x (TL.mine F x hK); omega⟩
    ·have h1:=(dS (aG r.body)).lt HQ1.out.2.1 x hx
     have h2:=HQ1.out.2.2.2 x (by simp [hx]);have h4:=HS0.out;exact ⟨by omega,fun hK=>by have:=TL.lt F x (TL.mine F x hK); omega⟩
   have hKlt:∀ x,K x→x < w.heap.size:=fun x hx=>TL.lt F x (TL.mine F x hx)
   have hslb:=HSL.out
   have hT5:DJ gf vG St (aG r.body) r.head Ah ch bh (w2.heap.size+1) (w.heap.size+1) w2.heap.size fb w.heap.size true (wr.setCell ⟨w2.heap.size+1,43,none⟩ (.func (.func 142) #[] #[.pointer (some ⟨w.heap.size+1,0,none⟩),.pointer (some ⟨w2.heap.size,0,none⟩)])) told:=by
    refine ⟨⟨fb,TL.keep F (fun x hx=>?_) ?_,fun x hx=>?_,fun x hx=>.inl hx⟩,?_,?_,(dm _).keep HQ2.out.2.1 fun x hx=>?_,?_⟩
    ·have:=TL.lt F x hx
     exact (kpW x (by omega)).trans (hbel.block x this)
    ·simp [World.setCell]; omega
    ·have:=TL.lt F x hx; omega
    ·have h4:=HS0.out
     have h9:=HB1.out.block (w.heap.size+1) (by omega);rw [Below.heap_alloc _ _ _ (by omega)] at h9;exact (kpW _ (by omega)).trans ((kp2 _ (by omega)).trans ((kp1 _ (by omega)).trans (h9.trans HC5.out)))
    ·exact (kpW _ (by omega)).trans HWS.out.2.2.2
    ·have:=hslb x hx
     exact (kpW x (by omega)).trans (kp2 x this)
    ·simp [World.setCell]; omega
   have hbn:∀ x ∈ bh,x ≠ w2.heap.size+1∧¬ K x:=fun x hx=>by
    have h1:=hslb x hx;have h2:=(HQ2.out.2.2.own x hx).1;simp at h2;exact ⟨by omega,fun hK=>by have:=hKlt x hK; omega⟩
   have hall:=Eh (aG r.body) fs rn bs (gZ r.body) (dX r.body) r.head (w2.heap.size+1) sb A1 q1 A2 q2 b1 b2 (fun i=>gG (aG r.body) r.head.args i || (dX r.body).any fun n=>gG (aG r.body) n.args i) 0 ⟨w.heap.size+1,0,none⟩ ⟨w2.heap.size,0,none⟩ (fun k=>k ≠ w2.heap.size+1∧¬ K k)
    (DJ gf vG St (aG r.body) r.head Ah ch bh (w2.heap.size+1) (w.heap.size+1) w2.heap.size fb w.heap.size) go (Ho R hfs hfl fun i _=>rfl) (fun k hk=>hk.1)
    (Um TL R hV hE.hin HQ2.out.1 ⟨by omega,fun hK=>by have:=hKlt _ hK; omega⟩ ⟨by omega,fun hK=>by have:=hKlt _ hK; omega⟩ hbn (fun hK=>by have:=hKlt _ hK; omega)) told _ S5 hT5
   have HFIN:Hid (∀ w9 held more,jc (aG r.body) fs (gZ r.body) (dX r.body) r.head (fun k=>k ≠ w2.heap.size+1∧¬ K k) (w2.heap.size+1) (DJ gf vG St (aG r.body) r.head Ah ch bh (w2.heap.size+1) (w.heap.size+1) w2.heap.size fb w.heap.size) go [] (2 ^ (gZ r.body).length - 1) told held more
     (wr.setCell ⟨w2.heap.size+1,43,none⟩ (.func (.func 142) #[] #[.pointer (some ⟨w.heap.size+1,0,none⟩),.pointer (some ⟨w2.heap.size,0,none⟩)])) w9→
     ∃ ts fb' more,St more w9 (told ++ ts) fb'∧(∀ x ∈ fb',x ∈ fb∨w.heap.size≤x)∧gW K w w9∧(∀ t ∈ ts,lg fs r t)∧(more=true→∀ t,lg fs r t→t ∈ ts)∧(more=false→go (told ++ ts)=false)):=η fun w9 held more hP=>by
    obtain ⟨ts,p1,_,p3,p4,p5,_,p7⟩:=hP;obtain ⟨fb',g1,g2,g3⟩:=p3.fnd;have hsz:w.heap.size≤wr.heap.size:=by omega
    exact ⟨ts,fb',more,g1,g3,⟨p1.os.trans (hK.grow.os.trans hbel.os),p1.tape.trans (hK.grow.tape.trans hbel.tape),p1.output.trans (hK.grow.output.trans hbel.output),Nat.le_trans hsz (Nat.le_trans (by simp [World.setCell]) p1.size),
     fun x hx hne=>(p1.block x (by simp [World.setCell]; omega) ⟨by omega,hne⟩).trans ((kpW x (by omega)).trans (hbel.block x hx))⟩,QA p4,fun h t=>(TW R p4 (p5 h) t).2,p7⟩
   have hskz:w2.heap.size+1 < wr.heap.size:=by omega
   clear S5 hT5 hbn hI hK hbel kpW kp2 kp1 hslb hE
   go_wp2_with fail
   refine hall.mono ?_;rintro e w9 ⟨rfl,held,more,hP⟩;have HD:=η (HFIN.out w9 held more hP);clear hall hP HFIN;go_wp2
   go_end0
   exact ⟨rfl,HD.out⟩
end Go.Proofs.YtiidmgchadagbaaGreatDoor
