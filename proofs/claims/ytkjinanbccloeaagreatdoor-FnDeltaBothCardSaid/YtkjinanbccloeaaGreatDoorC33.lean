/- Of the proof of FnDeltaBoth: RndP, SetQ, FolG, AllQ. -/
import Derived.Test.YtkjinanbccloeaaGreatDoorC32
set_option linter.unusedVariables false
set_option maxHeartbeats 4000000
set_option maxRecDepth 100000
namespace Go.Proofs.YtkjinanbccloeaaGreatDoor
section
open Go.RowKit D
open Classical in
noncomputable def D.newL (fs told:List A):List A:=told.foldl (fun acc a=>if a ∈ fs∨a ∈ acc then acc else acc ++ [a]) []
open Classical in
theorem D.Bq (fs told:List A) (a:A):newL fs (told ++ [a])=if a ∈ fs∨a ∈ newL fs told then newL fs told else newL fs told ++ [a]:=by
 unfold newL; rw [List.foldl_append]; rfl
theorem D.VZ {α:Type} {P:List α→Prop} (h0:P []) (h1:∀ l a,P l→P (l ++ [a])) (l:List α):P l:=by
 have:∀ n (l:List α),l.length=n→P l:=by
  intro n
  induction n with
  | zero=>intro l h; rw [List.length_eq_zero_iff.1 h]; exact h0
  | succ n ih=>
   intro l h;have y:l ≠ []:=by intro e; rw [e] at h; simp at h
   rw [← List.dropLast_concat_getLast y];exact h1 _ _ (ih _ (by simp [h]))
 exact this _ l rfl
theorem D.qZ (fs told:List A):(newL fs told).Nodup∧∀ t,t ∈ newL fs told ↔ t ∈ told∧t ∉ fs:=by
 refine VZ (P:=fun told=>(newL fs told).Nodup∧∀ t,t ∈ newL fs told ↔ t ∈ told∧t ∉ fs) ⟨by simp [newL],fun t=>by simp [newL]⟩ (fun told a ⟨h1,U⟩=>?_) told;rw [Bq]
 split
 ·rename_i h
  refine ⟨h1,fun t=>?_⟩;rw [U,μ,ώ];constructor
  ·exact fun ⟨J,I⟩=>⟨.inl J,I⟩
  ·rintro ⟨J | rfl,I⟩
   ·exact ⟨J,I⟩
   ·rcases h with h | h
    ·exact absurd h I
    ·exact (U t).1 h
 ·rename_i h
  have ha:a ∉ fs∧a ∉ newL fs told:=⟨fun e=>h (.inl e),fun e=>h (.inr e)⟩;refine ⟨List.nodup_append.2 ⟨h1,by simp,fun x hx y hy e=>?_⟩,fun t=>?_⟩
  ·simp at hy
   exact ha.2 (by rw [← hy,← e]; exact hx)
  ·rw [μ,ώ,μ,ώ,U]
   constructor
   ·rintro (⟨J,I⟩ | rfl)
    ·exact ⟨.inl J,I⟩
    ·exact ⟨.inr rfl,ha.1⟩
   ·rintro ⟨J | rfl,I⟩
    ·exact .inl ⟨J,I⟩
    ·exact .inr rfl
open Classical in
noncomputable def D.V3 (fs L:List A):Bool:=decide ((∃ told a,L=told ++ [a]∧(a ∈ fs∨a ∈ newL fs told))∨fs.length+(newL fs L).length≤300)
open Classical in
theorem D.NU (fs told:List A) (a:A):V3 fs (told ++ [a])=decide (a ∈ fs∨a ∈ newL fs told∨fs.length+(newL fs (told ++ [a])).length≤300):=by
 unfold V3;apply decide_eq_decide.2;refine ⟨?_,?_⟩
 ·rintro (⟨t,b,e,h⟩ | h)
  ·have:=List.append_inj' e rfl
   obtain ⟨rfl,y⟩:=this;simp at y;subst y;exact h.imp id .inl
  ·exact .inr (.inr h)
 ·rintro (h | h | h)
  ·exact .inl ⟨told,a,rfl,.inl h⟩
  ·exact .inl ⟨told,a,rfl,.inr h⟩
  ·exact .inr h
open Classical in
theorem D.Td {fs L:List A} (h:V3 fs L=false):300 < fs.length+(newL fs L).length:=by
 unfold V3 at h;have:=of_decide_eq_false h;have y:¬ fs.length+(newL fs L).length≤300:=fun e=>this (.inr e)
 omega
structure D.XP (fs:List A) (rn:List Nat) (r:Rd):Prop where
 len:rn.length=fs.length
 perm:(fs.zip rn).Perm (r.1.zip r.2)
theorem D.zip_fst {α β:Type}:∀ {l:List α} {m:List β},l.length≤m.length→(l.zip m).map (·.1)=l
 | [],m,_=>by simp
 | a :: l,[],h=>by simp at h
 | a :: l,b :: m,h=>by simp only [List.zip_cons_cons,List.map_cons]; rw [zip_fst (by simpa using h)]
theorem D.XP.fst {fs:List A} {rn:List Nat} {r:Rd} (h:XP fs rn r) (hr:qG r):fs.Perm r.1:=by
 have:=h.perm.map (·.1)
 rwa [zip_fst (Nat.le_of_eq h.len.symm),zip_fst (Nat.le_of_eq hr.len.symm)] at this
theorem D.Tf {r:Rd} (hr:qG r) (a:A) (n:Nat):hasB r.1 a=false→((iM r a n).1.zip (iM r a n).2).Perm ((a,n) :: r.1.zip r.2):=by
 intro h
 have e:iM r a n=(r.1.take (pl r.1 a) ++ a :: r.1.drop (pl r.1 a),r.2.take (pl r.1 a) ++ [n] ++ r.2.drop (pl r.1 a)):=by
  unfold iM fD;rw [h];rfl
 rw [e];have J:=(qJ hr.gB a).2.2;have U:=hr.len
 have y:(r.1.take (pl r.1 a) ++ a :: r.1.drop (pl r.1 a)).zip (r.2.take (pl r.1 a) ++ [n] ++ r.2.drop (pl r.1 a))=(r.1.take (pl r.1 a)).zip (r.2.take (pl r.1 a)) ++ (a,n) :: (r.1.drop (pl r.1 a)).zip (r.2.drop (pl r.1 a)):=by
  rw [List.append_assoc,List.zip_append (by simp; omega)];rfl
 have I:r.1.zip r.2=(r.1.take (pl r.1 a)).zip (r.2.take (pl r.1 a)) ++ (r.1.drop (pl r.1 a)).zip (r.2.drop (pl r.1 a)):=by
  rw [← List.zip_append (by simp; omega),List.take_append_drop,List.take_append_drop]
 show List.Perm (List.zip _ _) _;rw [y,I];exact List.perm_middle
open Classical in
theorem D.PU {r:Rd} (hr:qG r) (hf:∀ x ∈ r.1,bG x) (n:Nat):∀ more:List A,(∀ x ∈ more,bG x)→more.Nodup→
  ((jB more n r).1.zip (jB more n r).2).Perm (r.1.zip r.2 ++ (more.filter fun a=>decide (a ∉ r.1)).map fun a=>(a,n)):=by
 intro more
 induction more generalizing r with
 | nil=>intro _ _; simp [jB]
 | cons a more ih=>
  intro hm hn;have ha:=hm a Γ;have y:=List.nodup_cons.1 hn;have h1:∀ x,x ∈ (iM r a n).1 ↔ x ∈ r.1∨x=a:=fun x=>by rw [vW]; exact zH hf ha x
  have J:=ih (r:=iM r a n) (hr.put a n) (fun x I=>((h1 x).1 I).elim (hf x) fun e=>e ▸ ha) (fun x I=>hm x (Δ _ I)) y.2;have U:jB (a :: more) n r=jB more n (iM r a n):=rfl;rw [U]
  have e1:more.filter (fun b=>decide (b ∉ (iM r a n).1))=more.filter fun b=>decide (b ∉ r.1):=by
   refine List.filter_congr fun b hb=>decide_eq_decide.2 ?_
   rw [h1];constructor
   ·exact fun h e=>h (.inl e)
   ·rintro h (e | rfl)
    ·exact h e
    ·exact y.1 hb
  rw [e1] at J;refine J.trans ?_;by_cases hc:a ∈ r.1
  ·have e2:iM r a n=r:=by
    unfold iM;rw [if_pos (jR hc)]
   rw [e2,List.filter_cons_of_neg (by simpa using hc)]
  ·have hb:hasB r.1 a=false:=by
    cases hh:hasB r.1 a
    ·rfl
    ·exact absurd ((rZ (fun x I=>(hf x I).gr) ha.gr).1 hh) hc
   rw [List.filter_cons_of_pos (by simpa using hc),List.map_cons];exact ((Tf hr a n hb).append_right _).trans List.perm_middle.symm
def D.OwnAt (rs:List Ru) (level:Nat) (own:List Ru):Prop:=∀ r,r ∈ own ↔ r ∈ rs∧ja rs r.head.name=level
theorem D.IX {rs:List Ru} (h:x9 rs) {r:Rd} (hr:qG r) (hf:∀ x ∈ r.1,bG x) {fs:List A} {rn:List Nat} (hs:XP fs rn r) {level n:Nat} {next:List Ru} {new:List A} (J:∀ q ∈ next,q ∈ rs∧ja rs q.head.name=level)
  (U:∀ q ∈ rs,ja rs q.head.name=level→q ∉ next→∀ t,lU fs q t→t ∈ fs) (hn:new.Nodup) (a1:∀ t,t ∈ new ↔ t ∉ fs∧∃ q ∈ next,lU fs q t):
  XP (fs ++ new) (rn ++ List.replicate new.length n) (gq rs (aA rs) level r n)∧(gq rs (aA rs) level r n).1.length=fs.length+new.length:=by
 classical
 have a2:=hs.fst hr;have y:∀ x,x ∈ fs ↔ x ∈ r.1:=fun x=>a2.mem_iff
 obtain ⟨k1,k2,k3⟩:=QA h hf level;have hz:=PU hr hf n _ k2 (jV k1)
 have hp:((jo r.1 level (rs.zip (aA rs))).filter fun a=>decide (a ∉ r.1)).Perm new:=by
  refine (List.perm_ext_iff_of_nodup ((jV k1).filter _) hn).2 fun t=>?_
  rw [List.mem_filter,k3,a1,decide_eq_true_iff,← y];constructor
  ·rintro ⟨⟨q,hq,hl,a0⟩,h2⟩
   have a3:lU fs q t:=(sU fun x _=>y x).2 a0;refine ⟨h2,q,?_,a3⟩;by_cases a4:q ∈ next
   ·exact a4
   ·exact absurd (U q hq hl a4 t a3) h2
  ·rintro ⟨h2,q,hq,a0⟩
   exact ⟨⟨q,(J q hq).1,(J q hq).2,(sU fun x _=>y x).1 a0⟩,h2⟩
 have I:((fs ++ new).zip (rn ++ List.replicate new.length n)).Perm ((gq rs (aA rs) level r n).1.zip (gq rs (aA rs) level r n).2):=by
  rw [List.zip_append hs.len.symm]
  have e:new.zip (List.replicate new.length n)=new.map fun a=>(a,n):=by
   apply List.ext_getElem
   ·simp
   ·intro i h1 h2
    simp
  rw [e];exact ((hs.perm.append (hp.symm.map _))).trans hz.symm
 have a5:=(oW hr n (jo r.1 level (rs.zip (aA rs)))).1;refine ⟨⟨by simp [hs.len],I⟩,?_⟩;have hl:=I.length_eq;have a6:(gq rs (aA rs) level r n).2.length=(gq rs (aA rs) level r n).1.length:=a5.len;simp only [List.length_zip,χ,List.length_replicate,hs.len,a6,Nat.min_self] at hl;omega
theorem D.V4 {rs:List Ru} (h:x9 rs) {r:Rd} (hr:qG r) (hf:∀ x ∈ r.1,bG x) {fs:List A} {rn:List Nat} (hs:XP fs rn r) {level n:Nat} {next:List Ru} {new:List A} (I:∀ q ∈ next,q ∈ rs∧ja rs q.head.name=level)
  (hn:new.Nodup) (J:∀ t ∈ new,t ∉ fs∧∃ q ∈ next,lU fs q t) (hm:300 < fs.length+new.length):300 < (gq rs (aA rs) level r n).1.length:=by
 classical
 have U:=hs.fst hr;have a0:∀ x,x ∈ fs ↔ x ∈ r.1:=fun x=>U.mem_iff
 have h1:=(mD h hf level n).2;have a1:(r.1 ++ new).Nodup:=List.nodup_append.2 ⟨jV hr.gB,hn,fun x hx y hy e=>(J y hy).1 ((a0 y).2 (e ▸ hx))⟩
 have h2:=oP a1 (l2:=(gq rs (aA rs) level r n).1) fun x hx=>by
  rcases μ.1 hx with hx | hx
  ·exact (h1 x).2 (.inl hx)
  ·obtain ⟨_,q,hq,a2⟩:=J x hx
   exact (h1 x).2 (.inr ⟨q,(I q hq).1,(I q hq).2,(sU fun x _=>a0 x).1 a2⟩)
 rw [χ,← U.length_eq] at h2;omega
theorem D.NV {fs new:List A} {q:Ru} (h:∀ p ∈ q.body,p.no=false→∀ t ∈ new,t.name ≠ p.atom.name) {t:A} (hf:lU (fs ++ new) q t):lU fs q t:=by
 obtain ⟨σ,rfl,h1,I⟩:=hf;refine ⟨σ,rfl,fun p y hn=>?_,fun p y hn hm=>I p y hn (Ξ _ hm)⟩
 rcases μ.1 (h1 p y hn) with hm | hm
 ·exact hm
 ·exact absurd rfl (h p y hn (iF σ p.atom) hm)
end
section
open Go.RowKit D
attribute [local go_sem ↓] Go.wp_at_zero Go.wp_at_succ
structure D.iC (K:Nat→Prop) (w w':World):Prop where
 os:w'.os=w.os
 tape:w'.tape=w.tape
 output:w'.output=w.output
 size:w.heap.size≤w'.heap.size
 block:∀ k,k < w.heap.size→¬ K k→w'.heap[k]? = w.heap[k]?
theorem D.iC.refl (K:Nat→Prop) (w:World):iC K w w:=⟨rfl,rfl,rfl,ν,fun _ _ _=>rfl⟩
theorem D.iC.trans {K:Nat→Prop} {w w' I:World} (h:iC K w w') (k:iC K w' I):iC K w I:=
 ⟨k.os.trans h.os,k.tape.trans h.tape,k.output.trans h.output,τ h.size k.size,fun i J y=>(k.block i (κ J h.size) y).trans (h.block i J y)⟩
theorem D.iC.of_below {K:Nat→Prop} {w w':World} (h:Below w.heap.size w w'):iC K w w':=⟨h.os,h.tape,h.output,h.size,fun k y _=>h.block k y⟩
structure D.YM (gf:Nat) (wU:Array Value) (K:Nat→Prop) (St:Bool→World→List A→List Nat→Prop) (go:List A→Bool):Prop where
 enters:∀ args w,(callFunc gf args).run Tryz.prog w=.ok (.enter gf args) w
 lt:∀ {f:Bool} {w:World} {told:List A} {fb:List Nat},St f w told fb→∀ x ∈ fb,x < w.heap.size
 mine:∀ {f:Bool} {w:World} {told:List A} {fb:List Nat},St f w told fb→∀ x,K x→x ∈ fb
 keep:∀ {f:Bool} {w w':World} {told:List A} {fb:List Nat},St f w told fb→(∀ x ∈ fb,w'.heap[x]? = w.heap[x]?)→w.heap.size≤w'.heap.size→St f w' told fb
 call:∀ (w:World) (told:List A) (fb:List Nat) (a:A) (c1:Value) (ba:List Nat) (b0:Nat),St true w told fb→(∀ x ∈ fb,x < b0)→New b0 w ba→aK w [.string a.name,c1] a ba→bG a→
  Calls Tryz.prog gf (#[.agg #[.string a.name,c1]] ++ wU) w fun e w'=>e=.returned (.bool (go (told ++ [a])))∧(∃ fb',St (go (told ++ [a])) w' (told ++ [a]) fb'∧∀ x ∈ fb',x ∈ fb∨b0≤x)∧iC K w w'
theorem D.Ti {fs:List A} {r:Ru} {I:List A} (h1:∀ t ∈ I,∃ σ,wG fs (iG r.body) (eY r.body) [] (2 ^ (iG r.body).length - 1) σ∧iF σ r.head=t):∀ t ∈ I,lU fs r t:=fun t h=>by
 obtain ⟨σ,⟨_,U,g3⟩,rfl⟩:=h1 t h;refine ⟨σ,rfl,fun p y hn=>?_,fun p y hn=>g3 _ (qY.2 ⟨p,y,hn,rfl⟩)⟩;obtain ⟨j,J,e⟩:=List.getElem_of_mem (qX.2 ⟨p,y,hn,rfl⟩);rw [← e];exact U j J (by rw [Nat.testBit_two_pow_sub_one]; simpa using J)
theorem NW (vars:List ByteArray) (hv:kC vars) (b:Bd) (a8:jZ vars b) (head:A) (Ah:Option Addr) (ch:Nat) (bh:List Nat) (blk o c5 c7:Nat) {gf:Nat} {wU:Array Value} {K:Nat→Prop} {St:Bool→World→List A→List Nat→Prop} {go:List A→Bool} (TL:YM gf wU K St go) (told:List A) (fb:List Nat) (w:World) (hb:iR vars b blk o w) (F:St true w told fb) (hok:bG (dD head b))
  (h5:w.cell? ⟨c5,0,none⟩=some (.func (.func gf) #[] wU)) (h7:w.cell? ⟨c7,0,none⟩=some (.string head.name)) (a9:w.cell? ⟨c7,1,none⟩=some (.slice Ah head.args.length ch))
  (hs:kV vars w [.slice Ah head.args.length ch] head.args bh) (a1:head.name.size≤maxLen) (hin:∀ t ∈ head.args,t.var=true→t.name ∈ vars) (a2:head.args.length≤1000000):
  Calls Tryz.prog 116 #[.pointer (some ⟨blk,o,none⟩),.pointer (some ⟨c5,0,none⟩),.pointer (some ⟨c7,0,none⟩)] w fun e w'=>e=.returned (.bool (go (told ++ [dD head b])))∧(∃ y,St (go (told ++ [dD head b])) w' (told ++ [dD head b]) y∧∀ x ∈ y,x ∈ fb∨w.heap.size≤x)∧iC K w w':=by
 have HF:=η (Nl vars hv b a8 head Ah ch bh blk o w.drew (hb.keep rfl) a1 ((dK vars).keep hs fun _ _=>rfl) hin a2);have eg:=TL.enters;have F0:=TL.lt F
 have a3:Hid (∀ (U:World) (v:Value) (bt:List Nat),Below w.heap.size w U→aK U [.string head.name,v] (dD head b) bt→New w.heap.size U bt→Calls Tryz.prog gf (#[.agg #[.string head.name,v]] ++ wU) U fun e w'=>e=.returned (.bool (go (told ++ [dD head b])))∧(∃ y,St (go (told ++ [dD head b])) w' (told ++ [dD head b]) y∧∀ x ∈ y,x ∈ fb∨w.heap.size≤x)∧iC K w w'):=η fun U v bt h2 ha hn=>by
  refine (TL.call U told fb (dD head b) v bt w.heap.size (TL.keep F (fun x hx=>h2.block x (F0 x hx)) h2.size) F0 hn ha hok).mono ?_;rintro e w3 ⟨rfl,I,J⟩;exact ⟨rfl,I,(iC.of_below h2).trans J⟩
 generalize go (told ++ [dD head b])=gv at *;clear hb F F0 TL hok hs a1 hin a2;have l5:=lt_of_cell h5;have l7:=lt_of_cell h7
 go_enter Tryz.func116,Tryz.ntmps116
 go_wp2
 go_region_law
  (first
   | (go_simp; go_at_call 117; refine HF.out.mono ?_; rintro e U ⟨v9,b9,rfl,a4,a5,a6⟩; have a0:=η ((Below.refl w.heap.size w).drew.trans a4); replace h5:=ξ a0.out h5; have a7:=η (a3.out U v9 b9 a0.out a5 a6); clear a4 a5 a6)
   | (go_simp; go_at_fn gf; refine a7.out.mono ?_; rintro e w3 ⟨rfl,I,J⟩; have HZ:=η (ι I J); clear I J))
 all_goals
  clear h5 h7 a9 a7 a3 HF a0;go_wp2;go_ret;exact ⟨rfl,HZ.out⟩
def D.NY (sb:Nat) (y I J:Value):Array Value:=#[.pointer (some ⟨sb,0,none⟩),y,I,J,.bool false,.bool false,.bool false,.bool false,.bool false,.bool false,.bool false,.bool false,.bool false,.bool false,.bool false,.bool false,.bool false,.int .i64 0,
 .string ⟨#[]⟩,.string ⟨#[]⟩,.string ⟨#[]⟩,.string ⟨#[]⟩,.string ⟨#[]⟩,.string ⟨#[]⟩,.string ⟨#[]⟩,.string ⟨#[]⟩,.string ⟨#[]⟩,.string ⟨#[]⟩,.string ⟨#[]⟩,.string ⟨#[]⟩,
 .int .i64 0,.int .i64 0,.int .i64 0,.int .i64 0,.int .i64 0,.int .i64 0,.int .i64 0,.int .i64 0,.int .i64 0,.int .i64 0,.int .i64 0,.int .i64 0,.int .i64 0,.nilFunc]
theorem D.Yx {w:World} {sk sb:Nat} {y I U:Value} {t:TypeId} (vars:List ByteArray) (h:w.heap[sk]? = some (.cells (NY sb y I U) t (0,0))):mJ sk sb y I (fun _=>false) false 0 .nilFunc w∧iR vars [] sk 18 w∧∀ q,w.frozen? ⟨sk,q,none⟩=false:=by
 have c:=fun o=>ai h (o:=o)
 refine ⟨⟨c 0,c 1,c 2,fun i J=>?_,c 16,c 17,c 43⟩,⟨fun i J=>?_,fun i J=>⟨0,?_,fun h=>by simp at h⟩,c 42,fun i _=>ax h⟩,fun q=>ax h⟩
 ·rw [c]
  have:i=0∨i=1∨i=2∨i=3∨i=4∨i=5∨i=6∨i=7∨i=8∨i=9∨i=10∨i=11:=by omega
  rcases this with rfl | rfl | rfl | rfl | rfl | rfl | rfl | rfl | rfl | rfl | rfl | rfl <;> rfl
 ·rw [c]
  have e:JV vars [] i=⟨#[]⟩:=by unfold JV; split <;> rfl
  rw [e];have:i=0∨i=1∨i=2∨i=3∨i=4∨i=5∨i=6∨i=7∨i=8∨i=9∨i=10∨i=11:=by omega
  rcases this with rfl | rfl | rfl | rfl | rfl | rfl | rfl | rfl | rfl | rfl | rfl | rfl <;> rfl
 ·rw [c]
  have:i=0∨i=1∨i=2∨i=3∨i=4∨i=5∨i=6∨i=7∨i=8∨i=9∨i=10∨i=11:=by omega
  rcases this with rfl | rfl | rfl | rfl | rfl | rfl | rfl | rfl | rfl | rfl | rfl | rfl <;> rfl
theorem D.mJ.tell {sk sb:Nat} {I J:Value} {wt:Nat→Bool} {io:Bool} {ah:Int} {U:Value} {w:World} (h:mJ sk sb I J wt io ah U w) (y:Value):mJ sk sb I J wt io ah y (w.setCell ⟨sk,43,none⟩ y):=by
 have c:=D.kM w sk 43 y h.tl;exact ⟨by rw [c,if_neg (by omega)]; exact h.st,by rw [c,if_neg (by omega)]; exact h.p1,by rw [c,if_neg (by omega)]; exact h.p2,fun i hi=>by rw [c,if_neg (by omega)]; exact h.wd i hi,by rw [c,if_neg (by omega)]; exact h.io,by rw [c,if_neg (by omega)]; exact h.ah,by rw [c,if_pos rfl]⟩
theorem D.iR.tell {vars:List ByteArray} {b:Bd} {sk:Nat} {J:Value} {w:World} (h:iR vars b sk 18 w) (U:w.cell? ⟨sk,43,none⟩=some J) (I:Value):iR vars b sk 18 (w.setCell ⟨sk,43,none⟩ I):=by
 have c:=D.kM w sk 43 I U
 exact ⟨fun i y=>by rw [c,if_neg (by omega)]; exact h.wd i y,fun i y=>by
  obtain ⟨z,h1,h2⟩:=h.bd i y
  exact ⟨z,by rw [c,if_neg (by omega)]; exact h1,h2⟩,by rw [c,if_neg (by omega)]; exact h.ct,fun i y=>by rw [World.frozen?_setCell]; exact h.fz i y⟩
structure D.F9 (gf:Nat) (wU:Array Value) (St:Bool→World→List A→List Nat→Prop) (vars:List ByteArray) (head:A) (Ah:Option Addr) (ch:Nat) (bh:List Nat) (sk c5 c7:Nat) (fb:List Nat) (n0:Nat) (f:Bool) (w:World) (told:List A):Prop where
 fnd:∃ fb',St f w told fb'∧(∀ x ∈ fb',x ≠ sk)∧∀ x ∈ fb',x ∈ fb∨n0≤x
 f5:w.heap[c5]? = some (.cells #[.func (.func gf) #[] wU] 105 (0,0))
 f7:w.heap[c7]? = some (.cells #[.string head.name,.slice Ah head.args.length ch] 168 (0,0))
 sl:kV vars w [.slice Ah head.args.length ch] head.args bh
 qH:n0≤w.heap.size
theorem D.F9.keep {gf:Nat} {wU:Array Value} {K:Nat→Prop} {St:Bool→World→List A→List Nat→Prop} {go:List A→Bool} (TL:YM gf wU K St go) {vars:List ByteArray} {head:A} {Ah:Option Addr} {ch:Nat} {J:List Nat} {sk U c7:Nat} {fb:List Nat} {n0:Nat} {f:Bool} {w w':World} {told:List A} (h:F9 gf wU St vars head Ah ch J sk U c7 fb n0 f w told) (n5:U ≠ sk) (n7:c7 ≠ sk) (nb:∀ x ∈ J,x ≠ sk) (hs:w.heap.size≤w'.heap.size)
  (I:∀ x,x < w.heap.size→x ≠ sk→w'.heap[x]? = w.heap[x]?):F9 gf wU St vars head Ah ch J sk U c7 fb n0 f w' told:=by
 obtain ⟨a0,g1,g2,g3⟩:=h.fnd;exact ⟨⟨a0,TL.keep g1 (fun x y=>I x (TL.lt g1 x y) (g2 x y)) hs,g2,g3⟩,(I _ (ψ h.f5) n5).trans h.f5,(I _ (ψ h.f7) n7).trans h.f7,(dK vars).keep h.sl fun x y=>I x ((dK vars).lt h.sl x y) (nb x y),τ h.qH hs⟩
theorem D.V5 {gf:Nat} {wU:Array Value} {K:Nat→Prop} {St:Bool→World→List A→List Nat→Prop} {go:List A→Bool} (TL:YM gf wU K St go) {r:Ru} (R:lD r) (hV:kC (aC r.body)) (hin:∀ t ∈ r.head.args,t.var=true→t.name ∈ aC r.body) (a1:r.head.name.size≤maxLen) {Ah:Option Addr} {ch:Nat} {bh:List Nat} {sk U c7:Nat} {fb:List Nat} {n0:Nat} (n5:U ≠ sk∧¬ K U) (n7:c7 ≠ sk∧¬ K c7) (nb:∀ x ∈ bh,x ≠ sk∧¬ K x) (nm:¬ K sk):
  xZ (aC r.body) r.head sk (fun k=>k ≠ sk∧¬ K k) ⟨U,0,none⟩ ⟨c7,0,none⟩ (F9 gf wU St (aC r.body) r.head Ah ch bh sk U c7 fb n0) go:=by
 refine ⟨fun w b told a2 hw hc hb y=>?_,fun {f} w w' told y hk=>y.keep TL n5.1 n7.1 (fun x J=>(nb x J).1) hk.grow.size fun x J a3=>hk.block J a3⟩;obtain ⟨a4,g1,g2,g3⟩:=y.fnd;refine (NW (aC r.body) hV b a2 r.head Ah ch bh sk 18 U c7 TL told a4 w hb g1 (SX R hw hc) (ai y.f5) (ai y.f7) (ai y.f7) y.sl a1 hin (by have:=oO R.hok; omega)).mono ?_;rintro e w2 ⟨rfl,⟨a5,h1,h2⟩,I⟩;have a0:=hb.lt;have hs:=y.qH
 refine ⟨rfl,⟨⟨a5,h1,fun x J=>?_,fun x J=>?_⟩,(I.block _ (ψ y.f5) n5.2).trans y.f5,(I.block _ (ψ y.f7) n7.2).trans y.f7,(dK _).keep y.sl fun x J=>I.block x ((dK _).lt y.sl x J) (nb x J).2,τ hs I.size⟩,
  ⟨I.os,I.tape,I.output,I.size,fun k hk hK=>I.block k hk hK.2,fun q _=>World.cell?_of_block (I.block _ a0 nm)⟩,I.block _ a0 nm⟩
 ·rcases h2 x J with h | h
  ·exact g2 x h
  ·omega
 ·rcases h2 x J with h | h
  ·exact g3 x h
  ·exact .inr (τ hs h)
theorem PV (sb:Nat) (fs:List A) (rn:List Nat) (bs:List Nat) (r:Ru) (c0 c1 c2:Value) (br:List Nat) {gf:Nat} {wU:Array Value} {K:Nat→Prop} {St:Bool→World→List A→List Nat→Prop} {go:List A→Bool} (TL:YM gf wU K St go) (told:List A) (fb:List Nat) (w:World) (ST:kW sb fs rn bs w) (bl:∀ f ∈ fs,bG f) (bn:fs.length≤1000000) (hr:iD w [c0,c1,c2] r br) (R:lD r)
  (F:St true w told fb) (ci:∀ x ∈ bs,¬ K x) (cE:∀ x ∈ br,¬ K x):
  Calls Tryz.prog 59 #[.pointer (some ⟨sb,0,none⟩),.agg #[c0,c1,c2],.func (.func gf) #[] wU] w fun e w'=>e=.returned (.tuple #[])∧
   ∃ ts a5 more,St more w' (told ++ ts) a5∧(∀ x ∈ a5,x ∈ fb∨w.heap.size≤x)∧iC K w w'∧(∀ t ∈ ts,lU fs r t)∧(more=true→∀ t,lU fs r t→t ∈ ts)∧(more=false→go (told ++ ts)=false):=by
 obtain ⟨a1,a2,Ab,cb,rfl,rfl,rfl⟩:=qi hr;obtain ⟨cj,ck,cG,ae,af⟩:=jw hr;have hV:=Qx R;have b9:Below w.heap.size w ((w.alloc (.cells #[.string r.head.name,.slice a1 r.head.args.length a2,.slice Ab r.body.length cb] 40)).alloc (.cells #[.func (.func gf) #[] wU] 105)):=(ζ).alloc (by simp) _
 have bo:((w.alloc (.cells #[.string r.head.name,.slice a1 r.head.args.length a2,.slice Ab r.body.length cb] 40)).alloc (.cells #[.func (.func gf) #[] wU] 105)).heap[w.heap.size+1]? = some (.cells #[.func (.func gf) #[] wU] 105 (0,0)):=by
  have:=ω (w.alloc (.cells #[.string r.head.name,.slice a1 r.head.args.length a2,.slice Ab r.body.length cb] 40)) (.cells #[.func (.func gf) #[] wU] 105);simpa using this
 have bp:((w.alloc (.cells #[.string r.head.name,.slice a1 r.head.args.length a2,.slice Ab r.body.length cb] 40)).alloc (.cells #[.func (.func gf) #[] wU] 105)).heap[w.heap.size]? = some (.cells #[.string r.head.name,.slice a1 r.head.args.length a2,.slice Ab r.body.length cb] 40 (0,0)):=by
  rw [Below.heap_alloc _ _ _ (by simp)];exact ω _ _
 have hq:=Nj r.body (.slice Ab r.body.length cb) ck _ (dS.below af b9) (by have:=R.few; omega) (fun p hp=>by have:=oO (R.pok p hp); omega);have ag:=η b9;have cl:=η bo;have bt:=η bp;have HH:=η ae;have bu:((w.alloc (.cells #[.string r.head.name,.slice a1 r.head.args.length a2,.slice Ab r.body.length cb] 40)).alloc (.cells #[.func (.func gf) #[] wU] 105)).heap.size=w.heap.size+2:=by simp
 have aD:=η bu;clear hr b9 bo bp ae af bu
 go_enter Tryz.func59,Tryz.ntmps59
 go_wp2_with fail
 generalize ((w.alloc (.cells #[.string r.head.name,.slice a1 r.head.args.length a2,.slice Ab r.body.length cb] 40)).alloc (.cells #[.func (.func gf) #[] wU] 105))=W0 at *;refine hq.mono ?_;rintro e w1 ⟨A1,n1,q1,U,n2,q2,A3,q3,bq,rfl,am,cm,bv⟩;obtain ⟨v1,v2,v3,b1,b2,b3,he,rfl,bc,aa,bw⟩:=cm;simp only [List.cons.injEq,and_true] at he;obtain ⟨rfl,rfl,rfl⟩:=he;obtain ⟨_,_,e1,_⟩:=aj bc;obtain ⟨_,_,e2,_⟩:=aj aa;simp only [Value.slice.injEq] at e1 e2;obtain ⟨-,rfl,-⟩:=e1;obtain ⟨-,rfl,-⟩:=e2;have bf:Below w1.heap.size w1 (w1.alloc (.cells #[.slice A1 (iG r.body).length q1,.slice U (eY r.body).length q2,.slice A3 (aC r.body).length q3] 164)):=ζ;have a6:=η (am.trans (bf.mono am.size))
 have bx:=CQ (aC r.body) r.head A1 U (iG r.body).length q1 (eY r.body).length q2 (.slice A3 (aC r.body).length q3) (.string r.head.name) (.slice a1 r.head.args.length a2) b3 cj _ (dA.below bw bf) (zn r.body) (by have:=hV.few; omega) (au.Ua HH.out (ag.out.trans (a6.out.mono ag.out.size)) (fun b hb=>au.lt HH.out b hb)) (JM (fs:=[]) R (by simp) (by simp) (wt:=fun i=>ND (aC r.body) r.head (eY r.body) i) (fun _ _=>rfl)).hin (by have:=oO R.hok; omega);have x4:W0.cell? ⟨w.heap.size,0,none⟩=some (.string r.head.name):=ai bt.out;have x5:W0.cell? ⟨w.heap.size,1,none⟩=some (.slice a1 r.head.args.length a2):=ai bt.out;have u4:(w1.alloc (.cells #[.slice A1 (iG r.body).length q1,.slice U (eY r.body).length q2,.slice A3 (aC r.body).length q3] 164)).cell? ⟨w.heap.size,0,none⟩=some (.string r.head.name):=ξ a6.out x4
 have u5:(w1.alloc (.cells #[.slice A1 (iG r.body).length q1,.slice U (eY r.body).length q2,.slice A3 (aC r.body).length q3] 164)).cell? ⟨w.heap.size,1,none⟩=some (.slice a1 r.head.args.length a2):=ξ a6.out x5;have a3:=η (ι bc (ι aa (ι am bv)));have bg:Hid ((w1.alloc (.cells #[.slice A1 (iG r.body).length q1,.slice U (eY r.body).length q2,.slice A3 (aC r.body).length q3] 164)).heap[w1.heap.size]? = some (.cells #[.slice A1 (iG r.body).length q1,.slice U (eY r.body).length q2,.slice A3 (aC r.body).length q3] 164 (0,0))∧W0.heap.size≤w1.heap.size):=η ⟨ω _ _,am.size⟩;clear hq am bv bc aa bw bf
 go_wp2_with fail
 refine bx.mono ?_;rintro e y ⟨vp,bh,rfl,a7,aE,ab,bz⟩;obtain ⟨Ah,ch,rfl,_⟩:=aj ab;have bA:Below y.heap.size y (y.alloc (.cells #[.string r.head.name,.slice Ah r.head.args.length ch] 168)):=ζ;have co:=η (a7.trans (bA.mono a7.size));have ao:=(a7.block _ (ψ bg.out.1)).trans bg.out.1;have u0:y.cell? ⟨w1.heap.size,0,none⟩=some (.slice A1 (iG r.body).length q1):=ai ao;have u1:y.cell? ⟨w1.heap.size,1,none⟩=some (.slice U (eY r.body).length q2):=ai ao;have u2:y.cell? ⟨w1.heap.size,2,none⟩=some (.slice A3 (aC r.body).length q3):=ai ao;have u3:w1.heap.size < y.heap.size:=ψ ao;have aq:=η (ι aE (ι ab bz));have cp:Hid (∀ x,x < (w1.alloc (.cells #[.slice A1 (iG r.body).length q1,.slice U (eY r.body).length q2,.slice A3 (aC r.body).length q3] 164)).heap.size→y.heap[x]? = (w1.alloc (.cells #[.slice A1 (iG r.body).length q1,.slice U (eY r.body).length q2,.slice A3 (aC r.body).length q3] 164)).heap[x]?):=η fun x I=>a7.block x I
 have aM:=η a7
 have bB:Hid (∀ x ∈ b2,x ≠ y.heap.size+1):=η fun x I=>by
  have h1:=(eP (aC r.body)).lt a3.out.2.1 x I;have h2:=a7.size;simp at h2;omega
 clear bx a7 aE ab bz bA u4 u5 x4 x5 ao;have hE:=JM R bl bn (wt:=fun i=>ND (aC r.body) r.head (eY r.body) i) (fun _ _=>rfl)
 have bE:((y.alloc (.cells #[.string r.head.name,.slice Ah r.head.args.length ch] 168)).alloc (.cells (NY sb (.slice A1 (iG r.body).length q1) (.slice U (eY r.body).length q2) (.slice A3 (aC r.body).length q3)) 178)).heap[y.heap.size+1]? = some (.cells (NY sb (.slice A1 (iG r.body).length q1) (.slice U (eY r.body).length q2) (.slice A3 (aC r.body).length q3)) 178 (0,0)):=by
  have:=ω (y.alloc (.cells #[.string r.head.name,.slice Ah r.head.args.length ch] 168)) (.cells (NY sb (.slice A1 (iG r.body).length q1) (.slice U (eY r.body).length q2) (.slice A3 (aC r.body).length q3)) 178);simpa using this
 obtain ⟨aR,bL,bi⟩:=Yx (aC r.body) bE;have bj:Below y.heap.size y ((y.alloc (.cells #[.string r.head.name,.slice Ah r.head.args.length ch] 168)).alloc (.cells (NY sb (.slice A1 (iG r.body).length q1) (.slice U (eY r.body).length q2) (.slice A3 (aC r.body).length q3)) 178)):=(ζ).alloc (by simp) _
 have bO:((y.alloc (.cells #[.string r.head.name,.slice Ah r.head.args.length ch] 168)).alloc (.cells (NY sb (.slice A1 (iG r.body).length q1) (.slice U (eY r.body).length q2) (.slice A3 (aC r.body).length q3)) 178)).heap[y.heap.size]? = some (.cells #[.string r.head.name,.slice Ah r.head.args.length ch] 168 (0,0)):=by
  rw [Below.heap_alloc _ _ _ (by simp)];exact ω _ _
 have a0:=(dK (aC r.body)).lt aq.out.2.1;have bR:=Ns (aC r.body) hV r.head Ah ch bh (y.heap.size+1) sb _ _ _ false 0 .nilFunc _ aR bi ((dK _).below aq.out.2.1 bj) hE.hin (fun hm=>by have:=a0 _ hm; omega) (by have:=oO R.hok; omega);have cq:Hid (((y.alloc (.cells #[.string r.head.name,.slice Ah r.head.args.length ch] 168)).alloc (.cells (NY sb (.slice A1 (iG r.body).length q1) (.slice U (eY r.body).length q2) (.slice A3 (aC r.body).length q3)) 178)).heap.size=y.heap.size+2):=η (by simp);have a8:=η (ι bL (ι bi (ι bj bO)));have cr:=η a0;clear aR bL bi bj bO bE a0
 go_wp2_with fail
 refine bR.mono ?_;rintro e w3 ⟨rfl,b4,ar⟩;generalize ((y.alloc (.cells #[.string r.head.name,.slice Ah r.head.args.length ch] 168)).alloc (.cells (NY sb (.slice A1 (iG r.body).length q1) (.slice U (eY r.body).length q2) (.slice A3 (aC r.body).length q3)) 178))=WS at *;have z1:=a6.out.size;have z2:=co.out.size;have z3:=bg.out.2;have z4:=cq.out;have z5:=aD.out;simp at z1 z2;have HZ:Hid (w.heap.size+2≤w1.heap.size∧w1.heap.size < y.heap.size∧WS.heap.size=y.heap.size+2):=η ⟨by omega,u3,z4⟩;have b5:y.cell? ⟨w1.heap.size,1,none⟩=some (.slice U (eY r.body).length q2):=u1
 have bX:Hid (∀ wr:World,iZ (y.heap.size+1) WS wr→wr.cell? ⟨w1.heap.size,1,none⟩=some (.slice U (eY r.body).length q2)∧uM (aC r.body) wr [.slice U (eY r.body).length q2] (eY r.body) b2):=η fun wr hk=>by
  have kp:∀ x,x < y.heap.size→wr.heap[x]? = y.heap[x]?:=fun x I=>(hk.grow.block x (by rw [z4]; omega) (fun e=>by injection e with e; omega)).trans (a8.out.2.2.1.block x I)
  have hp:=(eP (aC r.body)).below a3.out.2.1 ((Below.refl w1.heap.size w1).alloc ν (.cells #[.slice A1 (iG r.body).length q1,.slice U (eY r.body).length q2,.slice A3 (aC r.body).length q3] 164));have aa:=(eP (aC r.body)).keep (w':=y) hp fun x I=>cp.out x ((eP (aC r.body)).lt hp x I)
  exact ⟨(World.cell?_of_block (kp _ u3)).trans b5,(eP (aC r.body)).keep aa fun x I=>kp x ((eP (aC r.body)).lt aa x I)⟩
 have y1:=(bX.out w3 ar).1;have c3:∀ n ∈ eY r.body,∀ t ∈ n.args,t.var=true→t.name ∈ aC r.body:=hE.nin;have c4:∀ n ∈ eY r.body,bU n=true:=hE.nok;have c5:=η (ι c3 c4)
 have c6:Hid (mJ (y.heap.size+1) sb (.slice A1 (iG r.body).length q1) (.slice U (eY r.body).length q2) (fun i=>gW (aC r.body) r.head.args i || ((eY r.body).take 0).any fun n=>gW (aC r.body) n.args i) false 0 .nilFunc w3∧iZ (y.heap.size+1) WS w3):=η ⟨by
  have e:(fun i=>gW (aC r.body) r.head.args i || ((eY r.body).take 0).any fun n=>gW (aC r.body) n.args i)=fun i=>false || gW (aC r.body) r.head.args i:=funext fun i=>by simp
  rw [e]; exact b4,ar⟩
 have cI:(eY r.body).length≤1000000:=hE.nl;clear bR b4 ar u0 u1 u2 b5 c3 c4;go_wp2
 go_loopw [28] (fun i wr=>∃ (k:Nat),k≤(eY r.body).length∧i=.int .i64 k∧mJ (y.heap.size+1) sb (.slice A1 (iG r.body).length q1) (.slice U (eY r.body).length q2) (fun i=>gW (aC r.body) r.head.args i || ((eY r.body).take k).any fun n=>gW (aC r.body) n.args i) false 0 .nilFunc wr∧iZ (y.heap.size+1) WS wr) (fun i _=>(eY r.body).length - (intOf i).toNat)
 case atStart=>exact ⟨0,ε,rfl,c6.out⟩
 case round=>
  obtain ⟨k,hk,rfl,hI,hK⟩:=hrel;clear c6 y1;by_cases ac:k < (eY r.body).length
  ·obtain ⟨bq,oq,An,cn,bk,rfl,cu,f0,f1,⟨vv,c7,aE,ab⟩,b6⟩:=yR (bX.out wr hK).2 ac
   simp only [List.cons.injEq,and_true,true_and] at c7;subst c7;have cJ:(0:Int)≤(k:Int):=by omega
   have cv:(k:Int) < ((eY r.body).length:Int):=by omega
   have av:Below wr.heap.size wr (wr.alloc (.cells #[.string (eY r.body)[k].name,.slice An (eY r.body)[k].args.length cn] 168)):=ζ;have aw:=Ns (aC r.body) hV (eY r.body)[k] An cn bk (y.heap.size+1) sb _ _ _ false 0 .nilFunc (wr.alloc (.cells #[.string (eY r.body)[k].name,.slice An (eY r.body)[k].args.length cn] 168)) (hI.keep (av.block _ hI.lt)) (fun q=>(World.frozen?_of_block (av.block _ hI.lt)).trans ((hK.frz q).trans (a8.out.2.1 q))) ((dK _).below ab av) (c5.out.1 _ (δ ac)) (fun hm=>bB.out _ (b6 _ hm) rfl) (by have:=oO (c5.out.2 _ (δ ac)); omega);have c8:=η (hK.trans (iZ.of_below av hI.lt))
   have c9:Hid (∀ i,(gW (aC r.body) r.head.args i || ((eY r.body).take (k+1)).any fun n=>gW (aC r.body) n.args i)=((gW (aC r.body) r.head.args i || ((eY r.body).take k).any fun n=>gW (aC r.body) n.args i) || gW (aC r.body) (eY r.body)[k].args i)):=η fun i=>by
    rw [ρ ac,List.any_append]; simp [Bool.or_assoc]
   have ca:=η ac;clear hI hK av aE ab b6 hk cu;generalize (eY r.body)[k]=n at *;obtain ⟨nn,cw⟩:=n;dsimp only at *;clear ac
   go_wp2_with fail
   refine aw.mono ?_;rintro e w4 ⟨rfl,cc,cd⟩
   have cx:Hid (mJ (y.heap.size+1) sb (.slice A1 (iG r.body).length q1) (.slice (some ⟨bq,oq,none⟩) (eY r.body).length q2) (fun i=>gW (aC r.body) r.head.args i || ((eY r.body).take (k+1)).any fun n=>gW (aC r.body) n.args i) false 0 .nilFunc w4∧iZ (y.heap.size+1) WS w4):=η ⟨by
    rw [funext c9.out]; exact cc,c8.out.trans cd⟩
   clear aw cc cd c8 c9;go_wp2;go_roundw
   case rel=>exact ⟨k+1,ca.out,by go_num,cx.out⟩
   case measure=>have:=ca.out; simp [intOf]; omega
  ·have he:k=(eY r.body).length:=by omega
   have cv:¬ (k:Int) < ((eY r.body).length:Int):=by omega
   rw [ϕ (Nat.le_of_eq he.symm)] at hI;have hz:=HZ.out;have cK:=hK.grow.size;have cy:=hI.tl;have cL:wr.frozen? ⟨y.heap.size+1,43,none⟩=false:=(hK.frz 43).trans (a8.out.2.1 43);have J:Below w.heap.size w WS:=ag.out.trans ((a6.out.mono ag.out.size).trans ((aM.out.mono (τ ag.out.size a6.out.size)).trans (a8.out.2.2.1.mono (by omega))));have cB:=η J
   have a4:∀ x,x < y.heap.size+1→(wr.setCell ⟨y.heap.size+1,43,none⟩ (.func (.func 116) #[] #[.pointer (some ⟨w.heap.size+1,0,none⟩),.pointer (some ⟨y.heap.size,0,none⟩)])).heap[x]? = WS.heap[x]?:=fun x I=>
    (π _ _ _ _ (by show x ≠ y.heap.size+1; omega)).trans (hK.grow.block x (by omega) (fun e=>by injection e with e; omega))
   have az:∀ x,x < y.heap.size→WS.heap[x]? = y.heap[x]?:=fun x I=>a8.out.2.2.1.block x I
   have aL:∀ x,x < w1.heap.size→y.heap[x]? = w1.heap[x]?:=fun x I=>(aM.out.block x (by simp; omega)).trans (Below.heap_alloc _ _ _ I)
   have S5:qW (aC r.body) fs rn bs (iG r.body) (eY r.body) (y.heap.size+1) sb (.slice A1 (iG r.body).length q1) (.slice U (eY r.body).length q2) b1 b2 (fun i=>gW (aC r.body) r.head.args i || (eY r.body).any fun n=>gW (aC r.body) n.args i) 0
     (.func (.func 116) #[] #[.pointer (some ⟨w.heap.size+1,0,none⟩),.pointer (some ⟨y.heap.size,0,none⟩)]) (fun k=>k ≠ y.heap.size+1∧¬ K k) []
     (wr.setCell ⟨y.heap.size+1,43,none⟩ (.func (.func 116) #[] #[.pointer (some ⟨w.heap.size+1,0,none⟩),.pointer (some ⟨y.heap.size,0,none⟩)])):=by
    refine ⟨hI.tell _,(a8.out.1.wt hK).tell cy _,jZ.nil _,fun p hp=>by simp at hp,ST.keep (fun x I=>?_) ?_,(eP _).keep a3.out.1 fun x I=>?_,(eP _).keep a3.out.2.1 fun x I=>?_,fun x I=>⟨?_,ci x I⟩,fun x I=>?_,fun x I=>?_⟩
    ·have:=ST.lt x I
     exact (a4 x (by omega)).trans (J.block x this)
    ·simp [World.setCell]; omega
    ·have:=(eP (aC r.body)).lt a3.out.1 x I
     exact (a4 x (by omega)).trans ((az x (by omega)).trans (aL x this))
    ·have:=(eP (aC r.body)).lt a3.out.2.1 x I
     exact (a4 x (by omega)).trans ((az x (by omega)).trans (aL x this))
    ·have:=ST.lt x I; omega
    ·have h1:=(eP (aC r.body)).lt a3.out.1 x I
     have h2:=a3.out.2.2.2 x (by simp [I]);have h4:=aD.out;exact ⟨by omega,fun hK=>by have:=TL.lt F x (TL.mine F x hK); omega⟩
    ·have h1:=(eP (aC r.body)).lt a3.out.2.1 x I
     have h2:=a3.out.2.2.2 x (by simp [I]);have h4:=aD.out;exact ⟨by omega,fun hK=>by have:=TL.lt F x (TL.mine F x hK); omega⟩
   have a9:∀ x,K x→x < w.heap.size:=fun x I=>TL.lt F x (TL.mine F x I)
   have a0:=cr.out
   have ce:F9 gf wU St (aC r.body) r.head Ah ch bh (y.heap.size+1) (w.heap.size+1) y.heap.size fb w.heap.size true (wr.setCell ⟨y.heap.size+1,43,none⟩ (.func (.func 116) #[] #[.pointer (some ⟨w.heap.size+1,0,none⟩),.pointer (some ⟨y.heap.size,0,none⟩)])) told:=by
    refine ⟨⟨fb,TL.keep F (fun x I=>?_) ?_,fun x I=>?_,fun x I=>.inl I⟩,?_,?_,(dK _).keep aq.out.2.1 fun x I=>?_,?_⟩
    ·have:=TL.lt F x I
     exact (a4 x (by omega)).trans (J.block x this)
    ·simp [World.setCell]; omega
    ·have:=TL.lt F x I; omega
    ·have h4:=aD.out
     have h9:=a6.out.block (w.heap.size+1) (by omega);rw [Below.heap_alloc _ _ _ (by omega)] at h9;exact (a4 _ (by omega)).trans ((az _ (by omega)).trans ((aL _ (by omega)).trans (h9.trans cl.out)))
    ·exact (a4 _ (by omega)).trans a8.out.2.2.2
    ·have:=a0 x I
     exact (a4 x (by omega)).trans (az x this)
    ·simp [World.setCell]; omega
   have cg:∀ x ∈ bh,x ≠ y.heap.size+1∧¬ K x:=fun x I=>by
    have h1:=a0 x I;have h2:=(aq.out.2.2.own x I).1;simp at h2;exact ⟨by omega,fun hK=>by have:=a9 x hK; omega⟩
   have b7:=GL (aC r.body) fs rn bs (iG r.body) (eY r.body) r.head (y.heap.size+1) sb A1 q1 U q2 b1 b2 (fun i=>gW (aC r.body) r.head.args i || (eY r.body).any fun n=>gW (aC r.body) n.args i) 0 ⟨w.heap.size+1,0,none⟩ ⟨y.heap.size,0,none⟩ (fun k=>k ≠ y.heap.size+1∧¬ K k)
    (F9 gf wU St (aC r.body) r.head Ah ch bh (y.heap.size+1) (w.heap.size+1) y.heap.size fb w.heap.size) go (JM R bl bn fun i _=>rfl) (fun k hk=>hk.1)
    (V5 TL R hV hE.hin aq.out.1 ⟨by omega,fun hK=>by have:=a9 _ hK; omega⟩ ⟨by omega,fun hK=>by have:=a9 _ hK; omega⟩ cg (fun hK=>by have:=a9 _ hK; omega)) told _ S5 ce
   have b8:Hid (∀ w9 held more,jr (aC r.body) fs (iG r.body) (eY r.body) r.head (fun k=>k ≠ y.heap.size+1∧¬ K k) (y.heap.size+1) (F9 gf wU St (aC r.body) r.head Ah ch bh (y.heap.size+1) (w.heap.size+1) y.heap.size fb w.heap.size) go [] (2 ^ (iG r.body).length - 1) told held more
     (wr.setCell ⟨y.heap.size+1,43,none⟩ (.func (.func 116) #[] #[.pointer (some ⟨w.heap.size+1,0,none⟩),.pointer (some ⟨y.heap.size,0,none⟩)])) w9→
     ∃ ts a5 more,St more w9 (told ++ ts) a5∧(∀ x ∈ a5,x ∈ fb∨w.heap.size≤x)∧iC K w w9∧(∀ t ∈ ts,lU fs r t)∧(more=true→∀ t,lU fs r t→t ∈ ts)∧(more=false→go (told ++ ts)=false)):=η fun w9 held more hP=>by
    obtain ⟨ts,p1,_,p3,p4,p5,_,p7⟩:=hP;obtain ⟨a5,g1,g2,g3⟩:=p3.fnd;have cz:w.heap.size≤wr.heap.size:=by omega
    exact ⟨ts,a5,more,g1,g3,⟨p1.os.trans (hK.grow.os.trans J.os),p1.tape.trans (hK.grow.tape.trans J.tape),p1.output.trans (hK.grow.output.trans J.output),τ cz (τ (by simp [World.setCell]) p1.size),
     fun x I cA=>(p1.block x (by simp [World.setCell]; omega) ⟨by omega,cA⟩).trans ((a4 x (by omega)).trans (J.block x I))⟩,Ti p4,fun h t=>(VN R p4 (p5 h) t).2,p7⟩
   have cD:y.heap.size+1 < wr.heap.size:=by omega
   clear S5 ce cg hI hK J a4 az aL a0 hE
   go_wp2_with fail
   refine b7.mono ?_;rintro e w9 ⟨rfl,held,more,hP⟩;have HD:=η (b8.out w9 held more hP);clear b7 hP b8;go_wp2
   go_end0
   exact ⟨rfl,HD.out⟩
end
section
open Go.RowKit D
theorem D.Yy {rs:List Ru} (h:x9 rs) {r:Ru} (hr:r ∈ rs):ja rs r.head.name < rs.length:=by
 obtain ⟨i,y,rfl⟩:=List.getElem_of_mem hr;obtain ⟨h1,U⟩:=pO h.cyc;have I:=zY h1;have e:eH rs i=rs[i]:=by unfold eH; simp [List.getD,y]
 have J:=U i y;rw [e] at J;rw [← J];unfold nC at I;rw [List.any_eq_false] at I
 have h5:jb (aA rs) i ∈ aA rs:=by
  unfold jb; rw [List.getD_eq_getElem?_getD,Ψ (by rw [gU]; exact y)]; exact δ _
 have:=I _ h5;simpa using this
structure D.wS (rs:List Ru) (given:List A) (L:Nat) (fs:List A) (rn:List Nat) (number:Nat) (r:Rd) (fuel:Nat):Prop where
 sim:XP fs rn r
 ok:qG r
 fact:∀ x ∈ r.1,bG x
 len:r.1.length≤300
 num:number≤r.1.length
 fu:302≤fuel+r.1.length
 run:iO rs given=D8 rs (aA rs) (rs.length+1 - L) fuel r number
def D.rq (rs:List Ru) (given:List A) (L:Nat) (fs:List A) (rn:List Nat) (number:Nat):Prop:=∃ r fuel,wS rs given L fs rn number r fuel
def D.ru (rs:List Ru) (given:List A) (L:Nat) (own next:List Ru) (fs:List A) (rn:List Nat) (number:Nat):Prop:=
 (∃ r fuel,wS rs given L fs rn number r fuel∧(∀ q ∈ next,q ∈ own)∧∀ q ∈ own,q ∉ next→∀ t,lU fs q t→t ∈ fs)∨(next = []∧rq rs given (L+1) fs rn number)
open Classical in
noncomputable def D.PW (own:List Ru) (new:List A):List Ru:=own.filter fun q=>q.body.any fun p=>!p.no && decide (∃ t ∈ new,t.name=p.atom.name)
section
variable {rs:List Ru} {given:List A} {L:Nat} {own next:List Ru} {fs:List A} {rn:List Nat} {number fuel:Nat} {r:Rd}
theorem D.wS.XD (h:wS rs given L fs rn number r fuel):fs.length=r.1.length:=(h.sim.fst h.ok).length_eq
theorem D.wS.facts (h:wS rs given L fs rn number r fuel):∀ x ∈ fs,bG x:=fun x y=>h.fact x ((h.sim.fst h.ok).mem_iff.1 y)
theorem D.rq.few (h:rq rs given L fs rn number):fs.length≤300∧rn.length=fs.length∧number≤fs.length∧∀ x ∈ fs,bG x:=by
 obtain ⟨r,fuel,h⟩:=h;have:=h.XD;exact ⟨by have:=h.len; omega,h.sim.len,by have:=h.num; omega,h.facts⟩
theorem D.ru.few (h:ru rs given L own next fs rn number):fs.length≤300∧rn.length=fs.length∧number≤fs.length∧∀ x ∈ fs,bG x:=by
 rcases h with ⟨r,fuel,h,_⟩ | ⟨_,h⟩
 ·exact rq.few ⟨r,fuel,h⟩
 ·exact h.few
theorem D.all_start (ha:gB given=true) (hf:∀ x ∈ given,bG x) (y:given.length≤300):rq rs given 0 given (List.replicate given.length 0) 0:=
 ⟨(given,List.replicate given.length 0),302,⟨by simp,List.Perm.refl _⟩,⟨ha,by simp⟩,hf,y,ε,by show 302≤302+given.length; omega,rfl⟩
theorem D.rq.enter (h:rq rs given L fs rn number):ru rs given L own own fs rn number:=by
 obtain ⟨r,fuel,h⟩:=h;exact .inl ⟨r,fuel,h,fun q hq=>hq,fun q hq hn=>absurd hq hn⟩
theorem D.wS.go (h:wS rs given L fs rn number r fuel) (y:L≤rs.length):∃ f,fuel=f+1∧iO rs given =
  if 300 < (gq rs (aA rs) L r (number+1)).1.length then (gq rs (aA rs) L r (number+1),false)
  else if (gq rs (aA rs) L r (number+1)).1.length=r.1.length then D8 rs (aA rs) (rs.length - L) 302 (gq rs (aA rs) L r (number+1)) number
  else D8 rs (aA rs) (rs.length - L+1) f (gq rs (aA rs) L r (number+1)) (number+1):=by
 have h1:=h.fu;have I:=h.len;obtain ⟨f,rfl⟩:∃ f,fuel=f+1:=⟨fuel - 1,by omega⟩;refine ⟨f,rfl,?_⟩;rw [h.run,show rs.length+1 - L=rs.length - L+1 by omega,D8,show rs.length - (rs.length - L)=L by omega]
theorem D.wS.V6 (H:x9 rs) (h:wS rs given L fs rn number r fuel) (n:Nat):qG (gq rs (aA rs) L r n)∧∀ x ∈ (gq rs (aA rs) L r n).1,bG x:=
 ⟨(oW h.ok n _).1,(mD H h.fact L n).1⟩
theorem D.ru.done (H:x9 rs) (J:L≤rs.length) (y:OwnAt rs L own) (h:ru rs given L own [] fs rn number):rq rs given (L+1) fs rn number:=by
 rcases h with ⟨r,fuel,h,_,U⟩ | ⟨_,h⟩
 ·obtain ⟨f,rfl,e⟩:=h.go J
  obtain ⟨s1,s2⟩:=IX (next:=[]) (new:=[]) (n:=number+1) H h.ok h.fact h.sim (fun q hq=>by simp at hq) (fun q hq I _ t hf=>U q ((y q).2 ⟨hq,I⟩) (by simp) t hf) List.nodup_nil (fun t=>by simp);have a0:=h.XD;have I:=h.len;simp only [List.length_nil,Nat.add_zero] at s2;rw [if_neg (by omega),if_pos (by omega)] at e;simp only [List.append_nil,List.length_nil,List.replicate_zero] at s1;obtain ⟨o1,o2⟩:=h.V6 H (number+1);exact ⟨_,302,s1,o1,o2,by omega,by have:=h.num; omega,by omega,by rw [e,show rs.length+1 - (L+1)=rs.length - L by omega]⟩
 ·exact h
theorem D.ru.round (H:x9 rs) (hL:L≤rs.length) (y:OwnAt rs L own) (h:ru rs given L own next fs rn number) {new:List A} (a0:next ≠ []) (hn:new.Nodup) (I:∀ t,t ∈ new ↔ t ∉ fs∧∃ q ∈ next,lU fs q t) (a5:fs.length+new.length≤300):
  (new = []→ru rs given L own [] fs rn number)∧(new ≠ []→ru rs given L own (PW own new) (fs ++ new) (rn ++ List.replicate new.length (number+1)) (number+1)):=by
 classical
 rcases h with ⟨r,fuel,h,h1,h2⟩ | ⟨h,_⟩
 ·obtain ⟨f,rfl,e⟩:=h.go hL
  obtain ⟨s1,s2⟩:=IX (next:=next) (new:=new) (n:=number+1) H h.ok h.fact h.sim (fun q hq=>(y q).1 (h1 q hq)) (fun q hq hl a1 t hf=>h2 q ((y q).2 ⟨hq,hl⟩) a1 t hf) hn I;have a6:=h.XD;have hl:=h.len;obtain ⟨o1,o2⟩:=h.V6 H (number+1);refine ⟨fun hz=>?_,fun hz=>?_⟩
  ·subst hz
   simp only [List.length_nil,Nat.add_zero] at s2;rw [if_neg (by omega),if_pos (by omega)] at e;simp only [List.append_nil,List.length_nil,List.replicate_zero] at s1;exact .inr ⟨rfl,_,302,s1,o1,o2,by omega,by have:=h.num; omega,by omega,by rw [e,show rs.length+1 - (L+1)=rs.length - L by omega]⟩
  ·have hp:0 < new.length:=List.length_pos_iff.2 hz
   rw [if_neg (by omega),if_neg (by omega)] at e;have a7:=h.fu;have a8:=h.num;refine .inl ⟨_,f,⟨s1,o1,o2,by omega,by omega,by omega,by rw [e,show rs.length+1 - L=rs.length - L+1 by omega]⟩,fun q hq=>(List.mem_filter.1 hq).1,fun q hq a2 t hf=>?_⟩;have a3:∀ p ∈ q.body,p.no=false→∀ t ∈ new,t.name ≠ p.atom.name:=fun p hp a4 t ht he=>a2 (List.mem_filter.2 ⟨hq,List.any_eq_true.2 ⟨p,hp,by simp [a4]; exact ⟨t,ht,he⟩⟩⟩)
   have J:=NV a3 hf;by_cases hm:t ∈ fs
   ·exact Ξ _ hm
   ·by_cases U:q ∈ next
    ·exact Ω _ ((I t).2 ⟨hm,q,U,J⟩)
    ·exact absurd (h2 q hq U t J) hm
 ·exact absurd h a0
theorem D.ru.over (H:x9 rs) (U:L≤rs.length) (y:OwnAt rs L own) (h:ru rs given L own next fs rn number) {new:List A} (J:next ≠ []) (hn:new.Nodup) (I:∀ t ∈ new,t ∉ fs∧∃ q ∈ next,lU fs q t) (hm:300 < fs.length+new.length):(iO rs given).2=false:=by
 rcases h with ⟨r,fuel,h,h1,h2⟩ | ⟨h,_⟩
 ·obtain ⟨f,rfl,e⟩:=h.go U
  have:=V4 (n:=number+1) H h.ok h.fact h.sim (fun q hq=>(y q).1 (h1 q hq)) hn I hm;rw [e,if_pos this]
 ·exact absurd h J
theorem D.rq.fin (H:x9 rs) (h:rq rs given rs.length fs rn number):(iO rs given).2=true∧XP fs rn (iO rs given).1∧qG (iO rs given).1∧(∀ x ∈ fs,bG x)∧fs.length≤300:=by
 have I:OwnAt rs rs.length []:=fun q=>⟨fun h=>by simp at h,fun ⟨h1,y⟩=>by have:=Yy H h1; omega⟩
 obtain ⟨r,fuel,y⟩:=(h.enter (own:=[])).done H ν I;have e:=y.run;rw [Nat.sub_self,D8] at e;have hf:=y.XD;exact ⟨by rw [e],by rw [e]; exact y.sim,by rw [e]; exact y.ok,y.facts,by have:=y.len; omega⟩
end
end
end Go.Proofs.YtkjinanbccloeaaGreatDoor
