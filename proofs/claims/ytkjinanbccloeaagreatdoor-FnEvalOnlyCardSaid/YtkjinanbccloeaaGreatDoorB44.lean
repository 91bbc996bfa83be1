/- Of the proof of FnEvalOnly: OncI. -/
import Derived.Test.YtkjinanbccloeaaGreatDoorB42
set_option linter.unusedVariables false
set_option maxHeartbeats 4000000
set_option maxRecDepth 100000
namespace Go.Proofs.YtkjinanbccloeaaGreatDoor
open Go.RowKit D
attribute [local go_sem ↓] Go.wp_at_zero Go.wp_at_succ
theorem D.yE {E:List Fe} {mf:Nat} {w:World} (h:gm isStr mf (E.map Fe.kv) w):(E.map (·.t)).Nodup∧E.Nodup∧∀ x ∈ E,∀ y ∈ E,bU x.t=bU y.t→x=y:=by
 have h1:=h.once;rw [List.pairwise_map] at h1;have U:E.Pairwise fun x y=>bU x.t ≠ bU y.t:=h1.imp fun {a b} I e=>I (by unfold Fe.kv; rw [e])
 refine ⟨List.pairwise_map.2 (U.imp fun {a b} I e=>I (by rw [e])),U.imp fun {a b} I e=>I (by rw [e]),fun x hx y hy e=>?_⟩;obtain ⟨i,hi,rfl⟩:=List.getElem_of_mem hx;obtain ⟨j,hj,rfl⟩:=List.getElem_of_mem hy
 rcases Nat.lt_trichotomy i j with J | J | J
 ·exact absurd e (List.pairwise_iff_getElem.1 U i j hi hj J)
 ·subst J; rfl
 ·exact absurd e.symm (List.pairwise_iff_getElem.1 U j i hj hi J)
theorem D.QJ {E:List Fe} {w0:World} {U:Nat} {w:World} (h:gm isStr U (E.map Fe.kv) w) {xs:List (vg E w0)} (hc:sU (E.map Fe.kv) xs):(xs.map (·.1)).Perm E:=by
 obtain ⟨h1,h2,h3⟩:=yE h
 have hn:(xs.map (·.1)).Nodup:=by
  refine List.pairwise_map.2 ?_;have:=hc.1;rw [List.nodup_iff_pairwise_ne,List.pairwise_map] at this;exact this.imp fun {a b} J e=>J (by rw [e])
 refine (List.perm_ext_iff_of_nodup hn h2).2 fun x=>⟨fun I=>?_,fun I=>?_⟩
 ·obtain ⟨y,_,rfl⟩:=List.mem_map.1 I
  exact y.2.1
 ·obtain ⟨y,hy,e⟩:=hc.2 x.kv (List.mem_map.2 ⟨x,I,rfl⟩)
  unfold Fe.kv at e;have:x=y.1:=h3 x I y.1 y.2.1 (by simpa using e);exact List.mem_map.2 ⟨y,hy,this.symm⟩
theorem N9 (b:Nat) (w:World):Calls Tryz.prog 63 #[.map (some b)] w fun e w'=>e=.returned (.func (.func 123) #[] #[.pointer (some ⟨w.heap.size,0,none⟩)])∧w'=w.alloc (.cells #[.map (some b)] 102):=
 (callsIn_wide (n:=3)).1 (values_in _ 3 trivial rfl b w)
def D.Got (E:List Fe) (w w':World) (v:Value):Prop:=∃ xs:List (vg E w),sU (E.map Fe.kv) xs∧w'.ownsRow w.heap.size 33 2 v xs.length (xE xs)∧Below w.heap.size w w'
theorem EM (I y:Nat) (E:List Fe) (w:World) (hm:w.cell? ⟨I,0,none⟩=some (.map (some y))) (U:gm isStr y (E.map Fe.kv) w) (hT:iT y w) (hE:∀ x ∈ E,aI x.t∧aG w [.string x.t.name,x.c1] x.t x.ba) (hN:E.length≤100000000000):
  Calls Tryz.prog 181 #[.slice none 0 0,.func (.func 123) #[] #[.pointer (some ⟨I,0,none⟩)]] w fun e w'=>∃ v,e=.returned v∧Got E w w' v:=by
 refine ((callsIn_wide (n:=3)).1 (appendSeq_in _ 3 trivial trivial rfl ν I y E w (E.map Fe.kv) w hm U hT (fun p hp=>?_) (by simp [maxLen]; omega) (by simp; omega))).mono ?_
 ·obtain ⟨x,J,rfl⟩:=List.mem_map.1 hp
  exact ⟨⟨x,J,hE x J⟩,rfl⟩
 ·rintro e w' ⟨xs,v,rfl,h1,h2,h3⟩
  exact ⟨v,rfl,xs,h1,h2,h3⟩
theorem LP (I y:Nat) (E:List Fe) (w:World) (hm:w.cell? ⟨I,0,none⟩=some (.map (some y))) (J:gm isStr y (E.map Fe.kv) w) (U:iT y w) (hE:∀ x ∈ E,aI x.t∧aG w [.string x.t.name,x.c1] x.t x.ba) (hN:E.length≤100000000000):
  Calls Tryz.prog 122 #[.func (.func 123) #[] #[.pointer (some ⟨I,0,none⟩)]] w fun e w'=>∃ v,e=.returned v∧Got E w w' v:=by
 have c1:=EM I y E w hm J U hE hN;clear hm J U hE hN
 go_enter Tryz.func122,Tryz.ntmps122
 go_wp2_with fail
 refine c1.mono ?_;rintro e w1 ⟨v,rfl,hG⟩;have HG:=η hG;obtain ⟨xs,_,⟨_,h⟩,_⟩:=hG
 have hv:∃ p n c,v=.slice p n c:=by
  rcases h with ⟨rfl,_⟩ | ⟨g,cap,_,rfl,_⟩
  ·exact ⟨_,_,_,rfl⟩
  ·exact ⟨_,_,_,rfl⟩
 obtain ⟨p,n,c,rfl⟩:=hv;clear h c1;go_wp2;go_ret;exact ⟨_,rfl,HG.out⟩
theorem D.UK {E:List Fe} {U:List A} (h1:(E.map (·.t)).Nodup) (y:∀ x ∈ E,x.t ∈ U):E.length≤U.length:=by
 classical
 have:=mW h1 (l2:=U) fun t I=>by
  obtain ⟨x,J,rfl⟩:=List.mem_map.1 I;exact y x J
 simpa using this
theorem D.UL {w:World} {base y e n k:Nat} {v:Value} {L:List Value} (h:w.ownsRow base e n v k L) (J:y≤base):w.ownsRow y e n v k L:=by
 refine ⟨h.1,h.2.imp id ?_⟩;rintro ⟨g,cap,I,h1,U,h3⟩;exact ⟨g,cap,I,h1,τ J U,h3⟩
theorem D.UM {E:List Fe} {w w1:World} {v:Value} {a6 mf:Nat} (h:Got E w w1 v) (hL:gm isStr mf (E.map Fe.kv) w) (hE:∀ x ∈ E,aI x.t∧aG w [.string x.t.name,x.c1] x.t x.ba) (hN:New a6 w (E.flatMap (·.ba))) (ha:a6≤w.heap.size):
  Below w.heap.size w w1∧∃ L ts bs,aZ 2 aG a6 33 w1 v L ts bs∧ts.Perm (E.map (·.t))∧bs.Perm (E.flatMap (·.ba))∧New a6 w1 bs∧(∀ x,v.ownBlock=some x→w.heap.size≤x):=by
 obtain ⟨xs,hA,U,hb⟩:=h;have hp:=QJ hL hA
 have hR:=yD (w:=w1) (zs:=xs.map fun x=>(⟨x.1.t,x.1.c1,x.1.ba⟩:Fq)) fun z hz=>by
  obtain ⟨x,_,rfl⟩:=List.mem_map.1 hz;exact aj.below x.2.2.2 hb
 have e1:(xs.map fun x=>(⟨x.1.t,x.1.c1,x.1.ba⟩:Fq)).flatMap (·.cs)=xE xs:=by rw [List.flatMap_map]; rfl
 have e2:(xs.map fun x=>(⟨x.1.t,x.1.c1,x.1.ba⟩:Fq)).map (·.t)=(xs.map (·.1)).map (·.t):=by rw [List.map_map,List.map_map]; rfl
 have e3:(xs.map fun x=>(⟨x.1.t,x.1.c1,x.1.ba⟩:Fq)).flatMap (·.ba)=(xs.map (·.1)).flatMap (·.ba):=by rw [List.flatMap_map,List.flatMap_map]
 rw [e1,e2,e3] at hR;have y:((xs.map (·.1)).flatMap (·.ba)).Perm (E.flatMap (·.ba)):=hp.flatMap_right _
 have I:∀ x,v.ownBlock=some x→w.heap.size≤x:=fun x hx=>by
  rcases U.2 with ⟨rfl,_⟩ | ⟨g,cap,a0,rfl,hg,_⟩
  ·simp [Value.ownBlock] at hx
  ·have:g=x:=by simpa [Value.ownBlock] using hx
   omega
 refine ⟨hb,xE xs,(xs.map (·.1)).map (·.t),(xs.map (·.1)).flatMap (·.ba),⟨?_,hR,fun b J e=>?_⟩,hp.map _,y,⟨y.nodup_iff.2 hN.nodup,fun b J=>?_⟩,I⟩
 ·rw [List.length_map,List.length_map]
  exact UL U ha
 ·have h1:=hN.lt (y.mem_iff.1 J)
  have:=I b e;omega
 ·have h1:=hN.own b (y.mem_iff.1 J)
  refine ⟨h1.1,?_⟩;rw [hb.block b (hN.lt (y.mem_iff.1 J))];exact h1.2
theorem D5 (a6 mf Bm:Nat) (told U:List A) (fb:List Nat) (w:World) (F:lX a6 mf w told fb) (hm:w.cell? ⟨Bm,0,none⟩=some (.map (some mf))) (hU:∀ t ∈ told,t ∈ U) (a2:U.length≤100000000000) (ha:a6≤w.heap.size):
  Calls Tryz.prog 62 #[.func (.func 123) #[] #[.pointer (some ⟨Bm,0,none⟩)],.func (.func 64) #[] #[]] w fun e w'=>
   Below w.heap.size w w'∧∃ v I bs,e=.returned v∧aU w' [v] I bs∧New a6 w' bs∧fK I=true∧(∀ t ∈ I,aI t)∧∀ t,t ∈ I ↔ t ∈ told:=by
 obtain ⟨E,h1,h2,h3,h4⟩:=F.map;have hE:∀ x ∈ E,aI x.t∧aG w [.string x.t.name,x.c1] x.t x.ba:=fun x hx=>⟨(h2 x hx).2.1,(h2 x hx).2.2.1⟩
 have a3:E.length≤100000000000:=τ (UK (yE h1).1 fun x hx=>hU _ (h2 x hx).1) a2;have c1:=LP Bm mf E w hm h1 F.tm hE a3;have HG:=η fun w1 v (hg:Got E w w1 v)=>UM hg h1 hE h4 ha
 have HM:Hid ((E.map (·.t)).Nodup∧∀ t,t ∈ E.map (·.t) ↔ t ∈ told):=η ⟨(yE h1).1,fun t=>⟨fun ht=>by
  obtain ⟨x,hx,rfl⟩:=List.mem_map.1 ht
  exact (h2 x hx).1,fun ht=>by
  obtain ⟨x,hx,e⟩:=h3 t ht
  exact List.mem_map.2 ⟨x,hx,sN (h2 x hx).2.1.ok (F.tok t ht).ok e⟩⟩⟩
 have HT:=η F.tok;clear hm h1 h2 h3 h4 F hE hU a2
 go_enter Tryz.func62,Tryz.ntmps62
 go_wp2_with fail
 refine c1.mono ?_;rintro e w1 ⟨v,rfl,hG⟩;obtain ⟨y,L,I,bs,hC,a0,a4,hN,hO⟩:=HG.out w1 v hG
 have hv:∃ p n c,v=.slice p n c:=by
  rcases hC.own.2 with ⟨rfl,_⟩ | ⟨g,cap,_,rfl,_⟩
  ·exact ⟨_,_,_,rfl⟩
  ·exact ⟨_,_,_,rfl⟩
 have c2:=Il I v L bs a6 w1 hC (by have:=a0.length_eq; simp at this; omega)
 have HR:Hid (∀ J ys L' bs',ys.Perm I→ys.Pairwise (fun a b=>¬ dD b a < 0)→bs'.Perm bs→aZ 2 aG a6 33 J v L' ys bs'→dQ (fun x=>v.ownBlock=some x) w1 J→
   Below w.heap.size w J∧∃ v' I bs,v=v'∧aU J [v'] I bs∧New a6 J bs∧fK I=true∧(∀ t ∈ I,aI t)∧∀ t,t ∈ I ↔ t ∈ told):=η fun J ys L' bs' q1 q2 q3 q4 q5=>by
  have a5:Below w.heap.size w J:=⟨q5.os.trans y.os,q5.tape.trans y.tape,q5.output.trans y.output,τ y.size q5.size,fun k hk=>(q5.block k (κ hk y.size) fun e=>by have:=hO k e; omega).trans (y.block k hk)⟩
  have a7:New a6 J bs':=⟨q3.nodup_iff.2 hN.nodup,fun b hb=>by
   have h1:=hN.own b (q3.mem_iff.1 hb);refine ⟨h1.1,?_⟩;rw [q5.block b (hN.lt (q3.mem_iff.1 hb)) (fun e=>hC.far b (q3.mem_iff.1 hb) e)]
   exact h1.2⟩
  obtain ⟨b2,g1,g2⟩:=q4.new a7;have a1:∀ t,t ∈ ys ↔ t ∈ told:=fun t=>by rw [q1.mem_iff,a0.mem_iff,HM.out.2]
  have hok:∀ t ∈ ys,aI t:=fun t ht=>HT.out t ((a1 t).1 ht)
  exact ⟨a5,v,ys,b2,rfl,g1,g2,DY hok ((q1.trans a0).nodup_iff.2 HM.out.1) q2,hok,a1⟩
 obtain ⟨p,n,c,rfl⟩:=hv;clear c1 hC a0 a4 hN hO hG y HG HM HT
 go_wp2_with fail
 refine c2.mono ?_;rintro e J ⟨rfl,ys,L',bs',q1,q2,q3,q4,q5⟩;have HZ:=η (HR.out J ys L' bs' q1 q2 q3 q4 q5);clear c2 HR q1 q2 q3 q4 q5;go_wp2;go_ret;obtain ⟨z1,v',a8,a9,rfl,z2⟩:=HZ.out;exact ⟨z1,_,a8,a9,rfl,z2⟩
theorem D.QK {rs:List Ru} {xs:List A} (h:eF rs xs=true):dV rs=0∧fK xs=true∧(∀ x ∈ xs,aI x)∧xs.length≤300:=by
 have h0:=h;unfold eF jy at h;simp only [ο,decide_eq_true_eq,List.all_eq_true] at h;exact ⟨h.1.1,h.1.2.2,fun x y=>sV (h.1.2.1.2 x y),h.1.2.1.1⟩
theorem D.QL {rs:List Ru} {xs:List A} (h:eF rs xs=true):(qB rs xs).length≤100000000000:=by
 have y:=EH h;have h1:=NI (list:=xs) (level:=0) (B:=8100000000) (rl:=rs.zip (List.replicate rs.length 0)) fun p I=>DI y.n (y.rules p.1 (List.of_mem_zip I).1).1
 have J:(rs.zip (List.replicate rs.length 0)).length≤8:=by simp; exact y.m
 have U:=Nat.mul_le_mul_right 8100000000 J;unfold qB;omega
structure D.UN (rs:List Ru) (xs:List A) (w0:World) (sb a6 mf:Nat) (k:Nat) (wr:World):Prop where
 st:∃ told fb,lX a6 mf wr told fb∧(∀ x ∈ fb,w0.heap.size≤x)∧∀ t,t ∈ told ↔ ∃ r ∈ rs.take k,ja xs r t
 oK:∃ rn bs,jv sb xs rn bs wr∧mf ∉ bs
 bel:Below w0.heap.size w0 wr
theorem D.UO {rs:List Ru} {xs:List A} {k:Nat} (h:k < rs.length) (t:A):(∃ r ∈ rs.take (k+1),ja xs r t) ↔ (∃ r ∈ rs.take k,ja xs r t)∨ja xs rs[k] t:=by
 rw [ρ h];constructor
 ·rintro ⟨r,hr,hf⟩
  rcases μ.1 hr with hr | hr
  ·exact .inl ⟨r,hr,hf⟩
  ·rw [List.mem_singleton.1 hr] at hf; exact .inr hf
 ·rintro (⟨r,hr,hf⟩ | hf)
  ·exact ⟨r,Ξ _ hr,hf⟩
  ·exact ⟨_,Ω _ (List.mem_singleton.2 rfl),hf⟩
theorem QM (rs:List Ru) (xs:List A) (v1 v2:Value) (b1 b2:List Nat) (w:World) (h:dS w [v1] rs b1) (h2:aU w [v2] xs b2) (hg:oV w):
  Calls Tryz.prog 17 #[v1,v2] w (Makes aU (rJ rs xs) w.heap.size w):=by
 have c1:=tX rs xs v1 v2 b1 b2 w h h2 hg;obtain ⟨Ad,cap,rfl,ac,ae⟩:=ak h;obtain ⟨b5,cap2,rfl,_,_⟩:=ak h2;have b4:=aA (τ ac ae);have HH:=η (ι h h2);clear h h2 hg ac ae;cases hf:eF rs xs
 ·have HV:Hid (rJ rs xs = []):=η (by unfold rJ; rw [hf]; rfl)
  rw [hf] at c1;clear hf
  go_enter Tryz.func17,Tryz.ntmps17
  go_wp2_with fail
  refine c1.mono ?_;rintro e w1 ⟨rfl,a2⟩;have HB:=η a2;clear c1 a2;go_wp2;go_ret;rw [HV.out];exact ⟨HB.out,_,[],rfl,⟨_,_,rfl,ν,ε,fun _=>rfl,fun h=>absurd rfl h⟩,New.nil _ _⟩
 ·obtain ⟨hp,a7,hok,aw⟩:=QK hf
  have HV:Hid (rJ rs xs=qB rs xs):=η (by unfold rJ; rw [hf]; rfl);have HL:=η (QL hf);have HR:Hid (∀ r ∈ rs,jC r):=η fun r hr=>KX hp hr
  have HO:Hid (fK (qB rs xs)=true∧(∀ t ∈ qB rs xs,aI t)∧∀ t,t ∈ qB rs xs ↔ ∃ r ∈ rs,ja xs r t):=η (Gj hok HR.out);have HX:Hid ((∀ x ∈ xs,aI x)∧xs.Pairwise (fun a b=>a ≠ b)∧xs.length≤1000000):=η ⟨hok,iG a7,by omega⟩;rw [hf] at c1;clear hf hp a7 hok aw
  go_enter Tryz.func17,Tryz.ntmps17
  go_wp2_with fail
  refine c1.mono ?_;rintro e w1 ⟨rfl,a2⟩;have a9:=η a2;clear c1 a2
  go_wp2_with fail
  refine (KT xs _ b2 w1 (au.below HH.out.2 a9.out) HX.out.1 HX.out.2.1 HX.out.2.2).mono ?_;rintro e J ⟨rfl,af,rn,bs,hS,az⟩;have aD:=@run_makeMap Tryz.prog;have a3:=η (a9.out.trans (af.mono a9.out.size));have HS:=η hS;have aa:Hid (∀ x ∈ bs,x < J.heap.size):=η hS.lt;obtain ⟨sb,ag⟩:∃ sb,sb=w1.heap.size+2:=⟨_,rfl⟩;rw [← ag] at HS ⊢;clear af hS az ag;go_wp2
  have ab:Hid (UN rs xs w sb (J.heap.size+1) J.heap.size 0 ((J.alloc (.map #[] 0)).alloc (.cells #[.map (some J.heap.size)] 102))):=η (by
   have U:Below J.heap.size J ((J.alloc (.map #[] 0)).alloc (.cells #[.map (some J.heap.size)] 102)):=(ζ).alloc (by simp) _;have am:((J.alloc (.map #[] 0)).alloc (.cells #[.map (some J.heap.size)] 102)).heap[J.heap.size]? = (J.alloc (.map #[] 0)).heap[J.heap.size]?:=Below.heap_alloc _ _ _ (by simp)
   have aE:((J.alloc (.map #[] 0)).alloc (.cells #[.map (some J.heap.size)] 102)).heap[J.heap.size+1]? = some (.cells #[.map (some J.heap.size)] 102 (0,0)):=by
    have:=ω (J.alloc (.map #[] 0)) (.cells #[.map (some J.heap.size)] 102);simpa using this
   refine ⟨⟨[],[J.heap.size+1,J.heap.size],lX.made aE ((gm.made J).same am) ((iT.made J).same am) (by omega),fun x hx=>?_,fun t=>by simp⟩,⟨rn,bs,HS.out.keep (fun x hx=>U.block x (aa.out x hx)) U.size,fun hm=>by have:=aa.out _ hm; omega⟩,a3.out.trans (U.mono a3.out.size)⟩;have:=a3.out.size;simp at hx
   rcases hx with rfl | rfl <;> omega)
  have HZ:Hid (w.heap.size≤J.heap.size):=η a3.out.size;obtain ⟨mf,ao⟩:∃ mf,mf=J.heap.size:=⟨_,rfl⟩;rw [← ao] at ab HZ ⊢;generalize ((J.alloc (.map #[] 0)).alloc (.cells #[.map (some mf)] 102))=W at *;clear HS aa a3 aD ao
  go_loopw [18] (fun i wr=>∃ k:Nat,k≤rs.length∧i=.int .i64 k∧UN rs xs w sb (mf+1) mf k wr) (fun i _=>rs.length - (intOf i).toNat)
  case atStart=>exact ⟨0,ε,rfl,ab.out⟩
  case round=>
   obtain ⟨k,hk,rfl,hI⟩:=hrel;clear ab;by_cases a4:k < rs.length
   ·have b6:(0:Int)≤(k:Int):=by omega
    have aL:(k:Int) < (rs.length:Int):=by omega
    obtain ⟨bq,oq,Ae,ce,Af,cf,bk,rfl,_,f0,f1,f2,ap,a8⟩:=gy (bJ.below HH.out.1 hI.bel) a4;obtain ⟨⟨told,fb,hF,a5,I⟩,⟨aq,bs',hS,a6⟩,y⟩:=hI;have U:Below wr.heap.size wr (wr.alloc (.cells #[.string rs[k].head.name,.slice Ae rs[k].head.args.length ce,.slice Af rs[k].body.length cf] 40)):=ζ
    have a0:=DW sb xs aq bs' rs[k] (.string rs[k].head.name) (.slice Ae rs[k].head.args.length ce) (.slice Af rs[k].body.length cf) bk (UF (mf+1) mf) told fb _ (hS.keep (fun x hx=>U.block x (hS.lt x hx)) U.size) HX.out.1 HX.out.2.2 (aV.below ap U) (HR.out _ (δ a4)) (hF.keep (fun x hx=>U.block x (hF.lt x hx)) U.size) (fun x hx e=>a6 (e ▸ hx)) (fun x hx e=>by
     have h1:=bJ.lt HH.out.1 x (a8 x hx);have h2:=HZ.out
     omega)
    have HN:Hid (∀ w9 ts a1,lX (mf+1) mf w9 (told ++ ts) a1→(∀ x ∈ a1,x ∈ fb∨(wr.alloc (.cells #[.string rs[k].head.name,.slice Ae rs[k].head.args.length ce,.slice Af rs[k].body.length cf] 40)).heap.size≤x)→dQ (fun k=>k=mf) (wr.alloc (.cells #[.string rs[k].head.name,.slice Ae rs[k].head.args.length ce,.slice Af rs[k].body.length cf] 40)) w9→(∀ t ∈ ts,ja xs rs[k] t)→(∀ t,ja xs rs[k] t→t ∈ ts)→UN rs xs w sb (mf+1) mf (k+1) w9):=η fun w9 ts a1 q1 q2 q3 q4 q5=>by
     have aM:=y.size;have hz:=HZ.out;refine ⟨⟨told ++ ts,a1,q1,fun x hx=>?_,fun t=>?_⟩,⟨aq,bs',(hS.keep (fun x hx=>U.block x (hS.lt x hx)) U.size).keep (fun x hx=>q3.block x (by have:=hS.lt x hx; have:=U.size; omega) fun e=>a6 (e ▸ hx)) q3.size,a6⟩,⟨q3.os.trans (U.os.trans y.os),q3.tape.trans (U.tape.trans y.tape),q3.output.trans (U.output.trans y.output),τ aM (τ U.size q3.size),fun x hx=>(q3.block x (by have:=U.size; omega) (by omega)).trans ((U.block x (by omega)).trans (y.block x hx))⟩⟩
     ·rcases q2 x hx with h1 | h1
      ·exact a5 x h1
      ·have:=U.size; omega
     ·rw [μ,I,UO a4]
      exact or_congr Iff.rfl ⟨q4 t,q5 t⟩
    have ar:=η a4;clear hF a5 I hS a6 y U ap a8 hk;generalize rs[k]=r at *;obtain ⟨⟨b7,ra⟩,rb⟩:=r;dsimp only at *;clear a4
    go_wp2_with fail
    refine a0.mono ?_;rintro e w9 ⟨rfl,ts,a1,more,q1,q2,q3,q4,q5,q6⟩
    have av:more=true:=by
     cases more
     ·exact absurd (q6 rfl) (by decide)
     ·rfl
    have aR:=η (HN.out w9 ts a1 q1 q2 q3 q4 (q5 av));clear a0 HN q1 q2 q3 q4 q5 q6 av;go_wp2;go_roundw
    case rel=>exact ⟨k+1,ar.out,by go_num,aR.out⟩
    case measure=>have:=ar.out; simp [intOf]; omega
   ·have he:k=rs.length:=by omega
    have aL:¬ (k:Int) < (rs.length:Int):=by omega
    obtain ⟨⟨told,fb,hF,a5,I⟩,_,y⟩:=hI;rw [he,ϕ ν] at I;have y0:wr.cell? ⟨mf+1,0,none⟩=some (.map (some mf)):=ai hF.box;have U:Below wr.heap.size wr (wr.alloc (.cells #[.map (some mf)] 102)):=ζ;have a0:=D5 (mf+1) mf wr.heap.size told (qB rs xs) fb _ (hF.keep (fun x hx=>U.block x (hF.lt x hx)) U.size) (ai (ω wr (.cells #[.map (some mf)] 102))) (fun t ht=>(HO.out.2.2 t).2 ((I t).1 ht)) HL.out (by have:=hF.lt _ hF.own.1; simp; omega)
    have HN:Hid (∀ w9 v ts bs,Below (wr.alloc (.cells #[.map (some mf)] 102)).heap.size (wr.alloc (.cells #[.map (some mf)] 102)) w9→aU w9 [v] ts bs→New (mf+1) w9 bs→fK ts=true→(∀ t ∈ ts,aI t)→(∀ t,t ∈ ts ↔ t ∈ told)→Makes aU (rJ rs xs) w.heap.size w (.returned v) w9):=η fun w9 v ts bs q1 q2 q3 q4 q5 q6=>by
     have e:ts=qB rs xs:=KZ q4 HO.out.1 q5 HO.out.2.1 fun t=>by rw [q6,I,HO.out.2.2]
     rw [HV.out,← e];exact ⟨(y.trans (U.mono y.size)).trans (q1.mono (τ y.size U.size)),v,bs,rfl,q2,q3.mono (by have:=HZ.out; omega)⟩
    have cv:=N9 mf wr;clear hF a5 I y U hk HO HV HX HR HL he
    go_wp2_with fail
    refine cv.mono ?_;rintro e w8 ⟨rfl,rfl⟩;clear cv y0
    go_wp2_with fail
    refine a0.mono ?_;rintro e w9 ⟨q1,v,ts,bs,rfl,q2,q3,q4,q5,q6⟩;have b3:=η (HN.out w9 v ts bs q1 q2 q3 q4 q5 q6);obtain ⟨p9,n9,rfl,_⟩:=ak q2;clear a0 HN q1 q2 q3 q4 q5 q6;go_wp2;go_ret;exact b3.out
end Go.Proofs.YtkjinanbccloeaaGreatDoor
