/- Of the proof of FnExactProofOk: Inv, JFnExactProofOk, Sz, To, CopyB, Str, CollN, EqA, CmpS, PutP. -/
import Derived.Test.YtlmngncogomgeaaGreatDoorM02
import Derived.Test.YtlmngncogomgeaaGreatDoorRows
import Derived.Test.YtlmngncogomgeaaGreatDoorM01
set_option linter.unusedVariables false
set_option maxHeartbeats 1000000
namespace Go.Proofs.YtlmngncogomgeaaGreatDoor
section
open Go
def D.dn (listed:Array Bool) (j:Nat):Bool:=listed.getD j false
theorem D.Fj (listed:Array Bool) (i j:Nat) (hi:i < listed.size):dn (listed.setIfInBounds i true) j=if j=i then true else dn listed j:=by
 unfold dn;by_cases h:j=i
 ·subst h
  simp [Array.getD,hi]
 ·rw [if_neg h]
  simp only [Array.getD_eq_getD_getElem?,Array.getElem?_setIfInBounds_ne (Ne.symm h)]
def D.Qq (I:Region.Mode) (y:Array Oper):Bool:=(List.range y.size).all fun i=>((y[i]?).map fun o=>o.after.all fun e=>!Region.binds I e || decide (e.on < i)).getD true
theorem D.Oa {P:Program} {y:Array Oper} {md:Region.Mode} {Q:Exit→Act→World→Prop} (J:(Nat→Bool)→Act→World→Prop) (a4:D.Qq md y=true)
  (a5:∀ i o,y[i]? = some o→∀ f a w,J f a w→f i=false→(o.after.all fun e=>!Region.binds md e || f e.on)=true→wpOp P y Q i (J fun j=>if j=i then true else f j) a w)
  (a1:∀ f a w,(∀ i,i < y.size→f i=true)→J f a w→Q .normal a w):
  ∀ (fuel:Nat) (listed:Array Bool) (a:Act) (w:World),listed.size=y.size→((List.range y.size).countP fun i=>!dn listed i)≤fuel→J (dn listed) a w→wpAny P md y Q fuel listed a w:=by
 have U:∀ (listed:Array Bool) (i:Nat),listed.size=y.size→i ∈ Region.ready md y listed→∃ o,y[i]? = some o∧i < y.size∧dn listed i=false∧(o.after.all fun e=>!Region.binds md e || dn listed e.on)=true:=by
  intro listed i hs hi;unfold Region.ready at hi;obtain ⟨h1,h2⟩:=List.mem_filter.1 hi;have I:=List.mem_range.1 h1;obtain ⟨o,ho⟩:∃ o,y[i]? = some o:=⟨y[i],Array.getElem?_eq_getElem I⟩;rw [ho] at h2;simp only [Option.map_some,Option.getD_some,ο] at h2;refine ⟨o,ho,I,?_,h2.2⟩;have h3:=h2.1;unfold dn;have a6:i < listed.size:=by omega
  simp only [Array.getD,a6,dif_pos,Bool.not_eq_true'] at h3 ⊢;exact h3
 have a2:∀ (listed:Array Bool),listed.size=y.size→Region.ready md y listed = []→∀ i,i < y.size→dn listed i=true:=by
  intro listed hs hr i
  induction i using Nat.strongRecOn with
  | _ i ih=>
   intro I
   cases hd:dn listed i with
   | true=>rfl
   | false=>
    exfalso
    have:i ∈ Region.ready md y listed:=by
     unfold Region.ready;refine List.mem_filter.2 ⟨List.mem_range.2 I,?_⟩;have a6:i < listed.size:=by omega
     unfold dn at hd;rw [Array.getElem?_eq_getElem I];simp only [Array.getD,a6,dif_pos] at hd ⊢;simp only [Option.map_some,Option.getD_some,hd,Bool.not_false,Bool.true_and,Array.all_eq_true];intro k hk;have hb:=a4;unfold Qq at hb;have a7:=ό.1 hb i (List.mem_range.2 I);rw [Array.getElem?_eq_getElem I] at a7;simp only [Option.map_some,Option.getD_some,Array.all_eq_true] at a7;have a8:=a7 k hk
     cases hbi:Region.binds md (y[i]).after[k] with
     | false=>simp
     | true=>
      rw [hbi] at a8;have a9:((y[i]).after[k]).on < i:=by simpa using a8
      have:=ih _ a9 (by omega);unfold dn at this;simp only [Bool.not_true,Bool.false_or];exact this
    rw [hr] at this;cases this
 intro fuel
 induction fuel with
 | zero=>
  intro listed a w hs hc hJ;have hz:∀ i ∈ List.range y.size,¬ (!dn listed i)=true:=List.countP_eq_zero.1 (Nat.le_zero.1 hc)
  have a0:Region.ready md y listed = []:=by
   cases hr:Region.ready md y listed with
   | nil=>rfl
   | cons i rs=>
    obtain ⟨o,ho,I,hf,_⟩:=U listed i hs (by rw [hr]; exact Γ);exact absurd (by simp [hf]) (hz i (List.mem_range.2 I))
  exact ⟨a0,a1 _ a w (a2 listed hs a0) hJ⟩
 | succ fuel ih=>
  intro listed a w hs hc hJ;refine ⟨fun a0=>a1 _ a w (a2 listed hs a0) hJ,fun i hi=>?_⟩;obtain ⟨o,ho,I,hf,aa⟩:=U listed i hs hi;refine wpOp_mono (fun a' w' ab=>ih _ a' w' (by simpa using hs) ?_ ?_) (a5 i o ho (dn listed) a w hJ hf aa)
  ·have h1:∀ (l:List Nat),l.Nodup→i ∈ l→(l.countP fun j=>!dn (listed.setIfInBounds i true) j)+1≤l.countP fun j=>!dn listed j:=by
    intro l
    induction l with
    | nil=>intro _ h; cases h
    | cons x l ihl=>
     intro ac hm;have a3:=List.nodup_cons.1 ac;rw [List.countP_cons,List.countP_cons];by_cases hx:x=i
     ·subst hx
      have e1:(l.countP fun j=>!dn (listed.setIfInBounds x true) j)=l.countP fun j=>!dn listed j:=List.countP_congr fun j hj=>by
       have ae:j ≠ x:=fun e=>a3.1 (by rw [← e]; exact hj)
       rw [Fj _ _ _ (by omega),if_neg ae]
      rw [e1,Fj _ _ _ (by omega),if_pos rfl,hf];simp
     ·have:=ihl a3.2 (by rcases ύ.1 hm with h | h; exact absurd h.symm hx; exact h)
      rw [Fj _ _ _ (by omega),if_neg hx];omega
   have:=h1 _ List.nodup_range (List.mem_range.2 I);omega
  ·have:dn (listed.setIfInBounds i true)=fun j=>if j=i then true else dn listed j:=funext fun j=>Fj _ _ _ (by omega)
   rw [this];exact ab
theorem D.nZ {P:Program} {y:Array Oper} {Q:Exit→Act→World→Prop} {id:Nat} (J:(Nat→Bool)→Act→World→Prop) (hm:P.follows .mixedOrders=true) (I:D.Qq .any y=true) {a:Act} {w:World}
  (h0:J (fun _=>false) a w.drew)
  (U:∀ i o,y[i]? = some o→∀ f a w,J f a w→f i=false→(o.after.all fun e=>!Region.binds .any e || f e.on)=true→wpOp P y Q i (J fun j=>if j=i then true else f j) a w)
  (a0:∀ f a w,(∀ i,i < y.size→f i=true)→J f a w→Q .normal a w):(Code.region id y true).wp P Q a w:=by
 refine wp_region_any hm ?_;refine Oa J I U a0 _ _ _ _ (by simp) ?_ ?_
 ·exact τ List.countP_le_length (by simp)
 ·have:dn (Array.replicate y.size false)=fun _=>false:=funext fun j=>by
   unfold dn;by_cases h:j < y.size
   ·simp [Array.getD,h]
   ·simp [Array.getD,h]
  rw [this];exact h0
theorem wu:Rows.fnExactProofOkRow.wf (OpenSpec.ofChange Rows.fnExactProofOkSpec)=true:=by kernel_rfl
theorem wz:Tryz.f3.params.all (Tryz.prog.readableRec ·)=true:=by kernel_rfl
theorem wB:namedTie Tryz.prog Rows.fnExactProofOkRow.named Rows.fnExactProofOkSpec.vars=true:=by kernel_rfl
theorem wC:(Rows.fnExactProofOkRow.stops == [])=true:=by kernel_rfl
theorem wE:(Tryz.prog.stops == [])=true:=by kernel_rfl
theorem wF:(Rows.fnExactProofOkRow.knobs == [])=true:=by kernel_rfl
theorem wG:(Tryz.prog.stopKnobs == [])=true:=by kernel_rfl
theorem wH:(Rows.fnExactProofOkRow.inPlace == Tryz.prog.inPlace 3)=true:=by kernel_rfl
theorem uf:(Rows.fnExactProofOkRow.unfollowed == Tryz.prog.unfollowed 3)=true:=by kernel_rfl
theorem ug:(Rows.fnExactProofOkRow.recurses == Tryz.prog.recurses 3)=true:=by kernel_rfl
theorem uh:(Rows.fnExactProofOkRow.named == Tryz.prog.varsNamed 3)=true:=by kernel_rfl
theorem uj:(Rows.fnExactProofOkRow.maps == (Tryz.f3.params.toList ++ Rows.fnExactProofOkSpec.plain.varTypes Tryz.prog).any (Tryz.prog.mapsRec ·))=true:=by kernel_rfl
theorem um:(Rows.fnExactProofOkRow.ifaces == (Tryz.f3.params.toList ++ Rows.fnExactProofOkSpec.plain.varTypes Tryz.prog).any (Tryz.prog.ifacesRec ·))=true:=by kernel_rfl
theorem uo:(Rows.fnExactProofOkRow.mapsOut == Tryz.prog.mapsAmong Tryz.f3.resultTypes.toList)=true:=by kernel_rfl
theorem uq:(Rows.fnExactProofOkRow.loops == (Tryz.f3.params.toList ++ Rows.fnExactProofOkSpec.plain.varTypes Tryz.prog).any (Tryz.prog.loopsFrom ·))=true:=by kernel_rfl
theorem uw:(Rows.fnExactProofOkRow.wideKeys == (Tryz.f3.params.toList ++ Rows.fnExactProofOkSpec.plain.varTypes Tryz.prog ++ Tryz.f3.resultTypes.toList).any (Tryz.prog.wideKeysFrom ·))=true:=by kernel_rfl
theorem uy:Rows.fnExactProofOkSpec.vars.all (Tryz.prog.varReadable ·)=true:=by kernel_rfl
theorem uz:Tryz.f3.resultTypes.all (fun t=>Tryz.prog.readableRec t && decide (t < Tryz.prog.types.size))=true:=by kernel_rfl
theorem uD:(Rows.fnExactProofOkRow.ifacesOut == Tryz.f3.resultTypes.toList.any (Tryz.prog.ifacesRec ·))=true:=by kernel_rfl
theorem uF:(Rows.fnExactProofOkRow.loopsOut == Tryz.f3.resultTypes.toList.any (Tryz.prog.loopsFrom ·))=true:=by kernel_rfl
theorem uG:(Rows.fnExactProofOkRow.plainKeys == Tryz.prog.plainKeys)=true:=by kernel_rfl
theorem uH:Rows.fnExactProofOkRow.shortTexts.isNone=true:=by kernel_rfl
theorem uI:(Rows.fnExactProofOkRow.lifted == Tryz.prog.liftsFinal)=true:=by kernel_rfl
theorem uJ:(Tryz.prog.make == some Rows.fnExactProofOkRow.make)=true:=by kernel_rfl
theorem uK:(Rows.fnExactProofOkRow.kinds == PY Tryz.prog Tryz.f3 Rows.fnExactProofOkRow)=true:=by kernel_rfl
theorem uM:(Rows.fnExactProofOkRow.pinned == Rows.fnExactProofOkRow.pinnedBy)=true:=by kernel_rfl
theorem uN:(Rows.fnExactProofOkRow.veiled == (Tryz.f3.params.toList ++ Rows.fnExactProofOkSpec.plain.varTypes Tryz.prog ++ Tryz.f3.resultTypes.toList).any (Tryz.prog.veiledRec ·))=true:=by kernel_rfl
theorem uO:Rows.fnExactProofOkRow.veiledFits Tryz.prog Tryz.f3.params.toList (Tryz.f3.params.toList ++ Rows.fnExactProofOkSpec.plain.varTypes Tryz.prog ++ Tryz.f3.resultTypes.toList)=true:=by kernel_rfl
theorem qK:joinedFacts Tryz.prog 3 Tryz.f3 Rows.fnExactProofOkSpec Rows.fnExactProofOkRow=true:=
 NR wu TJ TK wz wB wC wE wF wG wH uf ug uh uj um uo uq uw uy uz uD uF uG uH PZ P5 uI uJ uK uM uN uO
end
section
open Go.RowKit D
theorem KA (t:T) (left:Int) (w:World) (y:t.name.size≤maxLen) (h0:0≤left) (h1:left≤1048576):
  Calls Tryz.prog 134 #[.agg #[.bool t.var,.string t.name],.int .i64 left] w (Left left t.name.size w.heap.size w):=by
 unfold maxLen at y
 go_enter Tryz.func134,Tryz.ntmps134
 go_wp2
 all_goals go_ret
 ·exact ⟨ζ,_,rfl,.inl rfl⟩
 ·exact ⟨ζ,_,rfl,.inr ⟨by assumption,by omega⟩⟩
theorem Ho (y:List T) (v:Value) (bs:List Nat) (left:Int) (w:World) (h:fD w [v] y bs) (h0:0≤left) (h1:left≤1048576):
  Calls Tryz.prog 75 #[v,.int .i64 left] w (Left left (y.length+iE y) w.heap.size w):=by
 obtain ⟨Ad,cap,rfl,hl,hm⟩:=ai h;have a5:=ay (τ hl hm);clear hm
 go_enter Tryz.func75,Tryz.ntmps75
 go_wp2
 ·go_ret
  exact ⟨ϑ,_,rfl,.inl rfl⟩
 ·go_loopw [1,5] (fun l i wr=>∃ (k:Nat) (m:Int),k≤y.length∧i=.int .i64 k∧l=.int .i64 m∧0≤m∧m≤1048576∧m+y.length+iE (y.take k)=left∧Below w.heap.size w wr) (fun _ i _=>y.length - (intOf i).toNat)
  case atStart=>exact ⟨0,_,ε,rfl,rfl,by assumption,by omega,by simp [iE],ϑ⟩
  case round=>
   obtain ⟨k,m,hk,rfl,rfl,U,a2,I,J⟩:=hrel;have HS:=η I;clear I;by_cases a0:k < y.length
   ·have hw:=aG.below h J
    obtain ⟨b,o,rfl,_,c0,c1,a3⟩:=dN hw a0;have HT:=η (y9 y k a0);clear h hw;generalize y[k]=t at *
    go_wp2_with (go_at_call 134; refine (KA _ _ _ a3 U a2).mono ?_; rintro e w' ⟨a1,r,rfl,hr⟩)
    ·rcases hr with rfl | ⟨_,_⟩
     ·go_ret
      exact ⟨J.trans (a1.mono J.size),_,rfl,.inl rfl⟩
     ·exfalso; omega
    ·rcases hr with rfl | ⟨a4,a6⟩
     ·exfalso; omega
     ·have:=HS.out
      have:=HT.out;go_roundw
      case rel=>exact ⟨k+1,r,by omega,by go_num,rfl,a4,by omega,by omega,J.trans (a1.mono J.size)⟩
      case measure=>simp [intOf]; omega
   ·have he:k=y.length:=by omega
    go_wp2;go_ret;refine ⟨J,_,rfl,.inr ⟨U,?_⟩⟩;have:=HS.out;rw [he,ϕ ν] at this;omega
theorem Qr:(Tryz.prog.info? 154).map (fun i=>(i.zero,i.size,i.bytes))=some (some (.agg #[.bool false,.string ⟨#[]⟩]),2,24):=by kernel_rfl
theorem KC (t:T) (w:World):
  Calls Tryz.prog 137 #[.agg #[.bool t.var,.string t.name]] w fun e w'=>e=.returned (.agg #[.bool t.var,.string t.name])∧Below w.heap.size w w':=by
 go_enter Tryz.func137,Tryz.ntmps137
 go_wp2;exact bodyPost_ret (v:=.agg #[.bool t.var,.string t.name]) (by simp [results,Tryz.results137,go_sem]) rfl ⟨rfl,by repeat (first | exact ϑ | (refine Below.setCell ?_ (by first | (simp; done) | (simp; omega)) _) | (refine Below.alloc ?_ (by first | (simp; done) | (simp; omega)) _))⟩
theorem Hq (y:List T) (v:Value) (bs:List Nat) (w:World) (h:fD w [v] y bs) (hn:y.length≤1048576):
  Calls Tryz.prog 80 #[v] w (Makes fD y w.heap.size w):=by
 obtain ⟨Ad,cap,rfl,hl,hm⟩:=ai h;obtain ⟨i0,hi,a4,a5,a6⟩:=info_parts Qr;clear hm
 go_enter Tryz.func80,Tryz.ntmps80
 go_wp2_with (refine wpList_make_full _ rfl _ _ _ rfl w.heap.size 154 i0 _ 2 Tryz.underlying38 hi a4 a5 _ _ _ _ y.length rfl rfl rfl rfl (by rw [a6]; omega) (by unfold maxLen; omega) ν ?_; intro w1 I J)
 have a2:Below w.heap.size w w1:=ϑ.grown J ν (fun _ e=>by cases e);have a7:w.heap.size < w1.heap.size:=(I.lt _ rfl).2;clear J
 go_loopw [4] (fun i wr=>∃ (k:Nat) (L:List Value) (bs':List Nat),k≤y.length∧i=.int .i64 k∧wr.ownsRow w.heap.size 154 2 (.slice (some ⟨w.heap.size,0,none⟩) y.length y.length) y.length L∧
   fE 2 kQ w1.heap.size wr L y k bs'∧Below w.heap.size w wr∧w1.heap.size≤wr.heap.size) (fun i _=>y.length - (intOf i).toNat)
 case atStart=>exact ⟨0,_,_,ε,rfl,I,fE.start,a2,ν⟩
 case round=>
  obtain ⟨k,L,bs',hk,rfl,a0,hF,hb,a8⟩:=hrel;clear I a2;by_cases a3:k < y.length
  ·have hw:=aG.below h hb
   obtain ⟨b,o,rfl,_,c0,c1,a9⟩:=dN hw a3;have HK:=η hF;clear h hw hF;have hL:=η a0.1
   go_wp2_with (go_at_call 137; refine (KC _ _).mono ?_; rintro e w' ⟨rfl,U⟩; have a1:=own_below a0 U; obtain ⟨⟨u0,aa⟩,ab⟩:=iJ a1 (j:=k * 2) (by omega); obtain ⟨⟨u1,ac⟩,ae⟩:=iJ a1 (j:=k * 2+1) (by omega))
   obtain ⟨R1,R2,R3,R4⟩:=U2 dV a0 HK.out a3 hb U a7 ν a8 (a:=.bool y[k].var) (b:=.string y[k].name) (b2:=[]) ⟨rfl,a9,rfl⟩ (New.nil _ _);go_roundw
   case rel=>exact ⟨k+1,_,_,by omega,by go_num,R1,R2,R3,R4⟩
   case measure=>simp [intOf]; omega
  ·have he:k=y.length:=by omega
   subst he;have HF:=η hF;clear hF;go_wp2;go_ret;obtain ⟨b2,r1,r2,r3,r4⟩:=HF.out.slice a0 (fun hm=>by have:=(HF.out.new.own _ hm).1; omega);refine ⟨hb,_,b2,rfl,r1,r2,fun b U=>⟨?_,r4 b U⟩⟩
   rcases r3 b U with ⟨rfl,h⟩ | h
   ·exact h
   ·have:=(HF.out.new.own b h).1; omega
theorem Ob:(Tryz.prog.info? 154).map (fun i=>(i.zero,i.size,i.bytes))=some (some (.agg #[.bool false,.string ⟨#[]⟩]),2,24):=by kernel_rfl
theorem yA:(Tryz.prog.info? 40).map (fun i=>(i.zero,i.size,i.bytes))=some (some (.agg #[.string ⟨#[]⟩,.slice none 0 0]),2,40):=by kernel_rfl
theorem D.KD (w:World):fD w [.slice none 0 0] [] []:=⟨none,0,rfl,ν,ε,fun _=>rfl,fun h=>absurd rfl h⟩
theorem D.Uc {w:World} {L:List Value} {xs:List T} {y:List Nat} (h:aV 2 kQ w L xs y):y = []:=by
 obtain ⟨_,_,G,rfl,I⟩:=h;rw [List.flatMap_eq_nil_iff];intro j J;obtain ⟨_,_,h⟩:=I j (List.mem_range.1 J);exact h
theorem D.Oc {w I:World} {base e:Nat} {A:Option Addr} {cap:Nat} {L:List Value} {xs:List T} {bs:List Nat} (h:aV 2 kQ w L xs bs) (y:I.ownsRow base e 2 (.slice A xs.length cap) xs.length L):
  ∃ b2,fD I [.slice A xs.length cap] xs b2∧New base I b2:=by
 obtain rfl:=Uc h;have h2:aV 2 kQ I L xs []:=h.keep dV fun b hb=>by simp at hb
 rcases y.2 with ⟨hv,hx⟩ | ⟨g,a7,a0,hv,hg,hh,a1,a2,a8,a9⟩
 ·have a3:xs = []:=List.length_eq_zero_iff.1 hx
  subst a3;simp only [Value.slice.injEq,List.length_nil] at hv;obtain ⟨rfl,-,rfl⟩:=hv;exact ⟨[],KD I,New.nil _ _⟩
 ·obtain ⟨b2,hs,hb⟩:=h2.slice y
  simp only [Value.slice.injEq] at hv;obtain ⟨rfl,-,rfl⟩:=hv;by_cases J:xs = []
  ·subst J
   exact ⟨[],⟨_,cap,rfl,a1,a2,fun _=>rfl,fun h=>absurd rfl h⟩,New.nil _ _⟩
  ·obtain ⟨aa,a4,U,_,_,_,h1⟩:=id hs
   obtain ⟨b,o,a5,F,G,rfl,hF⟩:=h1 J
   have hG:(List.range xs.length).flatMap G = []:=by
    rw [List.flatMap_eq_nil_iff];intro j hj;obtain ⟨_,_,_,_,h⟩:=hF j _ (Ψ (List.mem_range.1 hj));exact h
   rw [hG] at hs;simp only [List.cons.injEq,Value.slice.injEq,and_true] at U
   have a6:b=g:=by
    have:=U.1.symm.trans rfl;rw [a5] at this;simp at this;exact this.1
   subst a6
   exact ⟨[b],hs,⟨by simp,fun c hc=>by
    obtain rfl:c=b:=by simpa using hc
    exact ⟨hg,a0,e,hh⟩⟩⟩
theorem D5 (s : ByteArray) (w : World) (hs : s.size ≤ maxLen) :
    Calls Tryz.prog 158 #[.string s] w fun e w' => e = .returned (.bool (ni s.data.toList)) ∧ w = w' := by
  unfold maxLen at hs
  go_enter Tryz.func158, Tryz.ntmps158
  go_wp2
  go_loop [3, 4] (fun i _ => ∃ k : Nat, k ≤ s.size ∧ i = .int .i64 k ∧ ni (s.data.toList.take k) = true) (fun i _ => s.size - (intOf i).toNat)
  case atStart => exact ⟨0, Nat.zero_le _, rfl, rfl⟩
  case round =>
    obtain ⟨k, hk, rfl, hl⟩ := hrel;have HL := Lib.hid hl;clear hl;by_cases J : k < s.size
    · by_cases U : low s[k] = false
      · have y := GZ s k J U
        have HB := Lib.hid y;rw [vV] at U;clear y;go_wp2
        all_goals first
          | (exfalso; omega)
          | (go_ret; exact ⟨aA HB.out.symm, rfl⟩)
      · have hg : low s[k] = true := by simpa using U
        have I := DW s k J HL.out;rw [hg] at I;have HS := Lib.hid I;have hn := mt (vV s[k]).2 U;clear I hg U;go_wp2
        all_goals first
          | (exfalso; omega)
          | (go_round
             case rel => exact ⟨k + 1, by omega, by go_num, HS.out⟩
             case measure => simp [intOf]; omega)
    · have he : k = s.size := by omega
      subst he;have HE := Lib.hid ((G5 s).symm.trans HL.out);go_wp2;go_ret;exact ⟨aA HE.out.symm, rfl⟩
theorem KE (a b c:Int) (w:World):
  Calls Tryz.prog 76 #[.int .i64 a,.int .i64 b,.int .i64 c] w fun e w'=>e=.returned (.bool (decide (b≤a) && decide (a≤c)))∧w=w':=by
 by_cases h1:b≤a
 all_goals by_cases y:a≤c
 all_goals
  go_enter Tryz.func76,Tryz.ntmps76
  go_wp2;go_ret;exact ⟨aA (by simp [h1,y]),rfl⟩
theorem zi (s : ByteArray) (w : World) (hs : s.size ≤ maxLen) :
    Calls Tryz.prog 220 #[.string s] w fun e w' => e = .returned (.bool (ni s.data.toList && decide (1 ≤ s.size) && decide (s.size ≤ 8))) ∧ w = w' := by
  unfold maxLen at hs
  go_enter Tryz.func220, Tryz.ntmps220
  go_wp2
  go_loop [3] (fun i => ∃ k : Nat, k ≤ s.size ∧ i = .int .i64 k ∧ ni (s.data.toList.take k) = true) (fun i => s.size - (intOf i).toNat)
  case atStart => exact ⟨0, Nat.zero_le _, rfl, rfl⟩
  case round =>
    obtain ⟨k, hk, rfl, hl⟩ := hrel;have HL := Lib.hid hl;clear hl;by_cases J : k < s.size
    · by_cases U : low s[k] = false
      · have y := GZ s k J U
        have HB := Lib.hid y;rw [vV] at U;clear y;go_wp2
        all_goals first
          | (exfalso; omega)
          | (go_ret; exact ⟨aA (by rw [HB.out]; rfl), rfl⟩)
      · have hg : low s[k] = true := by simpa using U
        have I := DW s k J HL.out;rw [hg] at I;have HS := Lib.hid I;have hn := mt (vV s[k]).2 U;clear I hg U;go_wp2
        all_goals first
          | (exfalso; omega)
          | (go_round
             case rel => exact ⟨k + 1, by omega, by go_num, HS.out⟩
             case measure => simp [intOf]; omega)
    · have he : k = s.size := by omega
      subst he;have HE := Lib.hid ((G5 s).symm.trans HL.out)
      go_wp2_with (go_at_call 76; refine (KE _ _ _ _).mono ?_; rintro e w' ⟨rfl, rfl⟩)
      go_ret;exact ⟨aA (by rw [HE.out, Bool.eq_iff_iff]; simp; omega), rfl⟩
theorem KF (s:ByteArray):iD s=((ni s.data.toList && decide (1≤s.size) && decide (s.size≤8)) && !(s.toList == [110,111,116])):=by
 unfold iD
 cases decide (1≤s.size) <;> cases decide (s.size≤8) <;> cases ni s.data.toList <;> rfl
theorem zk (s:ByteArray) (w:World) (y:s.size≤maxLen):
  Calls Tryz.prog 178 #[.string s] w fun e w'=>e=.returned (.bool (iD s))∧w=w':=by
 rw [KF];have hc:=zi s w y;generalize (ni s.data.toList && decide (1≤s.size) && decide (s.size≤8))=b at *;cases b
 all_goals
  go_enter Tryz.func178,Tryz.ntmps178
  go_wp2_with (go_at_call 220; refine hc.mono ?_; rintro e w' ⟨rfl,rfl⟩)
  go_ret;exact ⟨rfl,rfl⟩
theorem zl (s:ByteArray) (w:World) (y:s.size≤maxLen):
  Calls Tryz.prog 99 #[.string s] w fun e w'=>e=.returned (.bool (iD s))∧w=w':=by
 unfold iD;have hc:=D5 s w y;generalize ni s.data.toList=b at *;by_cases h1:1≤s.size
 all_goals by_cases I:s.size≤8
 all_goals cases b
 all_goals
  go_enter Tryz.func99,Tryz.ntmps99
  go_wp2_with (go_at_call 158; refine hc.mono ?_; rintro e w' ⟨rfl,rfl⟩)
  all_goals (go_ret; exact ⟨aA (by simp [h1,I]),rfl⟩)
theorem Hr (s:ByteArray) (w:World) (I:s.size≤maxLen):
  Calls Tryz.prog 201 #[.string s] w fun e w'=>e=.returned (.bool (qI s))∧w=w':=by
 unfold maxLen at I;by_cases h0:0 < s.size
 ·have hc:qI s=big s[0]:=by unfold qI; rw [G6 s h0]; simp [h0]
  rw [hc];have y:=G7 s h0;by_cases h1:65≤(s[0].toNat:Int)
  all_goals by_cases J:(s[0].toNat:Int)≤90
  all_goals
   go_enter Tryz.func201,Tryz.ntmps201
   go_wp2
   all_goals (go_ret; exact ⟨aA (by rw [Bool.eq_iff_iff,zZ]; simp; omega),rfl⟩)
 ·have y:=Qb s h0
  have hc:qI s=false:=by unfold qI; simp [h0]
  rw [hc]
  go_enter Tryz.func201,Tryz.ntmps201
  go_wp2;go_ret;exact ⟨rfl,rfl⟩
theorem Bh (s:ByteArray) (w:World) (y:s.size≤maxLen):
  Calls Tryz.prog 159 #[.string s] w fun e w'=>e=.returned (.bool (vW s))∧w=w':=by
 have hc:=Hr s w y;have I:=D5 (s.extract 1 s.size) w (by simp; omega);rw [tail_at] at I;unfold vW;unfold maxLen at y;by_cases J:s.size≤8
 all_goals cases hb:qI s
 all_goals rw [hb] at hc
 case neg.false | neg.true | pos.false=>
  go_enter Tryz.func159,Tryz.ntmps159
  go_wp2_with (go_at_call 201; refine hc.mono ?_; rintro e w' ⟨rfl,rfl⟩)
  all_goals (go_ret; exact ⟨aA (by simp [J]),rfl⟩)
 case pos.true=>
  have h1:=Qc hb;clear hb;generalize ni s.data.toList.tail=b at *
  go_enter Tryz.func159,Tryz.ntmps159
  go_wp2_with (first | (go_at_call 201; refine hc.mono ?_; rintro e w' ⟨rfl,rfl⟩) | (go_at_call 158; refine I.mono ?_; rintro e w' ⟨rfl,rfl⟩))
  all_goals (go_ret; exact ⟨aA (by simp [J]),rfl⟩)
theorem D.cu.new {α:Type} {n:Nat} {R:Rel α} {base e:Nat} {w:World} {v:Value} {L:List Value} {xs:List α} {bs:List Nat} (h:cu n R base e w v L xs bs) (hN:New base w bs):∃ b2,fK n R w [v] xs b2∧New base w b2:=by
 obtain ⟨I,⟨h1,_,G,rfl,h3⟩,U⟩:=h;have J:=I
 rcases I.2 with ⟨rfl,hL⟩ | ⟨g,cap,a3,rfl,hg,hh,a0,a1,a6⟩
 ·have hx:xs = []:=by
   by_cases y:xs = []
   ·exact y
   ·exfalso
    have a2:0 < xs.length:=List.length_pos_iff.2 y
    first
     | (rw [hL] at a2; omega)
     | omega
  subst hx;exact ⟨[],⟨none,0,rfl,ε,ε,fun _=>rfl,fun h=>absurd rfl h⟩,New.nil _ _⟩
 ·by_cases y:xs = []
  ·subst y
   exact ⟨[],⟨_,cap,rfl,a0,a1,fun _=>rfl,fun h=>absurd rfl h⟩,New.nil _ _⟩
  ·refine ⟨g :: (List.range xs.length).flatMap G,⟨_,cap,rfl,a0,a1,fun h=>absurd h y,fun _=>⟨g,0,rfl,fun k=>(L.drop (k * n)).take n,G,rfl,fun k x hx=>?_⟩⟩,?_⟩
   ·obtain ⟨a4,rfl⟩:=List.getElem?_eq_some_iff.1 hx
    have hmul:k * n+n≤xs.length * n:=by
     have:=Nat.mul_le_mul_right n (show k+1≤xs.length by omega);rw [Nat.add_mul,Nat.one_mul] at this; exact this
    refine ⟨by simp; omega,fun j v hv=>?_,h3 k a4⟩
    have a5:j < n:=by
     have:=(List.getElem?_eq_some_iff.1 hv).1;simp at this; omega
    rw [List.getElem?_take_of_lt a5,List.getElem?_drop] at hv;rw [Nat.zero_add,J.cellAt (k * n+j) (by omega)];exact hv
   ·refine ⟨List.nodup_cons.2 ⟨fun hm=>U g hm rfl,hN.nodup⟩,fun b hb=>?_⟩
    rcases ύ.1 hb with rfl | hb
    ·exact ⟨hg,a3,_,hh⟩
    ·exact hN.own b hb
end
section
open Go.RowKit D
attribute [local go_sem ↓] Go.wp_at_zero Go.wp_at_succ
theorem Ht (t:T) (w:World):
  Calls Tryz.prog 152 #[.agg #[.bool t.var,.string t.name],.agg #[.bool t.var,.string t.name]] w (Yes w.heap.size w):=by
 obtain ⟨b,nm⟩:=t;cases b
 all_goals
  go_enter Tryz.func152,Tryz.ntmps152
  go_wp2;go_ret;exact ⟨rfl,(ζ).alloc (by simp) _⟩
theorem Fp (y:List T) (v1 v2:Value) (b1 b2:List Nat) (w:World) (h1:fD w [v1] y b1) (h2:fD w [v2] y b2):
  Calls Tryz.prog 89 #[v1,v2] w (Yes w.heap.size w):=by
 obtain ⟨Ad,cap,rfl,hl,hm⟩:=ai h1;obtain ⟨a2,cap2,rfl,a3,a0⟩:=ai h2;have a4:=ay (τ hl hm);clear hm a0
 go_enter Tryz.func89,Tryz.ntmps89
 go_wp2
 go_loopw [5] (fun i wr=>∃ k:Nat,k≤y.length∧i=.int .i64 k∧Below w.heap.size w wr) (fun i _=>y.length - (intOf i).toNat)
 case atStart=>exact ⟨0,ε,rfl,ϑ⟩
 case round=>
  obtain ⟨k,hk,rfl,J⟩:=hrel;by_cases U:k < y.length
  ·obtain ⟨b,o,rfl,_,c0,c1,a5⟩:=dN (aG.below h1 J) U
   obtain ⟨b',o',rfl,_,d0,d1,_⟩:=dN (aG.below h2 J) U;clear h1 h2;have a1:(k:Int) < (y.length:Int):=by omega
   have a6:(0:Int)≤(k:Int):=by omega
   go_wp2
   go_region_held3 (fun w'=>w'.cell? ⟨b,o+k * 2,none⟩=some (.bool y[k].var)∧w'.cell? ⟨b,o+k * 2+1,none⟩=some (.string y[k].name)∧w'.cell? ⟨b',o'+k * 2,none⟩=some (.bool y[k].var)∧w'.cell? ⟨b',o'+k * 2+1,none⟩=some (.string y[k].name)) (first | go_keep | exact ⟨ξ I c0,ξ I c1,ξ I d0,ξ I d1⟩)
    (first | (go_at_call 152; refine (Ht _ _).mono ?_; rintro e w' ⟨rfl,I⟩))
   go_wp2;go_roundw
   case rel=>exact ⟨k+1,by omega,by go_num,J.trans ((Below.drew ϑ).trans (I.mono J.size))⟩
   case measure=>simp [intOf]; omega
  ·have he:k=y.length:=by omega
   subst he;go_wp2;go_ret;exact ⟨rfl,J⟩
theorem nI (a:A) (c0 c1 d0 d1:Value) (b1 b2:List Nat) (w:World) (h1:aP w [c0,c1] a b1) (h2:aP w [d0,d1] a b2):
  Calls Tryz.prog 45 #[.agg #[c0,c1],.agg #[d0,d1]] w (Yes w.heap.size w):=by
 obtain ⟨s1,I,a1,J⟩:=h1;obtain ⟨s2,y,_,U⟩:=h2;simp only [List.cons.injEq,and_true] at I y;obtain ⟨rfl,rfl⟩:=I;obtain ⟨rfl,rfl⟩:=y;have hq:=fun w' (hb:Below w.heap.size w w')=>Fp a.args c1 d1 b1 b2 w' (aG.below J hb) (aG.below U hb)
 clear J U
 go_enter Tryz.func45,Tryz.ntmps45
 go_wp2_with (go_at_call 89; refine (hq _ ((ζ).alloc (by simp) _)).mono ?_; rintro e w' ⟨rfl,a0⟩)
 go_ret;exact ⟨rfl,((ζ).alloc (by simp) _).trans (a0.mono (by simp; omega))⟩
theorem below_drewN {B:Nat} {a w:World} (h:Below B a w) (n:Nat):Below B a (w.drewN n):=⟨h.os,h.tape,h.output,h.size,h.block⟩
namespace D
theorem uP {y us:List T} {k:Nat} (h1:k < y.length) (I:k < us.length):kF (y.drop k) (us.drop k)=if fA y[k].name us[k].name=0 then kF (y.drop (k+1)) (us.drop (k+1)) else fA y[k].name us[k].name:=by
 rw [List.drop_eq_getElem_cons h1,List.drop_eq_getElem_cons I]; rfl
theorem uQ {y us:List T} {k:Nat} (h1:k < y.length) (I:us.length≤k):kF (y.drop k) (us.drop k)=1:=by
 rw [List.drop_eq_getElem_cons h1,List.drop_of_length_le I]; rfl
theorem uS {y us:List T} {k:Nat} (h1:y.length≤k) (I:k < us.length):kF (y.drop k) (us.drop k) = -1:=by
 rw [List.drop_eq_getElem_cons I,List.drop_of_length_le h1]; rfl
theorem uT {y us:List T} {k:Nat} (h1:y.length≤k) (I:us.length≤k):kF (y.drop k) (us.drop k)=0:=by
 rw [List.drop_of_length_le I,List.drop_of_length_le h1]; rfl
theorem KG (a b:ByteArray):(fA a b = -1∧Op.bytesLess a.toList b.toList=true)∨(fA a b=0∧Op.bytesLess a.toList b.toList=false∧(a.toList == b.toList)=true)∨(fA a b=1∧Op.bytesLess a.toList b.toList=false∧(a.toList == b.toList)=false):=by
 rw [su,Aj]
 rcases gK.vals a b with h | h | h <;> simp [h]
end D
theorem zn (a b:ByteArray) (w:World):
  Calls Tryz.prog 180 #[.string a,.string b] w fun e w'=>e=.returned (.int .i64 (fA a b))∧w'=w:=by
 rcases KG a b with ⟨h,h1⟩ | ⟨h,h1,y⟩ | ⟨h,h1,y⟩
 all_goals
  have H:=η h;clear h
  go_enter Tryz.func180,Tryz.ntmps180
  go_wp2;go_ret;exact ⟨dO H.out.symm,rfl⟩
theorem D6 (a b:A) (c0 c1 d0 d1:Value) (b1 b2:List Nat) (w:World) (h1:aP w [c0,c1] a b1) (h2:aP w [d0,d1] b b2):
  Calls Tryz.prog 130 #[.agg #[c0,c1],.agg #[d0,d1]] w fun e w'=>e=.returned (.int .i64 (dJ a b))∧Below w.heap.size w w':=by
 obtain ⟨Ad,cap,rfl,rfl⟩:=bK h1;obtain ⟨Ae,J,rfl,rfl⟩:=bK h2;have t1:=dK h1;have t2:=dK h2;obtain ⟨_,_,a2,hl,hm⟩:=ai t1;obtain ⟨_,_,a3,a0,a1⟩:=ai t2;have a5:=ay (τ hl hm);have a4:=ay (τ a0 a1);clear a2 a3 hl a0 hm a1;have hc:dJ a b=if fA a.name b.name=0 then kF a.args b.args else fA a.name b.name:=rfl
 have HC:=η hc;clear h1 h2 hc
 go_enter Tryz.func130,Tryz.ntmps130
 go_wp2_with (go_at_call 180; refine (zn _ _ _).mono ?_; rintro e w' ⟨rfl,rfl⟩)
 have hA:=((Below.refl w.heap.size w).alloc ν (.cells #[.string a.name,.slice Ad a.args.length cap] 40)).alloc (by simp) (.cells #[.string b.name,.slice Ae b.args.length J] 40)
 go_loopw [5,6] (fun c i wr=>∃ (k:Nat) (z:Int),k≤a.args.length∧k≤b.args.length∧i=.int .i64 k∧c=.int .i64 z∧dJ a b=(if z=0 then kF (a.args.drop k) (b.args.drop k) else z)∧Below w.heap.size w wr∧
   wr.cell? ⟨w.heap.size,1,none⟩=some (.slice Ad a.args.length cap)∧wr.cell? ⟨w.heap.size+1,1,none⟩=some (.slice Ae b.args.length J)) (fun _ i _=>a.args.length - (intOf i).toNat)
 case atStart=>exact ⟨0,_,ε,ε,rfl,rfl,HC.out,hA,by go_simp,by go_simp⟩
 case round=>
  obtain ⟨k,z,hk,a6,rfl,rfl,U,hb,x1,y1⟩:=hrel;have HZ:=η U;clear U hA;by_cases U:z=0
  ·subst U
   have H0:=η (HZ.out.trans (if_pos rfl));by_cases I:k < a.args.length
   ·by_cases y:k < b.args.length
    ·obtain ⟨b',o,rfl,_,_,c1,_⟩:=dN (aG.below t1 hb) I
     obtain ⟨a7,o',rfl,_,_,d1,_⟩:=dN (aG.below t2 hb) y;have HS:=η (uP I y);have a8:(0:Int)≤(k:Int):=by omega
     have a9:(k:Int) < (a.args.length:Int):=by omega
     have aa:(k:Int) < (b.args.length:Int):=by omega
     clear t1 t2;go_wp2
     go_quiet ((go_at_call 180; exact Calls.quiet_of_same (zn _ _ _)))
     go_wp2;have HW:=η HZ;go_roundw
     case rel=>exact ⟨k+1,_,by omega,by omega,by go_num,rfl,by rw [H0.out,HS.out],below_drewN hb _,x1,y1⟩
     case measure=>simp [intOf]; omega
    ·have HS:=η (uQ I (Nat.le_of_not_lt y))
     have hx:¬ a.args.length < b.args.length:=by omega
     have hy:b.args.length < a.args.length:=by omega
     clear t1 t2;go_wp2;go_ret;exact ⟨dO (by rw [H0.out,HS.out]),hb⟩
   ·have he:a.args.length≤k:=by omega
    by_cases y:k < b.args.length
    ·have HS:=η (uS he y)
     have hx:a.args.length < b.args.length:=by omega
     clear t1 t2;go_wp2;go_ret;exact ⟨dO (by rw [H0.out,HS.out]),hb⟩
    ·have HS:=η (uT he (Nat.le_of_not_lt y))
     have hx:¬ a.args.length < b.args.length:=by omega
     have hy:¬ b.args.length < a.args.length:=by omega
     clear t1 t2;go_wp2;go_ret;exact ⟨dO (by rw [H0.out,HS.out]),hb⟩
  ·have H0:=η (HZ.out.trans (if_neg U))
   have ab:(z == 0)=false:=beq_eq_false_iff_ne.2 U;have ac:(z != 0)=true:=by simp [U]
   clear U;by_cases I:k < a.args.length
   all_goals by_cases y:k < b.args.length
   all_goals
    clear t1 t2;go_wp2;go_ret;exact ⟨dO H0.out.symm,hb⟩
end
section
open Go.RowKit D
namespace D
def kG (y:List T):List UInt8:=y.zipIdx.flatMap fun x=>(if x.2=0 then [] else [44]) ++ x.1.name.data.toList
def wI (a:A):List UInt8:=a.name.data.toList ++ [40] ++ kG a.args ++ [41]
theorem KH (y:List T) (k:Nat) (h:k < y.length):kG (y.take (k+1))=kG (y.take k) ++ ((if k=0 then [] else [44]) ++ y[k].name.data.toList):=by
 unfold kG;rw [ρ h,List.zipIdx_append,List.flatMap_append];have:(y.take k).length=k:=by simp; omega
 simp [this]
theorem Qs (y:List T):(kG y).length≤iE y+y.length:=by
 have:∀ (y:List T) (n:Nat),((y.zipIdx n).flatMap fun x=>(if x.2=0 then [] else [44]) ++ x.1.name.data.toList).length≤iE y+y.length:=by
  intro y
  induction y with
  | nil=>intro n; simp [iE]
  | cons t r ih=>
   intro n;have:=ih (n+1);simp only [List.zipIdx_cons,List.flatMap_cons,χ,iE,List.map_cons,List.sum_cons,List.length_cons] at *;have I:t.name.data.toList.length=t.name.size:=Array.length_toList
   split <;> simp at * <;> omega
 exact this y 0
theorem zo (y:List T) (k:Nat):iE (y.take k)≤iE y:=by
 have:=List.take_append_drop k y
 have h:iE y=iE (y.take k)+iE (y.drop k):=by
  conv=>lhs; rw [← this]
  unfold iE;rw [List.map_append,List.sum_append]
 omega
end D
end
end Go.Proofs.YtlmngncogomgeaaGreatDoor
