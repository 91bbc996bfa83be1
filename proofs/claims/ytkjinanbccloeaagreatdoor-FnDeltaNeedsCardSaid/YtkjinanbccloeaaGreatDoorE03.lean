/- Of the proof of FnDeltaNeeds: Inv, JFnDeltaNeeds, CollN, Str, CopyB, GoneP, Pick, Take, CmpS, Edge, FsA, PutP, oG. -/
import Derived.Test.YtkjinanbccloeaaGreatDoorE02
import Derived.Test.YtkjinanbccloeaaGreatDoorRows
import Derived.Test.YtkjinanbccloeaaGreatDoorE01
set_option linter.unusedVariables false
set_option maxHeartbeats 1000000
namespace Go.Proofs.YtkjinanbccloeaaGreatDoor
section
open Go
def D.dn (listed:Array Bool) (j:Nat):Bool:=listed.getD j false
theorem D.Jg (listed:Array Bool) (i j:Nat) (y:i < listed.size):dn (listed.setIfInBounds i true) j=if j=i then true else dn listed j:=by
 unfold dn;by_cases h:j=i
 ·subst h
  simp [Array.getD,y]
 ·rw [if_neg h]
  simp only [Array.getD_eq_getD_getElem?,Array.getElem?_setIfInBounds_ne (Ne.symm h)]
def D.UB (y:Region.Mode) (ops:Array Oper):Bool:=(List.range ops.size).all fun i=>((ops[i]?).map fun o=>o.after.all fun e=>!Region.binds y e || decide (e.on < i)).getD true
theorem D.Rl {P:Program} {ops:Array Oper} {md:Region.Mode} {Q:Exit→Act→World→Prop} (J:(Nat→Bool)→Act→World→Prop) (a3:D.UB md ops=true)
  (a4:∀ i o,ops[i]? = some o→∀ f a w,J f a w→f i=false→(o.after.all fun e=>!Region.binds md e || f e.on)=true→wpOp P ops Q i (J fun j=>if j=i then true else f j) a w)
  (a0:∀ f a w,(∀ i,i < ops.size→f i=true)→J f a w→Q .normal a w):
  ∀ (fuel:Nat) (listed:Array Bool) (a:Act) (w:World),listed.size=ops.size→((List.range ops.size).countP fun i=>!dn listed i)≤fuel→J (dn listed) a w→wpAny P md ops Q fuel listed a w:=by
 have I:∀ (listed:Array Bool) (i:Nat),listed.size=ops.size→i ∈ Region.ready md ops listed→∃ o,ops[i]? = some o∧i < ops.size∧dn listed i=false∧(o.after.all fun e=>!Region.binds md e || dn listed e.on)=true:=by
  intro listed i hs hi;unfold Region.ready at hi;obtain ⟨h1,h2⟩:=List.mem_filter.1 hi;have y:=List.mem_range.1 h1;obtain ⟨o,ho⟩:∃ o,ops[i]? = some o:=⟨ops[i],Array.getElem?_eq_getElem y⟩;rw [ho] at h2;simp only [Option.map_some,Option.getD_some,ο] at h2;refine ⟨o,ho,y,?_,h2.2⟩;have h3:=h2.1;unfold dn;have a5:i < listed.size:=by omega
  simp only [Array.getD,a5,dif_pos,Bool.not_eq_true'] at h3 ⊢;exact h3
 have a1:∀ (listed:Array Bool),listed.size=ops.size→Region.ready md ops listed = []→∀ i,i < ops.size→dn listed i=true:=by
  intro listed hs hr i
  induction i using Nat.strongRecOn with
  | _ i ih=>
   intro y
   cases hd:dn listed i with
   | true=>rfl
   | false=>
    exfalso
    have:i ∈ Region.ready md ops listed:=by
     unfold Region.ready;refine List.mem_filter.2 ⟨List.mem_range.2 y,?_⟩;have a5:i < listed.size:=by omega
     unfold dn at hd;rw [Array.getElem?_eq_getElem y];simp only [Array.getD,a5,dif_pos] at hd ⊢;simp only [Option.map_some,Option.getD_some,hd,Bool.not_false,Bool.true_and,Array.all_eq_true];intro k hk;have hb:=a3;unfold UB at hb;have a6:=ό.1 hb i (List.mem_range.2 y);rw [Array.getElem?_eq_getElem y] at a6;simp only [Option.map_some,Option.getD_some,Array.all_eq_true] at a6;have a7:=a6 k hk
     cases hbi:Region.binds md (ops[i]).after[k] with
     | false=>simp
     | true=>
      rw [hbi] at a7;have a8:((ops[i]).after[k]).on < i:=by simpa using a7
      have:=ih _ a8 (by omega);unfold dn at this;simp only [Bool.not_true,Bool.false_or];exact this
    rw [hr] at this;cases this
 intro fuel
 induction fuel with
 | zero=>
  intro listed a w hs hc hJ;have hz:∀ i ∈ List.range ops.size,¬ (!dn listed i)=true:=List.countP_eq_zero.1 (Nat.le_zero.1 hc)
  have U:Region.ready md ops listed = []:=by
   cases hr:Region.ready md ops listed with
   | nil=>rfl
   | cons i rs=>
    obtain ⟨o,ho,y,hf,_⟩:=I listed i hs (by rw [hr]; exact Γ);exact absurd (by simp [hf]) (hz i (List.mem_range.2 y))
  exact ⟨U,a0 _ a w (a1 listed hs U) hJ⟩
 | succ fuel ih=>
  intro listed a w hs hc hJ;refine ⟨fun U=>a0 _ a w (a1 listed hs U) hJ,fun i hi=>?_⟩;obtain ⟨o,ho,y,hf,a9⟩:=I listed i hs hi;refine wpOp_mono (fun a' w' aa=>ih _ a' w' (by simpa using hs) ?_ ?_) (a4 i o ho (dn listed) a w hJ hf a9)
  ·have h1:∀ (l:List Nat),l.Nodup→i ∈ l→(l.countP fun j=>!dn (listed.setIfInBounds i true) j)+1≤l.countP fun j=>!dn listed j:=by
    intro l
    induction l with
    | nil=>intro _ h; cases h
    | cons x l ihl=>
     intro ab hm;have a2:=List.nodup_cons.1 ab;rw [List.countP_cons,List.countP_cons];by_cases hx:x=i
     ·subst hx
      have e1:(l.countP fun j=>!dn (listed.setIfInBounds x true) j)=l.countP fun j=>!dn listed j:=List.countP_congr fun j hj=>by
       have ac:j ≠ x:=fun e=>a2.1 (by rw [← e]; exact hj)
       rw [Jg _ _ _ (by omega),if_neg ac]
      rw [e1,Jg _ _ _ (by omega),if_pos rfl,hf];simp
     ·have:=ihl a2.2 (by rcases ύ.1 hm with h | h; exact absurd h.symm hx; exact h)
      rw [Jg _ _ _ (by omega),if_neg hx];omega
   have:=h1 _ List.nodup_range (List.mem_range.2 y);omega
  ·have:dn (listed.setIfInBounds i true)=fun j=>if j=i then true else dn listed j:=funext fun j=>Jg _ _ _ (by omega)
   rw [this];exact aa
theorem D.qo {P:Program} {ops:Array Oper} {Q:Exit→Act→World→Prop} {id:Nat} (J:(Nat→Bool)→Act→World→Prop) (hm:P.follows .mixedOrders=true) (y:D.UB .any ops=true) {a:Act} {w:World}
  (h0:J (fun _=>false) a w.drew)
  (I:∀ i o,ops[i]? = some o→∀ f a w,J f a w→f i=false→(o.after.all fun e=>!Region.binds .any e || f e.on)=true→wpOp P ops Q i (J fun j=>if j=i then true else f j) a w)
  (U:∀ f a w,(∀ i,i < ops.size→f i=true)→J f a w→Q .normal a w):(Code.region id ops true).wp P Q a w:=by
 refine wp_region_any hm ?_;refine Rl J y I U _ _ _ _ (by simp) ?_ ?_
 ·exact τ List.countP_le_length (by simp)
 ·have:dn (Array.replicate ops.size false)=fun _=>false:=funext fun j=>by
   unfold dn;by_cases h:j < ops.size
   ·simp [Array.getD,h]
   ·simp [Array.getD,h]
  rw [this];exact h0
theorem Dw:Rows.fnDeltaNeedsRow.wf (OpenSpec.ofChange Rows.fnDeltaNeedsSpec)=true:=by kernel_rfl
theorem Dx:Tryz.f10.params.all (Tryz.prog.readableRec ·)=true:=by kernel_rfl
theorem Dy:namedTie Tryz.prog Rows.fnDeltaNeedsRow.named Rows.fnDeltaNeedsSpec.vars=true:=by kernel_rfl
theorem Dz:(Rows.fnDeltaNeedsRow.stops == [])=true:=by kernel_rfl
theorem DC:(Tryz.prog.stops == [])=true:=by kernel_rfl
theorem DF:(Rows.fnDeltaNeedsRow.knobs == [])=true:=by kernel_rfl
theorem DI:(Tryz.prog.stopKnobs == [])=true:=by kernel_rfl
theorem DJ:(Rows.fnDeltaNeedsRow.inPlace == Tryz.prog.inPlace 10)=true:=by kernel_rfl
theorem zL:(Rows.fnDeltaNeedsRow.unfollowed == Tryz.prog.unfollowed 10)=true:=by kernel_rfl
theorem zM:(Rows.fnDeltaNeedsRow.recurses == Tryz.prog.recurses 10)=true:=by kernel_rfl
theorem zN:(Rows.fnDeltaNeedsRow.named == Tryz.prog.varsNamed 10)=true:=by kernel_rfl
theorem zO:(Rows.fnDeltaNeedsRow.maps == (Tryz.f10.params.toList ++ Rows.fnDeltaNeedsSpec.plain.varTypes Tryz.prog).any (Tryz.prog.mapsRec ·))=true:=by kernel_rfl
theorem zQ:(Rows.fnDeltaNeedsRow.ifaces == (Tryz.f10.params.toList ++ Rows.fnDeltaNeedsSpec.plain.varTypes Tryz.prog).any (Tryz.prog.ifacesRec ·))=true:=by kernel_rfl
theorem zS:(Rows.fnDeltaNeedsRow.mapsOut == Tryz.prog.mapsAmong Tryz.f10.resultTypes.toList)=true:=by kernel_rfl
theorem zT:(Rows.fnDeltaNeedsRow.loops == (Tryz.f10.params.toList ++ Rows.fnDeltaNeedsSpec.plain.varTypes Tryz.prog).any (Tryz.prog.loopsFrom ·))=true:=by kernel_rfl
theorem zU:(Rows.fnDeltaNeedsRow.wideKeys == (Tryz.f10.params.toList ++ Rows.fnDeltaNeedsSpec.plain.varTypes Tryz.prog ++ Tryz.f10.resultTypes.toList).any (Tryz.prog.wideKeysFrom ·))=true:=by kernel_rfl
theorem zV:Rows.fnDeltaNeedsSpec.vars.all (Tryz.prog.varReadable ·)=true:=by kernel_rfl
theorem zW:Tryz.f10.resultTypes.all (fun t=>Tryz.prog.readableRec t && decide (t < Tryz.prog.types.size))=true:=by kernel_rfl
theorem zX:(Rows.fnDeltaNeedsRow.ifacesOut == Tryz.f10.resultTypes.toList.any (Tryz.prog.ifacesRec ·))=true:=by kernel_rfl
theorem zY:(Rows.fnDeltaNeedsRow.loopsOut == Tryz.f10.resultTypes.toList.any (Tryz.prog.loopsFrom ·))=true:=by kernel_rfl
theorem zZ:(Rows.fnDeltaNeedsRow.plainKeys == Tryz.prog.plainKeys)=true:=by kernel_rfl
theorem Aj:Rows.fnDeltaNeedsRow.shortTexts.isNone=true:=by kernel_rfl
theorem Aq:(Rows.fnDeltaNeedsRow.lifted == Tryz.prog.liftsFinal)=true:=by kernel_rfl
theorem Au:(Tryz.prog.make == some Rows.fnDeltaNeedsRow.make)=true:=by kernel_rfl
theorem AA:(Rows.fnDeltaNeedsRow.kinds == Ud Tryz.prog Tryz.f10 Rows.fnDeltaNeedsRow)=true:=by kernel_rfl
theorem AB:(Rows.fnDeltaNeedsRow.pinned == Rows.fnDeltaNeedsRow.pinnedBy)=true:=by kernel_rfl
theorem AL:(Rows.fnDeltaNeedsRow.veiled == (Tryz.f10.params.toList ++ Rows.fnDeltaNeedsSpec.plain.varTypes Tryz.prog ++ Tryz.f10.resultTypes.toList).any (Tryz.prog.veiledRec ·))=true:=by kernel_rfl
theorem AO:Rows.fnDeltaNeedsRow.veiledFits Tryz.prog Tryz.f10.params.toList (Tryz.f10.params.toList ++ Rows.fnDeltaNeedsSpec.plain.varTypes Tryz.prog ++ Tryz.f10.resultTypes.toList)=true:=by kernel_rfl
theorem wC:joinedFacts Tryz.prog 10 Tryz.f10 Rows.fnDeltaNeedsSpec Rows.fnDeltaNeedsRow=true:=
 QO Dw WU WV Dx Dy Dz DC DF DI DJ zL zM zN zO zQ zS zT zU zV zW zX zY zZ Aj Ue Uf Aq Au AA AB AL AO
end
section
open Go.RowKit D
theorem D.aX.new {α:Type} {n:Nat} {R:Rel α} {base e:Nat} {w:World} {v:Value} {L:List Value} {xs:List α} {bs:List Nat} (h:aX n R base e w v L xs bs) (hN:New base w bs):∃ b2,iU n R w [v] xs b2∧New base w b2:=by
 obtain ⟨I,⟨h1,_,G,rfl,h3⟩,U⟩:=h;have J:=I
 rcases I.2 with ⟨rfl,hL⟩ | ⟨g,cap,a3,rfl,hg,hh,a0,a1,a6⟩
 ·have hx:xs = []:=by
   by_cases y:xs = []
   ·exact y
   ·exfalso
    have a2:0 < xs.length:=List.length_pos_iff.2 y
    first
     | (rw [hL] at a2; omega)
     | omega
  subst hx;exact ⟨[],⟨none,0,rfl,ε,ε,fun _=>rfl,fun h=>absurd rfl h⟩,New.nil _ _⟩
 ·by_cases y:xs = []
  ·subst y
   exact ⟨[],⟨_,cap,rfl,a0,a1,fun _=>rfl,fun h=>absurd rfl h⟩,New.nil _ _⟩
  ·refine ⟨g :: (List.range xs.length).flatMap G,⟨_,cap,rfl,a0,a1,fun h=>absurd h y,fun _=>⟨g,0,rfl,fun k=>(L.drop (k * n)).take n,G,rfl,fun k x hx=>?_⟩⟩,?_⟩
   ·obtain ⟨a4,rfl⟩:=List.getElem?_eq_some_iff.1 hx
    have hmul:k * n+n≤xs.length * n:=by
     have:=Nat.mul_le_mul_right n (show k+1≤xs.length by omega);rw [Nat.add_mul,Nat.one_mul] at this; exact this
    refine ⟨by simp; omega,fun j v hv=>?_,h3 k a4⟩
    have a5:j < n:=by
     have:=(List.getElem?_eq_some_iff.1 hv).1;simp at this; omega
    rw [List.getElem?_take_of_lt a5,List.getElem?_drop] at hv;rw [Nat.zero_add,J.cellAt (k * n+j) (by omega)];exact hv
   ·refine ⟨List.nodup_cons.2 ⟨fun hm=>U g hm rfl,hN.nodup⟩,fun b hb=>?_⟩
    rcases ύ.1 hb with rfl | hb
    ·exact ⟨hg,a3,_,hh⟩
    ·exact hN.own b hb
theorem G7 (s : ByteArray) (w : World) (hs : s.size ≤ maxLen) :
    Calls Tryz.prog 235 #[.string s] w fun e w' => e = .returned (.bool (pW s.data.toList)) ∧ w = w' := by
  unfold maxLen at hs
  go_enter Tryz.func235, Tryz.ntmps235
  go_wp2
  go_loop [3, 4] (fun i _ => ∃ k : Nat, k ≤ s.size ∧ i = .int .i64 k ∧ pW (s.data.toList.take k) = true) (fun i _ => s.size - (intOf i).toNat)
  case atStart => exact ⟨0, Nat.zero_le _, rfl, rfl⟩
  case round =>
    obtain ⟨k, hk, rfl, U⟩ := hrel;have HL := Lib.hid U;clear U;by_cases J : k < s.size
    · by_cases hb : low s[k] = false
      · have y := Ko s k J hb
        have HB := Lib.hid y;rw [xZ] at hb;clear y;go_wp2
        all_goals first
          | (exfalso; omega)
          | (go_ret; exact ⟨aH HB.out.symm, rfl⟩)
      · have hg : low s[k] = true := by simpa using hb
        have I := GR s k J HL.out;rw [hg] at I;have HS := Lib.hid I;have hn := mt (xZ s[k]).2 hb;clear I hg hb;go_wp2
        all_goals first
          | (exfalso; omega)
          | (go_round
             case rel => exact ⟨k + 1, by omega, by go_num, HS.out⟩
             case measure => simp [intOf]; omega)
    · have he : k = s.size := by omega
      subst he;have HE := Lib.hid ((Kq s).symm.trans HL.out);go_wp2;go_ret;exact ⟨aH HE.out.symm, rfl⟩
theorem Yf (a b c:Int) (w:World):
  Calls Tryz.prog 147 #[.int .i64 a,.int .i64 b,.int .i64 c] w fun e w'=>e=.returned (.bool (decide (b≤a) && decide (a≤c)))∧w=w':=by
 by_cases h1:b≤a
 all_goals by_cases y:a≤c
 all_goals
  go_enter Tryz.func147,Tryz.ntmps147
  go_wp2;go_ret;exact ⟨aH (by simp [h1,y]),rfl⟩
theorem Cb (s : ByteArray) (w : World) (hs : s.size ≤ maxLen) :
    Calls Tryz.prog 284 #[.string s] w fun e w' => e = .returned (.bool (pW s.data.toList && decide (1 ≤ s.size) && decide (s.size ≤ 8))) ∧ w = w' := by
  unfold maxLen at hs
  go_enter Tryz.func284, Tryz.ntmps284
  go_wp2
  go_loop [3] (fun i => ∃ k : Nat, k ≤ s.size ∧ i = .int .i64 k ∧ pW (s.data.toList.take k) = true) (fun i => s.size - (intOf i).toNat)
  case atStart => exact ⟨0, Nat.zero_le _, rfl, rfl⟩
  case round =>
    obtain ⟨k, hk, rfl, U⟩ := hrel;have HL := Lib.hid U;clear U;by_cases J : k < s.size
    · by_cases hb : low s[k] = false
      · have y := Ko s k J hb
        have HB := Lib.hid y;rw [xZ] at hb;clear y;go_wp2
        all_goals first
          | (exfalso; omega)
          | (go_ret; exact ⟨aH (by rw [HB.out]; rfl), rfl⟩)
      · have hg : low s[k] = true := by simpa using hb
        have I := GR s k J HL.out;rw [hg] at I;have HS := Lib.hid I;have hn := mt (xZ s[k]).2 hb;clear I hg hb;go_wp2
        all_goals first
          | (exfalso; omega)
          | (go_round
             case rel => exact ⟨k + 1, by omega, by go_num, HS.out⟩
             case measure => simp [intOf]; omega)
    · have he : k = s.size := by omega
      subst he;have HE := Lib.hid ((Kq s).symm.trans HL.out)
      go_wp2_with (go_at_call 147; refine (Yf _ _ _ _).mono ?_; rintro e w' ⟨rfl, rfl⟩)
      go_ret;exact ⟨aH (by rw [HE.out, Bool.eq_iff_iff]; simp; omega), rfl⟩
theorem OJ (s:ByteArray):jc s=((pW s.data.toList && decide (1≤s.size) && decide (s.size≤8)) && !(s.toList == [110,111,116])):=by
 unfold jc
 cases decide (1≤s.size) <;> cases decide (s.size≤8) <;> cases pW s.data.toList <;> rfl
theorem Cc (s:ByteArray) (w:World) (y:s.size≤maxLen):
  Calls Tryz.prog 262 #[.string s] w fun e w'=>e=.returned (.bool (jc s))∧w=w':=by
 rw [OJ];have hc:=Cb s w y;generalize (pW s.data.toList && decide (1≤s.size) && decide (s.size≤8))=b at *;cases b
 all_goals
  go_enter Tryz.func262,Tryz.ntmps262
  go_wp2_with (go_at_call 284; refine hc.mono ?_; rintro e w' ⟨rfl,rfl⟩)
  go_ret;exact ⟨rfl,rfl⟩
theorem Ce (s:ByteArray) (w:World) (y:s.size≤maxLen):
  Calls Tryz.prog 183 #[.string s] w fun e w'=>e=.returned (.bool (jc s))∧w=w':=by
 unfold jc;have hc:=G7 s w y;generalize pW s.data.toList=b at *;by_cases h1:1≤s.size
 all_goals by_cases I:s.size≤8
 all_goals cases b
 all_goals
  go_enter Tryz.func183,Tryz.ntmps183
  go_wp2_with (go_at_call 235; refine hc.mono ?_; rintro e w' ⟨rfl,rfl⟩)
  all_goals (go_ret; exact ⟨aH (by simp [h1,I]),rfl⟩)
theorem KI (s:ByteArray) (w:World) (I:s.size≤maxLen):
  Calls Tryz.prog 273 #[.string s] w fun e w'=>e=.returned (.bool (tV s))∧w=w':=by
 unfold maxLen at I;by_cases h0:0 < s.size
 ·have hc:tV s=big s[0]:=by unfold tV; rw [Kr s h0]; simp [h0]
  rw [hc];have y:=Kt s h0;by_cases h1:65≤(s[0].toNat:Int)
  all_goals by_cases J:(s[0].toNat:Int)≤90
  all_goals
   go_enter Tryz.func273,Tryz.ntmps273
   go_wp2
   all_goals (go_ret; exact ⟨aH (by rw [Bool.eq_iff_iff,DZ]; simp; omega),rfl⟩)
 ·have y:=Ul s h0
  have hc:tV s=false:=by unfold tV; simp [h0]
  rw [hc]
  go_enter Tryz.func273,Tryz.ntmps273
  go_wp2;go_ret;exact ⟨rfl,rfl⟩
theorem Eh (s:ByteArray) (w:World) (y:s.size≤maxLen):
  Calls Tryz.prog 236 #[.string s] w fun e w'=>e=.returned (.bool (x9 s))∧w=w':=by
 have hc:=KI s w y;have I:=G7 (s.extract 1 s.size) w (by simp; omega);rw [tail_at] at I;unfold x9;unfold maxLen at y;by_cases J:s.size≤8
 all_goals cases hb:tV s
 all_goals rw [hb] at hc
 case neg.false | neg.true | pos.false=>
  go_enter Tryz.func236,Tryz.ntmps236
  go_wp2_with (go_at_call 273; refine hc.mono ?_; rintro e w' ⟨rfl,rfl⟩)
  all_goals (go_ret; exact ⟨aH (by simp [J]),rfl⟩)
 case pos.true=>
  have h1:=Um hb;clear hb;generalize pW s.data.toList.tail=b at *
  go_enter Tryz.func236,Tryz.ntmps236
  go_wp2_with (first | (go_at_call 273; refine hc.mono ?_; rintro e w' ⟨rfl,rfl⟩) | (go_at_call 235; refine I.mono ?_; rintro e w' ⟨rfl,rfl⟩))
  all_goals (go_ret; exact ⟨aH (by simp [J]),rfl⟩)
theorem G8:(Tryz.prog.info? 91).map (fun i=>(i.zero,i.size,i.bytes))=some (some (.agg #[.bool false,.string ⟨#[]⟩]),2,24):=by kernel_rfl
theorem UC:(Tryz.prog.info? 91).map (·.size)=some 2:=by kernel_rfl
theorem qK:(Tryz.prog.info? 33).map (fun i=>(i.zero,i.size,i.bytes))=some (some (.agg #[.string ⟨#[]⟩,.slice none 0 0]),2,40):=by kernel_rfl
theorem D.Ei (w:World):gG w [.slice none 0 0] [] []:=⟨none,0,rfl,ν,ε,fun _=>rfl,fun h=>absurd rfl h⟩
theorem D.dh (w:World):aC w [.slice none 0 0] [] []:=⟨none,0,rfl,ν,ε,fun _=>rfl,fun h=>absurd rfl h⟩
theorem D.Xg {w:World} {L:List Value} {xs:List T} {bs:List Nat} (h:aT 2 kD w L xs bs):bs = []:=by
 obtain ⟨_,_,G,rfl,y⟩:=h;rw [List.flatMap_eq_nil_iff];intro j I;obtain ⟨_,_,h⟩:=y j (List.mem_range.1 I);exact h
theorem D.G9 {w I:World} {base e:Nat} {A:Option Addr} {cap:Nat} {L:List Value} {xs:List T} {bs:List Nat} (h:aT 2 kD w L xs bs) (y:I.ownsRow base e 2 (.slice A xs.length cap) xs.length L):
  ∃ b2,gG I [.slice A xs.length cap] xs b2∧New base I b2:=by
 obtain rfl:=Xg h;have h2:aT 2 kD I L xs []:=h.keep bD fun b hb=>by simp at hb
 rcases y.2 with ⟨hv,hx⟩ | ⟨g,a7,a0,hv,hg,hh,a1,a2,a8,a9⟩
 ·have a3:xs = []:=List.length_eq_zero_iff.1 hx
  subst a3;simp only [Value.slice.injEq,List.length_nil] at hv;obtain ⟨rfl,-,rfl⟩:=hv;exact ⟨[],Ei I,New.nil _ _⟩
 ·obtain ⟨b2,hs,hb⟩:=h2.slice y
  simp only [Value.slice.injEq] at hv;obtain ⟨rfl,-,rfl⟩:=hv;by_cases J:xs = []
  ·subst J
   exact ⟨[],⟨_,cap,rfl,a1,a2,fun _=>rfl,fun h=>absurd rfl h⟩,New.nil _ _⟩
  ·obtain ⟨aa,a4,U,_,_,_,h1⟩:=id hs
   obtain ⟨b,o,a5,F,G,rfl,hF⟩:=h1 J
   have hG:(List.range xs.length).flatMap G = []:=by
    rw [List.flatMap_eq_nil_iff];intro j hj;obtain ⟨_,_,_,_,h⟩:=hF j _ (Ψ (List.mem_range.1 hj));exact h
   rw [hG] at hs;simp only [List.cons.injEq,Value.slice.injEq,and_true] at U
   have a6:b=g:=by
    have:=U.1.symm.trans rfl;rw [a5] at this;simp at this;exact this.1
   subst a6
   exact ⟨[b],hs,⟨by simp,fun c hc=>by
    obtain rfl:c=b:=by simpa using hc
    exact ⟨hg,a0,e,hh⟩⟩⟩
theorem D.wX {xs:List A} (h1:xs.length≤300) (y:∀ x ∈ xs,dI x=true) (I:gm xs=true):aU xs=true:=by
 rw [rF];have:okB xs=true:=by unfold okB; rw [ο]; exact ⟨ό.2 y,I⟩
 rw [this]; simp [h1]
theorem KJ (a b:Nat) (ha:a < 4611686018427387904) (hb:b < 4611686018427387904):bits .xor .i64 (a:Int) (b:Int)=((a ^^^ b:Nat):Int):=by
 have y:a ^^^ b < 2 ^ 62:=Nat.xor_lt_two_pow (by omega) (by omega);show IntKind.i64.wrap ((BitVec.ofInt 64 (a:Int) ^^^ BitVec.ofInt 64 (b:Int)).toNat:Int)=_;rw [BitVec.toNat_xor,ofInt_u64 a (by omega),ofInt_u64 b (by omega),IntKind.wrap_i64];omega
theorem KL (a b:Int) (h1:0≤a) (J:a < 4611686018427387904) (I:0≤b) (U:b < 4611686018427387904):0≤bits .xor .i64 a b:=by
 obtain ⟨x,rfl⟩:=Int.eq_ofNat_of_zero_le h1;obtain ⟨y,rfl⟩:=Int.eq_ofNat_of_zero_le I;rw [KJ x y (by omega) (by omega)];omega
def kQ (g:Nat) (p:Nat) (w:World):Prop:=
 ∃ (y:Option Addr) (n cap:Nat),w.heap[g]? = some (.cells #[.slice y n cap,.int .i64 p] 149 (0,0))∧n≤2000∧
  ∀ k,k < n→∃ b o c,y=some ⟨b,o,none⟩∧b < g∧w.cell? ⟨b,o+k,none⟩=some (.int .u8 c)∧0≤c∧c≤255
theorem kQ.lt {g p:Nat} {w:World} (h:kQ g p w):g < w.heap.size:=by
 obtain ⟨_,_,_,h,_⟩:=h; exact ψ h
theorem kQ.drew {g p:Nat} {w:World} (h:kQ g p w):kQ g p w.drew:=h
theorem grown_setCell (w:World) (g o:Nat) (v:Value):w.grownBy (w.setCell ⟨g,o,none⟩ v) (some g):=
 ⟨rfl,rfl,rfl,by simp [World.setCell],fun k _ y=>π _ _ _ _ (fun e=>y (by rw [e]))⟩
theorem grown_drewN {w w':World} {r:Option Nat} (h:w.grownBy w' r) (n:Nat):w.grownBy (w'.drewN n) r:=⟨h.os,h.tape,h.output,h.size,h.block⟩
theorem kQ.step {g p m cap:Nat} {I:Option Addr} {w:World} (J:w.heap[g]? = some (.cells #[.slice I m cap,.int .i64 p] 149 (0,0))) (hm:m≤2000)
  (hc:∀ k,k < m→∃ b o c,I=some ⟨b,o,none⟩∧b < g∧w.cell? ⟨b,o+k,none⟩=some (.int .u8 c)∧0≤c∧c≤255):kQ g (p+1) (w.setCell ⟨g,1,none⟩ (.int .i64 ((p:Int)+1))):=by
 refine ⟨I,m,cap,?_,hm,fun k hk=>?_⟩
 ·have y:=ψ J
  have h':w.heap[g]=.cells #[.slice I m cap,.int .i64 p] 149 (0,0):=by simpa [Array.getElem?_eq_getElem y] using J
  show (w.heap.modify g _)[g]? = _;rw [Array.getElem?_eq_getElem (by simpa using y),Array.getElem_modify_self,h'];rfl
 ·obtain ⟨b,o,c,h1,U,h3,h4⟩:=hc k hk
  exact ⟨b,o,c,h1,U,by rw [World.cell?_of_block (w:=w) (π _ _ _ _ (Nat.ne_of_lt U))]; exact h3,h4⟩
theorem kQ.keep {g p:Nat} {w w':World} (h:kQ g p w) (I:∀ b,b < w.heap.size→w'.heap[b]? = w.heap[b]?):kQ g p w':=by
 obtain ⟨Ad,n,cap,J,hn,hc⟩:=h;refine ⟨Ad,n,cap,by rw [I g (ψ J)]; exact J,hn,fun k y=>?_⟩;obtain ⟨b,o,c,h1,h2,U,h4⟩:=hc k y;exact ⟨b,o,c,h1,h2,by rw [World.cell?_of_block (w:=w) (I b (lt_of_cell U))]; exact U,h4⟩
theorem kQ.below {g p:Nat} {w w':World} (h:kQ g p w) (hb:Below w.heap.size w w'):kQ g p w':=h.keep hb.block
def AP (g p:Nat) (n:Int) (w:World) (e:Ending) (w':World):Prop:=∃ i:Nat,e=.returned (.int .i64 i)∧(i:Int) < n∧kQ g (p+1) w'∧w.grownBy w' (some g)
theorem AP.mk {g p:Nat} {n i:Int} {w w':World} (h0:0≤i) (y:i < n) (I:kQ g (p+1) w') (J:w.grownBy w' (some g)):AP g p n w (.returned (.int .i64 i)) w':=by
 obtain ⟨x,rfl⟩:=Int.eq_ofNat_of_zero_le h0;exact ⟨x,rfl,y,I,J⟩
theorem pick_any (g p:Nat) (n:Int) (w:World) (h:kQ g p w) (hp:p≤1000000) (hn:1≤n) (a2:n≤1000000):
  Calls Tryz.prog 47 #[.pointer (some ⟨g,0,none⟩),.int .i64 n] w (AP g p n w):=by
 obtain ⟨Ad,m,cap,y,hm,hc⟩:=h;have c0:w.cell? ⟨g,0,none⟩=some (.slice Ad m cap):=by simp [World.cell?,y]
 have c1:w.cell? ⟨g,1,none⟩=some (.int .i64 p):=by simp [World.cell?,y]
 have f1:w.frozen? ⟨g,1,none⟩=false:=by simp [World.frozen?,y]
 have HR:=η (kQ.step y hm hc);have I:=η (grown_setCell w g 1 (.int .i64 ((p:Int)+1)))
 have k0:∀ k,k < m→∃ b o c,Ad=some ⟨b,o,none⟩∧(w.setCell ⟨g,1,none⟩ (.int .i64 ((p:Int)+1))).cell? ⟨b,o+k,none⟩=some (.int .u8 c)∧0≤c∧c≤255:=by
  obtain ⟨a3,m',a1,a4,_,a5⟩:=HR.out;intro k J;obtain ⟨b,o,c,h1,h2,h3,h4⟩:=hc k J;exact ⟨b,o,c,h1,by rw [World.cell?_of_block (w:=w) (π _ _ _ _ (Nat.ne_of_lt h2))]; exact h3,h4⟩
 have U:=η k0;clear y hc k0;by_cases h0:m=0
 ·subst h0
  go_enter Tryz.func47,Tryz.ntmps47
  go_wp2;go_ret;exact AP.mk (by omega) (by omega) HR.out I.out
 ·by_cases J:p < m
  ·obtain ⟨b,o,c,rfl,d0,d1,d2⟩:=U.out p J
   have a0:((m:Int) == 0)=false:=beq_eq_false_iff_ne.2 (by omega)
   go_enter Tryz.func47,Tryz.ntmps47
   go_wp2;go_ret;exact AP.mk (Int.emod_nonneg _ (by omega)) (Int.emod_lt_of_pos _ (by omega)) HR.out I.out
  ·have m1:=Nat.mod_lt p (show 0 < m by omega)
   have m2:=Nat.mod_lt (p * 7+3) (show 0 < m by omega);obtain ⟨b,o,x1,rfl,d0,d1,d2⟩:=U.out (p % m) m1;obtain ⟨b',o',x2,he,e0,e1,e2⟩:=U.out ((p * 7+3) % m) m2;simp only [Option.some.injEq,Addr.mk.injEq,and_true] at he;obtain ⟨rfl,rfl⟩:=he;have a0:((m:Int) == 0)=false:=beq_eq_false_iff_ne.2 (by omega);have b1:(0:Int)≤(p:Int) % (m:Int):=Int.emod_nonneg _ (by omega);have b2:(p:Int) % (m:Int) < (m:Int):=Int.emod_lt_of_pos _ (by omega);have b3:(0:Int)≤((p:Int) * 7+3) % (m:Int):=Int.emod_nonneg _ (by omega);have b4:((p:Int) * 7+3) % (m:Int) < (m:Int):=Int.emod_lt_of_pos _ (by omega);have b5:(0:Int)≤(p:Int) / (m:Int):=Int.ediv_nonneg (by omega) (by omega);have b6:(p:Int) / (m:Int)≤(p:Int):=Int.ediv_le_self _ (by omega);have a6:(1:Int)≤(m:Int):=by omega
   go_enter Tryz.func47,Tryz.ntmps47
   go_wp2
   go_quiet (fail)
   clear d0 e0;go_wp2;go_ret;have hx:=KL (x1 * 131+x2 * 1117+(p:Int) * 29+(p:Int) / (m:Int) * 53) ((x1 * 131+x2 * 1117+(p:Int) * 29+(p:Int) / (m:Int) * 53) / 64) (by omega) (by omega) (by omega) (by omega);exact AP.mk (Int.tmod_nonneg _ hx) (Int.tmod_lt_of_pos _ (by omega)) HR.out (grown_drewN I.out _)
def YX (xs:List ByteArray) (g p:Nat) (w:World) (e:Ending) (w':World):Prop:=∃ s,e=.returned (.string s)∧s ∈ xs∧kQ g (p+1) w'∧w.grownBy w' (some g)
theorem UD (g p:Nat) (v:Value) (xs:List ByteArray) (bs:List Nat) (w:World) (h:kQ g p w) (I:iF w [v] xs bs) (hp:p≤1000000) (hn:1≤xs.length) (a1:xs.length≤1000000) (hg:g ∉ bs):
  Calls Tryz.prog 159 #[.pointer (some ⟨g,0,none⟩),v] w (YX xs g p w):=by
 obtain ⟨Ad,cap,rfl,hl,hm⟩:=aj I;have J:=pick_any g p xs.length w h hp (by omega) (by omega);clear hm
 go_enter Tryz.func159,Tryz.ntmps159
 go_wp2_with fail
 refine J.mono ?_;rintro e w1 ⟨i,rfl,hi,hR,U⟩;have a0:i < xs.length:=by omega
 have a2:(0:Int)≤(i:Int):=by omega
 obtain ⟨b,o,rfl,hb,c0,a3⟩:=nD (bP.keep I (w':=w1) (fun b hb=>U.block b (bP.lt I b hb) (fun e=>hg (by injection e with e; rw [← e]; exact hb)))) a0;have y:xs[i] ∈ xs:=δ _;have HM:=η y;have HG:=η U;clear y I h U;go_wp2;go_ret;exact ⟨_,rfl,HM.out,hR,HG.out⟩
def Opened (w:World) (e:Ending) (w':World):Prop:=e=.returned (.pointer (some ⟨w.heap.size,0,none⟩))∧kQ w.heap.size 0 w'∧Below w.heap.size w w'
theorem He {w:World} {y:Option Addr} {n m cap:Nat} {xs:List UInt8} {bs:List Nat} (h:uj w [.slice y xs.length cap] xs bs) (hm:m≤xs.length) (J:m≤2000):
  kQ w.heap.size 0 (w.alloc (.cells #[.slice y m n,.int .i64 0] 149)):=by
 refine ⟨y,m,n,ω w _,J,fun k U=>?_⟩;obtain ⟨b,o,rfl,hb,hc⟩:=bytes_at h (show k < xs.length by omega);have I:=BU.lt h b hb;exact ⟨b,o,_,rfl,by omega,by rw [World.cell?_alloc_lt w _ _ I]; exact hc,by omega,by have:=xs[k].toNat_lt; omega⟩
theorem open_any (v:Value) (xs:List UInt8) (bs:List Nat) (w:World) (h:uj w [v] xs bs) (hn:xs.length≤1048576):
  Calls Tryz.prog 46 #[v] w (Opened w):=by
 obtain ⟨U,cap,rfl,hl,hm⟩:=aj h;have I:=ay hm;clear hm;by_cases h2:2000 < xs.length
 ·have y:=η (fun n=>He (n:=n) (m:=2000) h (by omega) (by omega))
  clear h;have J:(2000:Int)≤(cap:Int):=by omega
  go_enter Tryz.func46,Tryz.ntmps46
  go_wp2;go_ret;exact ⟨rfl,y.out _,ζ⟩
 ·have y:=η (He (n:=cap) (m:=xs.length) h (by omega) (by omega))
  clear h
  go_enter Tryz.func46,Tryz.ntmps46
  go_wp2;go_ret;exact ⟨rfl,y.out,ζ⟩
theorem D.KN {α:Type} {n:Nat} {R:Rel α} {w:World} {A:Option Addr} {l cap k:Nat} {xs:List α} {bs:List Nat} (h:iU n R w [.slice A l cap] xs bs) (hk:k≤xs.length):∃ b2,iU n R w [.slice A k cap] (xs.take k) b2∧∀ c ∈ b2,c ∈ bs:=by
 obtain ⟨a1,a0,I,hl,hm,h0,h1⟩:=h;simp only [List.cons.injEq,Value.slice.injEq,and_true] at I;obtain ⟨rfl,rfl,rfl⟩:=I;have hlen:(xs.take k).length=k:=by rw [List.length_take]; omega
 by_cases U:xs.take k = []
 ·have:k=0:=by rw [U] at hlen; simpa using hlen.symm
  subst this;exact ⟨[],⟨A,cap,by simp,by simp,hm,fun _=>rfl,fun y=>absurd (by simp) y⟩,fun c hc=>by simp at hc⟩
 ·have y:xs ≠ []:=fun e=>U (by rw [e]; simp)
  obtain ⟨b,o,rfl,F,G,rfl,hF⟩:=h1 y;refine ⟨b :: (List.range (xs.take k).length).flatMap G,⟨_,cap,by rw [hlen],by omega,hm,fun e=>absurd e U,fun _=>⟨b,o,rfl,F,G,rfl,fun j x J=>hF j x ?_⟩⟩,fun c hc=>?_⟩
  rotate_left
  ·rcases ύ.1 hc with rfl | hc
   ·exact Γ
   ·obtain ⟨j,J,hc⟩:=List.mem_flatMap.1 hc
    exact Δ _ (List.mem_flatMap.2 ⟨j,List.mem_range.2 (by have:=List.mem_range.1 J; omega),hc⟩)
  have a2:j < (xs.take k).length:=(List.getElem?_eq_some_iff.1 J).1;rw [List.getElem?_take_of_lt (by omega)] at J;exact J
end
section
open Go.RowKit D
attribute [local go_sem ↓] Go.wp_at_zero Go.wp_at_succ
theorem below_drewN {B:Nat} {a w:World} (h:Below B a w) (n:Nat):Below B a (w.drewN n):=⟨h.os,h.tape,h.output,h.size,h.block⟩
namespace D
theorem wY {y us:List T} {k:Nat} (h1:k < y.length) (I:k < us.length):lY (y.drop k) (us.drop k)=if gJ y[k].name us[k].name=0 then lY (y.drop (k+1)) (us.drop (k+1)) else gJ y[k].name us[k].name:=by
 rw [List.drop_eq_getElem_cons h1,List.drop_eq_getElem_cons I]; rfl
theorem wZ {y us:List T} {k:Nat} (h1:k < y.length) (I:us.length≤k):lY (y.drop k) (us.drop k)=1:=by
 rw [List.drop_eq_getElem_cons h1,List.drop_of_length_le I]; rfl
theorem xg {y us:List T} {k:Nat} (h1:y.length≤k) (I:k < us.length):lY (y.drop k) (us.drop k) = -1:=by
 rw [List.drop_eq_getElem_cons I,List.drop_of_length_le h1]; rfl
theorem xk {y us:List T} {k:Nat} (h1:y.length≤k) (I:us.length≤k):lY (y.drop k) (us.drop k)=0:=by
 rw [List.drop_of_length_le I,List.drop_of_length_le h1]; rfl
theorem OL (a b:ByteArray):(gJ a b = -1∧Op.bytesLess a.toList b.toList=true)∨(gJ a b=0∧Op.bytesLess a.toList b.toList=false∧(a.toList == b.toList)=true)∨(gJ a b=1∧Op.bytesLess a.toList b.toList=false∧(a.toList == b.toList)=false):=by
 rw [vJ,D6]
 rcases iL.vals a b with h | h | h <;> simp [h]
end D
theorem Ci (a b:ByteArray) (w:World):
  Calls Tryz.prog 209 #[.string a,.string b] w fun e w'=>e=.returned (.int .i64 (gJ a b))∧w'=w:=by
 rcases OL a b with ⟨h,h1⟩ | ⟨h,h1,y⟩ | ⟨h,h1,y⟩
 all_goals
  have H:=η h;clear h
  go_enter Tryz.func209,Tryz.ntmps209
  go_wp2;go_ret;exact ⟨fC H.out.symm,rfl⟩
theorem Hf (a b:A) (c0 c1 d0 d1:Value) (b1 b2:List Nat) (w:World) (h1:aJ w [c0,c1] a b1) (h2:aJ w [d0,d1] b b2):
  Calls Tryz.prog 157 #[.agg #[c0,c1],.agg #[d0,d1]] w fun e w'=>e=.returned (.int .i64 (bV a b))∧Below w.heap.size w w':=by
 obtain ⟨Ad,cap,rfl,rfl⟩:=bG h1;obtain ⟨Ae,J,rfl,rfl⟩:=bG h2;have t1:=dM h1;have t2:=dM h2;obtain ⟨_,_,a2,hl,hm⟩:=aj t1;obtain ⟨_,_,a3,a0,a1⟩:=aj t2;have a5:=ay (τ hl hm);have a4:=ay (τ a0 a1);clear a2 a3 hl a0 hm a1;have hc:bV a b=if gJ a.name b.name=0 then lY a.args b.args else gJ a.name b.name:=rfl
 have HC:=η hc;clear h1 h2 hc
 go_enter Tryz.func157,Tryz.ntmps157
 go_wp2_with (go_at_call 209; refine (Ci _ _ _).mono ?_; rintro e w' ⟨rfl,rfl⟩)
 have hA:=((Below.refl w.heap.size w).alloc ν (.cells #[.string a.name,.slice Ad a.args.length cap] 33)).alloc (by simp) (.cells #[.string b.name,.slice Ae b.args.length J] 33)
 go_loopw [5,6] (fun c i wr=>∃ (k:Nat) (z:Int),k≤a.args.length∧k≤b.args.length∧i=.int .i64 k∧c=.int .i64 z∧bV a b=(if z=0 then lY (a.args.drop k) (b.args.drop k) else z)∧Below w.heap.size w wr∧
   wr.cell? ⟨w.heap.size,1,none⟩=some (.slice Ad a.args.length cap)∧wr.cell? ⟨w.heap.size+1,1,none⟩=some (.slice Ae b.args.length J)) (fun _ i _=>a.args.length - (intOf i).toNat)
 case atStart=>exact ⟨0,_,ε,ε,rfl,rfl,HC.out,hA,by go_simp,by go_simp⟩
 case round=>
  obtain ⟨k,z,hk,a6,rfl,rfl,U,hb,x1,y1⟩:=hrel;have HZ:=η U;clear U hA;by_cases U:z=0
  ·subst U
   have H0:=η (HZ.out.trans (if_pos rfl));by_cases I:k < a.args.length
   ·by_cases y:k < b.args.length
    ·obtain ⟨b',o,rfl,_,_,c1,_⟩:=fJ (aQ.below t1 hb) I
     obtain ⟨a7,o',rfl,_,_,d1,_⟩:=fJ (aQ.below t2 hb) y;have HS:=η (wY I y);have a8:(0:Int)≤(k:Int):=by omega
     have a9:(k:Int) < (a.args.length:Int):=by omega
     have aa:(k:Int) < (b.args.length:Int):=by omega
     clear t1 t2;go_wp2
     go_quiet ((go_at_call 209; exact Calls.quiet_of_same (Ci _ _ _)))
     go_wp2;have HW:=η HZ;go_roundw
     case rel=>exact ⟨k+1,_,by omega,by omega,by go_num,rfl,by rw [H0.out,HS.out],below_drewN hb _,x1,y1⟩
     case measure=>simp [intOf]; omega
    ·have HS:=η (wZ I (Nat.le_of_not_lt y))
     have hx:¬ a.args.length < b.args.length:=by omega
     have hy:b.args.length < a.args.length:=by omega
     clear t1 t2;go_wp2;go_ret;exact ⟨fC (by rw [H0.out,HS.out]),hb⟩
   ·have he:a.args.length≤k:=by omega
    by_cases y:k < b.args.length
    ·have HS:=η (xg he y)
     have hx:a.args.length < b.args.length:=by omega
     clear t1 t2;go_wp2;go_ret;exact ⟨fC (by rw [H0.out,HS.out]),hb⟩
    ·have HS:=η (xk he (Nat.le_of_not_lt y))
     have hx:¬ a.args.length < b.args.length:=by omega
     have hy:¬ b.args.length < a.args.length:=by omega
     clear t1 t2;go_wp2;go_ret;exact ⟨fC (by rw [H0.out,HS.out]),hb⟩
  ·have H0:=η (HZ.out.trans (if_neg U))
   have ab:(z == 0)=false:=beq_eq_false_iff_ne.2 U;have ac:(z != 0)=true:=by simp [U]
   clear U;by_cases I:k < a.args.length
   all_goals by_cases y:k < b.args.length
   all_goals
    clear t1 t2;go_wp2;go_ret;exact ⟨fC H0.out.symm,hb⟩
def D.edge (n x y:ByteArray):A:=⟨n,[⟨true,x⟩,⟨true,y⟩]⟩
theorem D.Hg {w:World} {b:Nat} {x y:ByteArray} {U cy:Bool} (h:w.heap[b]? = some (.cells #[.bool U,.string x,.bool cy,.string y] 91 (0,0))) (hx:x.size≤maxLen) (hy:y.size≤maxLen):
  gG w [.slice (some ⟨b,0,none⟩) 2 2] [⟨U,x⟩,⟨cy,y⟩] [b]:=by
 refine ⟨_,2,rfl,ν,by unfold maxLen; omega,fun h=>by simp at h,fun _=>⟨b,0,rfl,fun k=>if k=0 then [.bool U,.string x] else [.bool cy,.string y],fun _=>[],by simp,fun k t J=>?_⟩⟩
 match k,J with
 | 0,J=>
  simp only [List.getElem?_cons_zero,Option.some.injEq] at J;subst J;refine ⟨rfl,fun j v I=>?_,rfl,hx,rfl⟩
  match j,I with
  | 0,I=>rw [ai h]; simpa using I
  | 1,I=>rw [ai h]; simpa using I
  | j+2,I=>simp at I
 | 1,J=>
  simp only [List.getElem?_cons_succ,List.getElem?_cons_zero,Option.some.injEq] at J;subst J;refine ⟨rfl,fun j v I=>?_,rfl,hy,rfl⟩
  match j,I with
  | 0,I=>rw [ai h]; simpa using I
  | 1,I=>rw [ai h]; simpa using I
  | j+2,I=>simp at I
 | k+2,J=>simp at J
theorem nJ (n x y:ByteArray) (w:World) (hn:n.size≤maxLen) (J:x.size≤maxLen) (U:y.size≤maxLen):
  Calls Tryz.prog 161 #[.string n,.string x,.string y] w fun e w'=>Below w.heap.size w w'∧w'.heap.size=w.heap.size+2∧∃ b,e=.returned (.agg #[.string n,.slice (some ⟨b,0,none⟩) 2 2])∧aJ w' [.string n,.slice (some ⟨b,0,none⟩) 2 2] (edge n x y) [b]∧b=w.heap.size+1:=by
 go_enter Tryz.func161,Tryz.ntmps161
 go_wp2
 have I:((w.alloc (.cells #[.string n,.slice (some ⟨w.heap.size+1,0,none⟩) 2 2] 33)).alloc (.cells #[.bool true,.string x,.bool true,.string y] 91)).heap[w.heap.size+1]? = some (.cells #[.bool true,.string x,.bool true,.string y] 91 (0,0)):=by
  simpa using ω (w.alloc (.cells #[.string n,.slice (some ⟨w.heap.size+1,0,none⟩) 2 2] 33)) (.cells #[.bool true,.string x,.bool true,.string y] 91)
 have z0:((w.alloc (.cells #[.string n,.slice (some ⟨w.heap.size+1,0,none⟩) 2 2] 33)).alloc (.cells #[.bool true,.string x,.bool true,.string y] 91)).cell? ⟨w.heap.size,0,none⟩=some (.string n):=by go_simp
 have z1:((w.alloc (.cells #[.string n,.slice (some ⟨w.heap.size+1,0,none⟩) 2 2] 33)).alloc (.cells #[.bool true,.string x,.bool true,.string y] 91)).cell? ⟨w.heap.size,1,none⟩=some (.slice (some ⟨w.heap.size+1,0,none⟩) 2 2):=by go_simp
 refine bodyPost_ret (v:=.agg #[.string n,.slice (some ⟨w.heap.size+1,0,none⟩) 2 2]) (by simp [results,Tryz.results161,go_sem,z0,z1]) rfl ?_;exact ⟨(ζ).alloc (by simp) _,by simp,_,rfl,⟨_,rfl,hn,Hg I J U⟩,rfl⟩
def D.UE (P:Prop) (w:World) (e:Ending) (w':World):Prop:=∃ r:Bool,e=.returned (.bool r)∧(r=true ↔ P)∧Below w.heap.size w w'
theorem D.bytes_eq {a b:ByteArray}:(a.toList == b.toList)=true ↔ a=b:=by
 rw [beq_iff_eq,ByteArray.toList_eq,ByteArray.toList_eq];constructor
 ·intro h; cases a; cases b; simp only [ByteArray.mk.injEq]; exact Array.toList_inj.1 h
 ·rintro rfl; rfl
theorem D.KO {a b:ByteArray}:(a.toList == b.toList)=false ↔ a ≠ b:=by
 rw [← Bool.not_eq_true,bytes_eq]
theorem D.Xh {t u:T}:t=u ↔ t.var=u.var∧t.name=u.name:=by cases t; cases u; simp
theorem D.Xi {a b:A}:a=b ↔ a.name=b.name∧a.args=b.args:=by cases a; cases b; simp
theorem OM (a b:A) (c0 c1 d0 d1:Value) (b1 b2:List Nat) (w:World) (h:aJ w [c0,c1] a b1) (U:aJ w [d0,d1] b b2):
  Calls Tryz.prog 57 #[.agg #[c0,c1],.agg #[d0,d1]] w (UE (a=b) w):=by
 have t1:=dM h;have t2:=dM U;obtain ⟨Ad,cap,rfl,rfl⟩:=bG h;obtain ⟨Ae,y,rfl,rfl⟩:=bG U;obtain ⟨_,_,_,hl,hm⟩:=aj t1;have a0:Below w.heap.size w ((w.alloc (.cells #[.string a.name,.slice Ad a.args.length cap] 33)).alloc (.cells #[.string b.name,.slice Ae b.args.length y] 33)):=(ζ).alloc (by simp) _;have a6:=ay (τ hl hm);clear h U hl hm;cases hn:(a.name.toList == b.name.toList)
 ·have HE:Hid (¬ a=b):=η (fun e=>KO.1 hn (by rw [e]))
  clear t1 t2
  go_enter Tryz.func57,Tryz.ntmps57
  go_wp2;go_ret;exact ⟨false,rfl,by simpa using HE.out,a0⟩
 ·by_cases hl:a.args.length=b.args.length
  ·have HN:=η (bytes_eq.1 hn)
   have x1:((w.alloc (.cells #[.string a.name,.slice Ad a.args.length cap] 33)).alloc (.cells #[.string b.name,.slice Ae b.args.length y] 33)).cell? ⟨w.heap.size,1,none⟩=some (.slice Ad a.args.length cap):=by go_simp
   have y1:((w.alloc (.cells #[.string a.name,.slice Ad a.args.length cap] 33)).alloc (.cells #[.string b.name,.slice Ae b.args.length y] 33)).cell? ⟨w.heap.size+1,1,none⟩=some (.slice Ae b.args.length y):=by go_simp
   have hq:((a.args.length:Int) == (b.args.length:Int))=true:=by simp [hl]
   have HL:=η hl;clear hl;have a1:=η (ι a0 (ι x1 y1));clear a0 x1 y1
   go_enter Tryz.func57,Tryz.ntmps57
   go_wp2
   go_loopw [5] (fun i wr=>∃ k:Nat,k≤a.args.length∧i=.int .i64 k∧(∀ j (h1:j < a.args.length) (U:j < b.args.length),j < k→a.args[j]=b.args[j])∧Below w.heap.size w wr∧wr.cell? ⟨w.heap.size,1,none⟩=some (.slice Ad a.args.length cap)∧wr.cell? ⟨w.heap.size+1,1,none⟩=some (.slice Ae b.args.length y)) (fun i _=>a.args.length - (intOf i).toNat)
   case atStart=>exact ⟨0,ε,rfl,fun j _ _ h=>by omega,a1.out.1,a1.out.2.1,a1.out.2.2⟩
   case round=>
    obtain ⟨k,hk,rfl,a2,hb,x1,y1⟩:=hrel;have HA:=η a2;clear a2 a1;by_cases a3:k < a.args.length
    ·have I:k < b.args.length:=by have:=HL.out; omega
     obtain ⟨bb,o,rfl,_,e0,e1,_⟩:=fJ (aQ.below t1 hb) a3;obtain ⟨bc,o',rfl,_,g0,g1,_⟩:=fJ (aQ.below t2 hb) I;have a7:(0:Int)≤(k:Int):=by omega
     have a8:(k:Int) < (a.args.length:Int):=by omega
     have a9:(k:Int) < (b.args.length:Int):=by omega
     have a4:=η (ι a3 I)
     have HU:Hid (a.args[k]=b.args[k]→∀ j (h1:j < a.args.length) (U:j < b.args.length),j < k+1→a.args[j]=b.args[j]):=η (fun e j h1 U hj=>by
      by_cases a5:j=k
      ·subst a5; exact e
      ·exact HA.out j h1 U (by omega))
     have HV:Hid (a.args[k] ≠ b.args[k]→¬ a=b):=η (fun J e=>J (by subst e; rfl));have HT:Hid (a.args[k]=b.args[k] ↔ a.args[k].var=b.args[k].var∧a.args[k].name=b.args[k].name):=η Xh;generalize a.args[k]=t at *;generalize b.args[k]=u at *;clear t1 t2 a3 I;cases hv:(t.var == u.var)
     ·have J:t ≠ u:=fun e=>by subst e; simp at hv
      have HW:=η (HV.out J)
      cases hz:(t.name.toList == u.name.toList) <;>
      ·go_wp2
       go_quiet (fail)
       go_wp2;go_ret;exact ⟨false,rfl,by simpa using HW.out,by first | exact hb | exact below_drewN hb _⟩
     ·cases hz:(t.name.toList == u.name.toList)
      ·have J:t ≠ u:=fun e=>by subst e; exact (KO.1 hz) rfl
       have HW:=η (HV.out J);go_wp2
       go_quiet (fail)
       go_wp2;go_ret;exact ⟨false,rfl,by simpa using HW.out,by first | exact hb | exact below_drewN hb _⟩
      ·have HW:=η (HU.out (HT.out.2 ⟨by simpa using hv,bytes_eq.1 hz⟩))
       go_wp2
       go_quiet (fail)
       go_wp2;go_roundw
       case rel=>exact ⟨k+1,a4.out.1,by go_num,HW.out,by first | exact hb | exact below_drewN hb _,by first | exact x1 | (go_simp; done),by first | exact y1 | (go_simp; done)⟩
       case measure=>have:=a4.out.1; simp [intOf]; omega
    ·have he:k=a.args.length:=by omega
     have HW:Hid (a=b):=η (Xi.2 ⟨HN.out,List.ext_getElem HL.out fun j h1 U=>HA.out j h1 U (by omega)⟩);subst he;clear t1 t2;go_wp2;go_ret;exact ⟨true,rfl,by simpa using HW.out,hb⟩
  ·have hq:((a.args.length:Int) == (b.args.length:Int))=false:=beq_eq_false_iff_ne.2 (by omega)
   have HE:Hid (¬ a=b):=η (fun e=>hl (by rw [e]));clear t1 t2 hl
   go_enter Tryz.func57,Tryz.ntmps57
   go_wp2;go_ret;exact ⟨false,rfl,by simpa using HE.out,a0⟩
end
section
open Go.RowKit D
namespace D
def mg (y:List T):List UInt8:=y.zipIdx.flatMap fun x=>(if x.2=0 then [] else [44]) ++ x.1.name.data.toList
def yw (a:A):List UInt8:=a.name.data.toList ++ [40] ++ mg a.args ++ [41]
theorem OO (y:List T) (k:Nat) (h:k < y.length):mg (y.take (k+1))=mg (y.take k) ++ ((if k=0 then [] else [44]) ++ y[k].name.data.toList):=by
 unfold mg;rw [ρ h,List.zipIdx_append,List.flatMap_append];have:(y.take k).length=k:=by simp; omega
 simp [this]
theorem UF (y:List T):(mg y).length≤jW y+y.length:=by
 have:∀ (y:List T) (n:Nat),((y.zipIdx n).flatMap fun x=>(if x.2=0 then [] else [44]) ++ x.1.name.data.toList).length≤jW y+y.length:=by
  intro y
  induction y with
  | nil=>intro n; simp [jW]
  | cons t r ih=>
   intro n;have:=ih (n+1);simp only [List.zipIdx_cons,List.flatMap_cons,χ,jW,List.map_cons,List.sum_cons,List.length_cons] at *;have I:t.name.data.toList.length=t.name.size:=Array.length_toList
   split <;> simp at * <;> omega
 exact this y 0
theorem Cj (y:List T) (k:Nat):jW (y.take k)≤jW y:=by
 have:=List.take_append_drop k y
 have h:jW y=jW (y.take k)+jW (y.drop k):=by
  conv=>lhs; rw [← this]
  unfold jW;rw [List.map_append,List.sum_append]
 omega
end D
end
section
open Go.RowKit Go.ChangeMaps Go.MapKept D
structure D.KP (P:Program) (kt:TypeId) (W:World→Prop) (S:Value→Prop):Prop where
 check:∀ (w:World) (em:Bool) {v:Value},S v→(Instr.checkKey em 10000 kt v).run P w=.ok () w
 find:∀ {w:World},W w→∀ {k:Value},S k→∀ (es:List MapEntry),(∀ e ∈ es,S e.key)→
  ((Instr.findKey kt k es).run P w=.ok none w∧∀ e ∈ es,e.key ≠ k)∨∃ i e,(Instr.findKey kt k es).run P w=.ok (some (i,e.val)) w∧es[i]? = some e∧e.key=k
 same:∀ {v:Value},S v→Instr.sameBits 10000 v v=true
structure D.Yg (P:Program) (kt:TypeId) (W:World→Prop) (S:Value→Prop):Prop where
 now:∃ d,P.underlying kt=some d∧∀ a b,S a→S b→Instr.sameNow d a b=none
 eq:∀ {w:World} {a b:Value},W w→S a→S b→∃ r:Bool,(Op.equal kt a b).run P w=.ok r w∧(r=true ↔ a=b)
structure D.oG (S:Value→Prop) (b:Nat) (L:List (Value × Value)) (w:World):Prop where
 blk:∃ es clock,w.heap[b]? = some (.map es clock)∧es.toList.map (fun e=>(e.key,e.val))=L
 keys:∀ p ∈ L,S p.1
 once:L.Pairwise fun p q=>p.1 ≠ q.1
section
variable {P:Program} {kt:TypeId} {W:World→Prop} {S:Value→Prop}
theorem yx (hK:Yg P kt W S) {w:World} (hW:W w) {k:Value} (hk:S k):∀ (es:List MapEntry) (y:Nat),(∀ e ∈ es,S e.key)→
  ((Instr.findAsking kt k es y).run P w=.ok none w∧∀ e ∈ es,e.key ≠ k)∨∃ i e,(Instr.findAsking kt k es y).run P w=.ok (some (y+i,e.val)) w∧es[i]? = some e∧e.key=k
 | [],y,_=>.inl ⟨rfl,fun e he=>by simp at he⟩
 | e :: es,y,hs=>by
  obtain ⟨r,hr,I⟩:=hK.eq hW hk (hs e Γ)
  cases r with
  | true=>
   refine .inr ⟨0,e,?_,rfl,(I.1 rfl).symm⟩;unfold Instr.findAsking;simp [go_sem,hr]
  | false=>
   have U:e.key ≠ k:=fun h=>by have:=I.2 h.symm; simp at this
   rcases yx hK hW hk es (y+1) (fun x J=>hs x (Δ _ J)) with ⟨h1,h2⟩ | ⟨i,e',h1,h2,h3⟩
   ·refine .inl ⟨?_,fun x J=>?_⟩
    ·unfold Instr.findAsking
     simp [go_sem,hr,h1]
    ·rcases ύ.1 J with rfl | J
     ·exact U
     ·exact h2 x J
   ·refine .inr ⟨i+1,e',?_,by simpa using h2,h3⟩
    have:y+1+i=y+(i+1):=by omega
    rw [this] at h1;unfold Instr.findAsking;simp [go_sem,hr,h1]
theorem Rn (hK:Yg P kt W S) {w:World} (U:W w) {k:Value} (y:S k) (es:List MapEntry) (I:∀ e ∈ es,S e.key):
  ((Instr.findKey kt k es).run P w=.ok none w∧∀ e ∈ es,e.key ≠ k)∨∃ i e,(Instr.findKey kt k es).run P w=.ok (some (i,e.val)) w∧es[i]? = some e∧e.key=k:=by
 obtain ⟨d,J,hn⟩:=hK.now
 cases es with
 | nil=>exact .inl ⟨by simp [Instr.findKey,Instr.findNow,run_underlying J,Result.andThen],fun e he=>by simp at he⟩
 | cons e es=>
  have h0:Instr.findNow d k (e :: es) 0=none:=by
   unfold Instr.findNow;rw [hn _ _ y (I e Γ)]
  have hf:(Instr.findKey kt k (e :: es)).run P w=(Instr.findAsking kt k (e :: es)).run P w:=by simp [Instr.findKey,run_underlying J,h0,Result.andThen]
  rw [hf]
  rcases yx hK U y (e :: es) 0 I with h | ⟨i,e',h1,h2,h3⟩
  ·exact .inl h
  ·exact .inr ⟨i,e',by simpa using h1,h2,h3⟩
theorem mZ (hK:KP P kt W S) {w:World} (y:W w) {k:Value} (I:S k) (es:List MapEntry) (J:∀ e ∈ es,S e.key):
 ((Instr.findKey kt k es).run P w=.ok none w∧∀ e ∈ es,e.key ≠ k)∨∃ i e,(Instr.findKey kt k es).run P w=.ok (some (i,e.val)) w∧es[i]? = some e∧e.key=k:=hK.find y I es J
theorem D.Xj {L:List (Value × Value)} (h:L.Pairwise fun p q=>p.1 ≠ q.1) {i j:Nat} {p q:Value × Value} (J:L[i]? = some p) (U:L[j]? = some q) (e:p.1=q.1):i=j:=by
 obtain ⟨y,rfl⟩:=List.getElem?_eq_some_iff.1 J;obtain ⟨I,rfl⟩:=List.getElem?_eq_some_iff.1 U
 rcases Nat.lt_trichotomy i j with h1 | h1 | h1
 ·exact absurd e (List.pairwise_iff_getElem.1 h i j y I h1)
 ·exact h1
 ·exact absurd e.symm (List.pairwise_iff_getElem.1 h j i I y h1)
theorem D.oG.same {b:Nat} {L:List (Value × Value)} {w w':World} (h:oG S b L w) (e:w'.heap[b]? = w.heap[b]?):oG S b L w':=by
 obtain ⟨⟨es,c,h1,y⟩,I,J⟩:=h;exact ⟨⟨es,c,e.trans h1,y⟩,I,J⟩
theorem D.oG.below {b:Nat} {L:List (Value × Value)} {w w':World} {B:Nat} (h:oG S b L w) (hb:Below B w w') (hB:b < B):oG S b L w':=h.same (hb.block b hB)
theorem D.oG.made (w:World):oG S w.heap.size [] (w.alloc (.map #[] 0)):=
 ⟨⟨#[],0,(MapKept.heap_alloc w _).1,rfl⟩,fun p h=>by simp at h,List.Pairwise.nil⟩
section
variable {ops:Array Oper} {rest:List Oper} {o:Oper} {a:Act} {Q:Exit→Act→World→Prop}
theorem rJ (hK:KP P kt W S) {w:World} (hW:W w) (c:Bool) {t e:TypeId} (ht:P.underlying t=some (.map kt e))
  {b:Nat} {L:List (Value × Value)} (h:oG S b L w) {k v:Value} (hk:(k,v) ∈ L):(Instr.lookup t (.map (some b)) k c).run P w=.ok (if c then .tuple #[v,.bool true] else v) w:=by
 obtain ⟨⟨es,ck,hb,rfl⟩,h2,h3⟩:=h;have hS:S k:=h2 _ hk;have U:∀ e ∈ es.toList,S e.key:=fun e he=>h2 (e.key,e.val) (List.mem_map.2 ⟨e,he,rfl⟩)
 obtain ⟨e0,I,y⟩:=List.mem_map.1 hk;simp only [Prod.mk.injEq] at y
 rcases mZ hK hW hS es.toList U with ⟨h5,J⟩ | ⟨i,e1,h5,J,h7⟩
 ·exact absurd y.1 (J e0 I)
 ·obtain ⟨j,hj,ej⟩:=List.getElem_of_mem I
  have a0:j=i:=Xj h3 (p:=(e0.key,e0.val)) (q:=(e1.key,e1.val)) (by simp [Ψ hj,ej]) (by simp [J]) (by simp [y.1,h7])
  have a1:e1.val=v:=by
   rw [← a0,Ψ hj,ej] at J;rw [← y.2,Option.some.inj J]
  simp [Instr.lookup,run_underlying ht,MapKept.run_getObj_map hb,hK.check w _ hS,h5,a1,Result.andThen]
theorem D.mr {w:World} {b:Nat} {es:Array MapEntry} {c:Nat} (hb:w.heap[b]? = some (.map es c)) (o:Obj):w.grownBy (setBlock w b o) (some b):=
 ⟨rfl,rfl,rfl,by simp [setBlock],fun i _ y=>heap_setBlock_other hb _ (fun e=>y (by rw [e]))⟩
end
end
end
end Go.Proofs.YtkjinanbccloeaaGreatDoor
