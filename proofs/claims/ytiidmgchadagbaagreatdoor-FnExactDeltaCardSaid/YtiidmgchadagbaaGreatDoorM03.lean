/- Of the proof of FnExactDelta: Inv, CollN, Str, CopyB, GoneP, Sz, To, CmpS, MarkTs. -/
import Derived.Test.YtiidmgchadagbaaGreatDoorM02
import Derived.Test.YtiidmgchadagbaaGreatDoorProg
import Derived.ShutString
set_option linter.unusedVariables false
set_option maxHeartbeats 1000000
namespace Go.Proofs.YtiidmgchadagbaaGreatDoor
open Go
def D.dn (listed:Array Bool) (j:Nat):Bool:=listed.getD j false
theorem D.Gi (listed:Array Bool) (i j:Nat) (hi:i < listed.size):dn (listed.setIfInBounds i true) j=if j=i then true else dn listed j:=by
 unfold dn;by_cases h:j=i
 ·subst h
  simp [Array.getD,hi]
 ·rw [if_neg h]
  simp only [Array.getD_eq_getD_getElem?,Array.getElem?_setIfInBounds_ne (Ne.symm h)]
def D.Rn (md:Region.Mode) (ops:Array Oper):Bool:=(List.range ops.size).all fun i=>((ops[i]?).map fun o=>o.after.all fun e=>!Region.binds md e || decide (e.on < i)).getD true
theorem D.O7 {P:Program} {ops:Array Oper} {md:Region.Mode} {Q:Exit→Act→World→Prop} (J:(Nat→Bool)→Act→World→Prop) (hback:D.Rn md ops=true)
  (hstep:∀ i o,ops[i]? = some o→∀ f a w,J f a w→f i=false→(o.after.all fun e=>!Region.binds md e || f e.on)=true→wpOp P ops Q i (J fun j=>if j=i then true else f j) a w)
  (hdone:∀ f a w,(∀ i,i < ops.size→f i=true)→J f a w→Q .normal a w):
  ∀ (fuel:Nat) (listed:Array Bool) (a:Act) (w:World),listed.size=ops.size→((List.range ops.size).countP fun i=>!dn listed i)≤fuel→J (dn listed) a w→wpAny P md ops Q fuel listed a w:=by
 have hready:∀ (listed:Array Bool) (i:Nat),listed.size=ops.size→i ∈ Region.ready md ops listed→∃ o,ops[i]? = some o∧i < ops.size∧dn listed i=false∧(o.after.all fun e=>!Region.binds md e || dn listed e.on)=true:=by
  intro listed i hs hi;unfold Region.ready at hi;obtain ⟨h1,h2⟩:=List.mem_filter.1 hi;have hlt:=List.mem_range.1 h1;obtain ⟨o,ho⟩:∃ o,ops[i]? = some o:=⟨ops[i],Array.getElem?_eq_getElem hlt⟩;rw [ho] at h2;simp only [Option.map_some,Option.getD_some,Bool.and_eq_true] at h2;refine ⟨o,ho,hlt,?_,h2.2⟩;have h3:=h2.1;unfold dn;have hl2:i < listed.size:=by omega
  simp only [Array.getD,hl2,dif_pos,Bool.not_eq_true'] at h3 ⊢;exact h3
 have hall:∀ (listed:Array Bool),listed.size=ops.size→Region.ready md ops listed = []→∀ i,i < ops.size→dn listed i=true:=by
  intro listed hs hr i
  induction i using Nat.strongRecOn with
  | _ i ih=>
   intro hlt
   cases hd:dn listed i with
   | true=>rfl
   | false=>
    exfalso
    have:i ∈ Region.ready md ops listed:=by
     unfold Region.ready;refine List.mem_filter.2 ⟨List.mem_range.2 hlt,?_⟩;have hl2:i < listed.size:=by omega
     unfold dn at hd;rw [Array.getElem?_eq_getElem hlt];simp only [Array.getD,hl2,dif_pos] at hd ⊢;simp only [Option.map_some,Option.getD_some,hd,Bool.not_false,Bool.true_and,Array.all_eq_true];intro k hk;have hb:=hback;unfold Rn at hb;have hb1:=List.all_eq_true.1 hb i (List.mem_range.2 hlt);rw [Array.getElem?_eq_getElem hlt] at hb1;simp only [Option.map_some,Option.getD_some,Array.all_eq_true] at hb1;have hb2:=hb1 k hk
     cases hbi:Region.binds md (ops[i]).after[k] with
     | false=>simp
     | true=>
      rw [hbi] at hb2;have hon:((ops[i]).after[k]).on < i:=by simpa using hb2
      have:=ih _ hon (by omega);unfold dn at this;simp only [Bool.not_true,Bool.false_or];exact this
    rw [hr] at this;cases this
 intro fuel
 induction fuel with
 | zero=>
  intro listed a w hs hc hJ;have hz:∀ i ∈ List.range ops.size,¬ (!dn listed i)=true:=List.countP_eq_zero.1 (Nat.le_zero.1 hc)
  have hnil:Region.ready md ops listed = []:=by
   cases hr:Region.ready md ops listed with
   | nil=>rfl
   | cons i rs=>
    obtain ⟨o,ho,hlt,hf,_⟩:=hready listed i hs (by rw [hr]; exact List.mem_cons_self ..);exact absurd (by simp [hf]) (hz i (List.mem_range.2 hlt))
  exact ⟨hnil,hdone _ a w (hall listed hs hnil) hJ⟩
 | succ fuel ih=>
  intro listed a w hs hc hJ;refine ⟨fun hnil=>hdone _ a w (hall listed hs hnil) hJ,fun i hi=>?_⟩;obtain ⟨o,ho,hlt,hf,haf⟩:=hready listed i hs hi;refine wpOp_mono (fun a' w' hJ'=>ih _ a' w' (by simpa using hs) ?_ ?_) (hstep i o ho (dn listed) a w hJ hf haf)
  ·have h1:∀ (l:List Nat),l.Nodup→i ∈ l→(l.countP fun j=>!dn (listed.setIfInBounds i true) j)+1≤l.countP fun j=>!dn listed j:=by
    intro l
    induction l with
    | nil=>intro _ h; cases h
    | cons x l ihl=>
     intro hnd hm;have hnd':=List.nodup_cons.1 hnd;rw [List.countP_cons,List.countP_cons];by_cases hx:x=i
     ·subst hx
      have e1:(l.countP fun j=>!dn (listed.setIfInBounds x true) j)=l.countP fun j=>!dn listed j:=List.countP_congr fun j hj=>by
       have hne:j ≠ x:=fun e=>hnd'.1 (by rw [← e]; exact hj)
       rw [Gi _ _ _ (by omega),if_neg hne]
      rw [e1,Gi _ _ _ (by omega),if_pos rfl,hf];simp
     ·have:=ihl hnd'.2 (by rcases List.mem_cons.1 hm with h | h; exact absurd h.symm hx; exact h)
      rw [Gi _ _ _ (by omega),if_neg hx];omega
   have:=h1 _ List.nodup_range (List.mem_range.2 hlt);omega
  ·have:dn (listed.setIfInBounds i true)=fun j=>if j=i then true else dn listed j:=funext fun j=>Gi _ _ _ (by omega)
   rw [this];exact hJ'
theorem D.pJ {P:Program} {ops:Array Oper} {Q:Exit→Act→World→Prop} {id:Nat} (J:(Nat→Bool)→Act→World→Prop) (hm:P.follows .mixedOrders=true) (hback:D.Rn .any ops=true) {a:Act} {w:World}
  (h0:J (fun _=>false) a w.drew)
  (hstep:∀ i o,ops[i]? = some o→∀ f a w,J f a w→f i=false→(o.after.all fun e=>!Region.binds .any e || f e.on)=true→wpOp P ops Q i (J fun j=>if j=i then true else f j) a w)
  (hdone:∀ f a w,(∀ i,i < ops.size→f i=true)→J f a w→Q .normal a w):(Code.region id ops true).wp P Q a w:=by
 refine wp_region_any hm ?_;refine O7 J hback hstep hdone _ _ _ _ (by simp) ?_ ?_
 ·exact Nat.le_trans List.countP_le_length (by simp)
 ·have:dn (Array.replicate ops.size false)=fun _=>false:=funext fun j=>by
   unfold dn;by_cases h:j < ops.size
   ·simp [Array.getD,h]
   ·simp [Array.getD,h]
  rw [this];exact h0
end Go.Proofs.YtiidmgchadagbaaGreatDoor
namespace Go.Proofs.YtiidmgchadagbaaGreatDoor
open Go.RowKit D
theorem D.cO.new {α:Type} {n:Nat} {R:Rel α} {base e:Nat} {w:World} {v:Value} {L:List Value} {xs:List α} {bs:List Nat} (h:cO n R base e w v L xs bs) (hN:New base w bs):∃ b2,iR n R w [v] xs b2∧New base w b2:=by
 obtain ⟨hown,⟨h1,_,G,rfl,h3⟩,hfar⟩:=h;have hown':=hown
 rcases hown.2 with ⟨rfl,hL⟩ | ⟨g,cap,cur,rfl,hg,hh,hc1,hc2,hc3⟩
 ·have hx:xs = []:=by
   by_cases hne:xs = []
   ·exact hne
   ·exfalso
    have hpos:0 < xs.length:=List.length_pos_iff.2 hne
    first
     | (rw [hL] at hpos; omega)
     | omega
  subst hx;exact ⟨[],⟨none,0,rfl,Nat.zero_le _,Nat.zero_le _,fun _=>rfl,fun h=>absurd rfl h⟩,New.nil _ _⟩
 ·by_cases hne:xs = []
  ·subst hne
   exact ⟨[],⟨_,cap,rfl,hc1,hc2,fun _=>rfl,fun h=>absurd rfl h⟩,New.nil _ _⟩
  ·refine ⟨g :: (List.range xs.length).flatMap G,⟨_,cap,rfl,hc1,hc2,fun h=>absurd h hne,fun _=>⟨g,0,rfl,fun k=>(L.drop (k * n)).take n,G,rfl,fun k x hx=>?_⟩⟩,?_⟩
   ·obtain ⟨hkl,rfl⟩:=List.getElem?_eq_some_iff.1 hx
    have hmul:k * n+n≤xs.length * n:=by
     have:=Nat.mul_le_mul_right n (show k+1≤xs.length by omega);rw [Nat.add_mul,Nat.one_mul] at this; exact this
    refine ⟨by simp; omega,fun j v hv=>?_,h3 k hkl⟩
    have hjn:j < n:=by
     have:=(List.getElem?_eq_some_iff.1 hv).1;simp at this; omega
    rw [List.getElem?_take_of_lt hjn,List.getElem?_drop] at hv;rw [Nat.zero_add,hown'.cellAt (k * n+j) (by omega)];exact hv
   ·refine ⟨List.nodup_cons.2 ⟨fun hm=>hfar g hm rfl,hN.nodup⟩,fun b hb=>?_⟩
    rcases List.mem_cons.1 hb with rfl | hb
    ·exact ⟨hg,cur,_,hh⟩
    ·exact hN.own b hb
theorem Ey (s : ByteArray) (w : World) (hs : s.size ≤ maxLen) :
    Calls Tryz.prog 211 #[.string s] w fun e w' => e = .returned (.bool (oL s.data.toList)) ∧ w = w' := by
  unfold maxLen at hs
  go_enter Tryz.func211, Tryz.ntmps211
  go_wp2
  go_loop [3, 4] (fun i _ => ∃ k : Nat, k ≤ s.size ∧ i = .int .i64 k ∧ oL (s.data.toList.take k) = true) (fun i _ => s.size - (intOf i).toNat)
  case atStart => exact ⟨0, Nat.zero_le _, rfl, rfl⟩
  case round =>
    obtain ⟨k, hk, rfl, hl⟩ := hrel;have HL := Lib.hid hl;clear hl;by_cases hlt : k < s.size
    · by_cases hb : low s[k] = false
      · have hbad := Ii s k hlt hb
        have HB := Lib.hid hbad;rw [wP] at hb;clear hbad;go_wp2
        all_goals first
          | (exfalso; omega)
          | (go_ret; exact ⟨aO HB.out.symm, rfl⟩)
      · have hg : low s[k] = true := by simpa using hb
        have hs1 := Em s k hlt HL.out;rw [hg] at hs1;have HS := Lib.hid hs1;have hn := mt (wP s[k]).2 hb;clear hs1 hg hb;go_wp2
        all_goals first
          | (exfalso; omega)
          | (go_round
             case rel => exact ⟨k + 1, by omega, by go_num, HS.out⟩
             case measure => simp [intOf]; omega)
    · have he : k = s.size := by omega
      subst he;have HE := Lib.hid ((Ij s).symm.trans HL.out);go_wp2;go_ret;exact ⟨aO HE.out.symm, rfl⟩
theorem VP (a b c:Int) (w:World):
  Calls Tryz.prog 213 #[.int .i64 a,.int .i64 b,.int .i64 c] w fun e w'=>e=.returned (.bool (decide (b≤a) && decide (a≤c)))∧w=w':=by
 by_cases h1:b≤a
 all_goals by_cases h2:a≤c
 all_goals
  go_enter Tryz.func213,Tryz.ntmps213
  go_wp2;go_ret;exact ⟨aO (by simp [h1,h2]),rfl⟩
theorem zo (s : ByteArray) (w : World) (hs : s.size ≤ maxLen) :
    Calls Tryz.prog 191 #[.string s] w fun e w' => e = .returned (.bool (oL s.data.toList && decide (1 ≤ s.size) && decide (s.size ≤ 8))) ∧ w = w' := by
  unfold maxLen at hs
  go_enter Tryz.func191, Tryz.ntmps191
  go_wp2
  go_loop [3] (fun i => ∃ k : Nat, k ≤ s.size ∧ i = .int .i64 k ∧ oL (s.data.toList.take k) = true) (fun i => s.size - (intOf i).toNat)
  case atStart => exact ⟨0, Nat.zero_le _, rfl, rfl⟩
  case round =>
    obtain ⟨k, hk, rfl, hl⟩ := hrel;have HL := Lib.hid hl;clear hl;by_cases hlt : k < s.size
    · by_cases hb : low s[k] = false
      · have hbad := Ii s k hlt hb
        have HB := Lib.hid hbad;rw [wP] at hb;clear hbad;go_wp2
        all_goals first
          | (exfalso; omega)
          | (go_ret; exact ⟨aO (by rw [HB.out]; rfl), rfl⟩)
      · have hg : low s[k] = true := by simpa using hb
        have hs1 := Em s k hlt HL.out;rw [hg] at hs1;have HS := Lib.hid hs1;have hn := mt (wP s[k]).2 hb;clear hs1 hg hb;go_wp2
        all_goals first
          | (exfalso; omega)
          | (go_round
             case rel => exact ⟨k + 1, by omega, by go_num, HS.out⟩
             case measure => simp [intOf]; omega)
    · have he : k = s.size := by omega
      subst he;have HE := Lib.hid ((Ij s).symm.trans HL.out)
      go_wp2_with (go_at_call 213; refine (VP _ _ _ _).mono ?_; rintro e w' ⟨rfl, rfl⟩)
      go_ret;exact ⟨aO (by rw [HE.out, Bool.eq_iff_iff]; simp; omega), rfl⟩
theorem LQ (s:ByteArray):iQ s=((oL s.data.toList && decide (1≤s.size) && decide (s.size≤8)) && !(s.toList == [110,111,116])):=by
 unfold iQ
 cases decide (1≤s.size) <;> cases decide (s.size≤8) <;> cases oL s.data.toList <;> rfl
theorem zq (s:ByteArray) (w:World) (hs:s.size≤maxLen):
  Calls Tryz.prog 164 #[.string s] w fun e w'=>e=.returned (.bool (iQ s))∧w=w':=by
 rw [LQ];have hc:=zo s w hs;generalize (oL s.data.toList && decide (1≤s.size) && decide (s.size≤8))=b at *;cases b
 all_goals
  go_enter Tryz.func164,Tryz.ntmps164
  go_wp2_with (go_at_call 191; refine hc.mono ?_; rintro e w' ⟨rfl,rfl⟩)
  go_ret;exact ⟨rfl,rfl⟩
theorem zu (s:ByteArray) (w:World) (hs:s.size≤maxLen):
  Calls Tryz.prog 188 #[.string s] w fun e w'=>e=.returned (.bool (iQ s))∧w=w':=by
 unfold iQ;have hc:=Ey s w hs;generalize oL s.data.toList=b at *;by_cases h1:1≤s.size
 all_goals by_cases h2:s.size≤8
 all_goals cases b
 all_goals
  go_enter Tryz.func188,Tryz.ntmps188
  go_wp2_with (go_at_call 211; refine hc.mono ?_; rintro e w' ⟨rfl,rfl⟩)
  all_goals (go_ret; exact ⟨aO (by simp [h1,h2]),rfl⟩)
theorem II (s:ByteArray) (w:World) (hs:s.size≤maxLen):
  Calls Tryz.prog 221 #[.string s] w fun e w'=>e=.returned (.bool (rU s))∧w=w':=by
 unfold maxLen at hs;by_cases h0:0 < s.size
 ·have hc:rU s=big s[0]:=by unfold rU; rw [Ik s h0]; simp [h0]
  rw [hc];have hne:=Il s h0;by_cases h1:65≤(s[0].toNat:Int)
  all_goals by_cases h2:(s[0].toNat:Int)≤90
  all_goals
   go_enter Tryz.func221,Tryz.ntmps221
   go_wp2
   all_goals (go_ret; exact ⟨aO (by rw [Bool.eq_iff_iff,Au]; simp; omega),rfl⟩)
 ·have hne:=QW s h0
  have hc:rU s=false:=by unfold rU; simp [h0]
  rw [hc]
  go_enter Tryz.func221,Tryz.ntmps221
  go_wp2;go_ret;exact ⟨rfl,rfl⟩
theorem Bl (s:ByteArray) (w:World) (hs:s.size≤maxLen):
  Calls Tryz.prog 212 #[.string s] w fun e w'=>e=.returned (.bool (wQ s))∧w=w':=by
 have hc:=II s w hs;have hp:=Ey (s.extract 1 s.size) w (by simp; omega);rw [tail_at] at hp;unfold wQ;unfold maxLen at hs;by_cases h8:s.size≤8
 all_goals cases hb:rU s
 all_goals rw [hb] at hc
 case neg.false | neg.true | pos.false=>
  go_enter Tryz.func212,Tryz.ntmps212
  go_wp2_with (go_at_call 221; refine hc.mono ?_; rintro e w' ⟨rfl,rfl⟩)
  all_goals (go_ret; exact ⟨aO (by simp [h8]),rfl⟩)
 case pos.true=>
  have h1:=QX hb;clear hb;generalize oL s.data.toList.tail=b at *
  go_enter Tryz.func212,Tryz.ntmps212
  go_wp2_with (first | (go_at_call 221; refine hc.mono ?_; rintro e w' ⟨rfl,rfl⟩) | (go_at_call 211; refine hp.mono ?_; rintro e w' ⟨rfl,rfl⟩))
  all_goals (go_ret; exact ⟨aO (by simp [h8]),rfl⟩)
theorem Ez:(Tryz.prog.info? 109).map (fun i=>(i.zero,i.size,i.bytes))=some (some (.agg #[.bool false,.string ⟨#[]⟩]),2,24):=by kernel_rfl
theorem Ro:(Tryz.prog.info? 109).map (·.size)=some 2:=by kernel_rfl
theorem qg:(Tryz.prog.info? 68).map (fun i=>(i.zero,i.size,i.bytes))=some (some (.agg #[.string ⟨#[]⟩,.slice none 0 0]),2,40):=by kernel_rfl
theorem D.Bq (w:World):eY w [.slice none 0 0] [] []:=⟨none,0,rfl,Nat.le_refl _,Nat.zero_le _,fun _=>rfl,fun h=>absurd rfl h⟩
theorem D.dA (w:World):aI w [.slice none 0 0] [] []:=⟨none,0,rfl,Nat.le_refl _,Nat.zero_le _,fun _=>rfl,fun h=>absurd rfl h⟩
theorem D.UM {w:World} {L:List Value} {xs:List T} {bs:List Nat} (h:aV 2 nD w L xs bs):bs = []:=by
 obtain ⟨_,_,G,rfl,hG⟩:=h;rw [List.flatMap_eq_nil_iff];intro j hj;obtain ⟨_,_,h⟩:=hG j (List.mem_range.1 hj);exact h
theorem D.EC {w w2:World} {base e:Nat} {A:Option Addr} {cap:Nat} {L:List Value} {xs:List T} {bs:List Nat} (h:aV 2 nD w L xs bs) (hown:w2.ownsRow base e 2 (.slice A xs.length cap) xs.length L):
  ∃ b2,eY w2 [.slice A xs.length cap] xs b2∧New base w2 b2:=by
 obtain rfl:=UM h;have h2:aV 2 nD w2 L xs []:=h.keep eP fun b hb=>by simp at hb
 rcases hown.2 with ⟨hv,hx⟩ | ⟨g,cap',cur,hv,hg,hh,hc1,hc2,hc3,hc4⟩
 ·have hx0:xs = []:=List.length_eq_zero_iff.1 hx
  subst hx0;simp only [Value.slice.injEq,List.length_nil] at hv;obtain ⟨rfl,-,rfl⟩:=hv;exact ⟨[],Bq w2,New.nil _ _⟩
 ·obtain ⟨b2,hs,hb⟩:=h2.slice hown
  simp only [Value.slice.injEq] at hv;obtain ⟨rfl,-,rfl⟩:=hv;by_cases hne:xs = []
  ·subst hne
   exact ⟨[],⟨_,cap,rfl,hc1,hc2,fun _=>rfl,fun h=>absurd rfl h⟩,New.nil _ _⟩
  ·obtain ⟨Ad',cap'',hcs,_,_,_,h1⟩:=id hs
   obtain ⟨b,o,hAd,F,G,rfl,hF⟩:=h1 hne
   have hG:(List.range xs.length).flatMap G = []:=by
    rw [List.flatMap_eq_nil_iff];intro j hj;obtain ⟨_,_,_,_,h⟩:=hF j _ (List.getElem?_eq_getElem (List.mem_range.1 hj));exact h
   rw [hG] at hs;simp only [List.cons.injEq,Value.slice.injEq,and_true] at hcs
   have hb':b=g:=by
    have:=hcs.1.symm.trans rfl;rw [hAd] at this;simp at this;exact this.1
   subst hb'
   exact ⟨[b],hs,⟨by simp,fun c hc=>by
    obtain rfl:c=b:=by simpa using hc
    exact ⟨hg,cur,e,hh⟩⟩⟩
theorem D.Bz {xs:List A} (h1:xs.length≤300) (h2:∀ x ∈ xs,dM x=true) (h3:ig xs=true):bH xs=true:=by
 rw [qG];have:okB xs=true:=by unfold okB; rw [Bool.and_eq_true]; exact ⟨List.all_eq_true.2 h2,h3⟩
 rw [this]; simp [h1]
theorem LU (t:T) (left:Int) (w:World) (hs:t.name.size≤maxLen) (h0:0≤left) (h1:left≤1048576):
  Calls Tryz.prog 86 #[.agg #[.bool t.var,.string t.name],.int .i64 left] w (Left left t.name.size w.heap.size w):=by
 unfold maxLen at hs
 go_enter Tryz.func86,Tryz.ntmps86
 go_wp2
 all_goals go_ret
 ·exact ⟨(Below.refl _ _).alloc (Nat.le_refl _) _,_,rfl,.inl rfl⟩
 ·exact ⟨(Below.refl _ _).alloc (Nat.le_refl _) _,_,rfl,.inr ⟨by assumption,by omega⟩⟩
theorem IJ (ts:List T) (v:Value) (bs:List Nat) (left:Int) (w:World) (h:eY w [v] ts bs) (h0:0≤left) (h1:left≤1048576):
  Calls Tryz.prog 54 #[v,.int .i64 left] w (Left left (ts.length+iT ts) w.heap.size w):=by
 obtain ⟨Ad,cap,rfl,hl,hm⟩:=af h;have hlm:=au (Nat.le_trans hl hm);clear hm
 go_enter Tryz.func54,Tryz.ntmps54
 go_wp2
 ·go_ret
  exact ⟨Below.refl _ _,_,rfl,.inl rfl⟩
 ·go_loopw [1,5] (fun l i wr=>∃ (k:Nat) (m:Int),k≤ts.length∧i=.int .i64 k∧l=.int .i64 m∧0≤m∧m≤1048576∧m+ts.length+iT (ts.take k)=left∧Below w.heap.size w wr) (fun _ i _=>ts.length - (intOf i).toNat)
  case atStart=>exact ⟨0,_,Nat.zero_le _,rfl,rfl,by assumption,by omega,by simp [iT],Below.refl _ _⟩
  case round=>
   obtain ⟨k,m,hk,rfl,rfl,hm0,hm1,hsum,hb⟩:=hrel;have HS:=η hsum;clear hsum;by_cases hlt:k < ts.length
   ·have hw:=aH.below h hb
    obtain ⟨b,o,rfl,_,c0,c1,hnm⟩:=dV hw hlt;have HT:=η (zk ts k hlt);clear h hw;generalize ts[k]=t at *
    go_wp2_with (go_at_call 86; refine (LU _ _ _ hnm hm0 hm1).mono ?_; rintro e w' ⟨hb',r,rfl,hr⟩)
    ·rcases hr with rfl | ⟨_,_⟩
     ·go_ret
      exact ⟨hb.trans (hb'.mono hb.size),_,rfl,.inl rfl⟩
     ·exfalso; omega
    ·rcases hr with rfl | ⟨hr0,hr1⟩
     ·exfalso; omega
     ·have:=HS.out
      have:=HT.out;go_roundw
      case rel=>exact ⟨k+1,r,by omega,by go_num,rfl,hr0,by omega,by omega,hb.trans (hb'.mono hb.size)⟩
      case measure=>simp [intOf]; omega
   ·have he:k=ts.length:=by omega
    go_wp2;go_ret;refine ⟨hb,_,rfl,.inr ⟨hm0,?_⟩⟩;have:=HS.out;rw [he,List.take_of_length_le (Nat.le_refl _)] at this;omega
theorem Rq:(Tryz.prog.info? 109).map (fun i=>(i.zero,i.size,i.bytes))=some (some (.agg #[.bool false,.string ⟨#[]⟩]),2,24):=by kernel_rfl
theorem LV (t:T) (w:World):
  Calls Tryz.prog 99 #[.agg #[.bool t.var,.string t.name]] w fun e w'=>e=.returned (.agg #[.bool t.var,.string t.name])∧Below w.heap.size w w':=by
 go_enter Tryz.func99,Tryz.ntmps99
 go_wp2;exact bodyPost_ret (v:=.agg #[.bool t.var,.string t.name]) (by simp [results,Tryz.results99,go_sem]) rfl ⟨rfl,by repeat (first | exact Below.refl _ _ | (refine Below.setCell ?_ (by first | (simp; done) | (simp; omega)) _) | (refine Below.alloc ?_ (by first | (simp; done) | (simp; omega)) _))⟩
theorem IK (ts:List T) (v:Value) (bs:List Nat) (w:World) (h:eY w [v] ts bs) (hn:ts.length≤1048576):
  Calls Tryz.prog 63 #[v] w (Makes eY ts w.heap.size w):=by
 obtain ⟨Ad,cap,rfl,hl,hm⟩:=af h;obtain ⟨i0,hi,hz0,hz1,hz2⟩:=info_parts Rq;clear hm
 go_enter Tryz.func63,Tryz.ntmps63
 go_wp2_with (refine wpList_make_full _ rfl _ _ _ rfl w.heap.size 109 i0 _ 2 Tryz.underlying66 hi hz0 hz1 _ _ _ _ ts.length rfl rfl rfl rfl (by rw [hz2]; omega) (by unfold maxLen; omega) (Nat.le_refl _) ?_; intro w1 hown hgrow)
 have hb1:Below w.heap.size w w1:=(Below.refl _ _).grown hgrow (Nat.le_refl _) (fun _ e=>by cases e);have hg1:w.heap.size < w1.heap.size:=(hown.lt _ rfl).2;clear hgrow
 go_loopw [4] (fun i wr=>∃ (k:Nat) (L:List Value) (bs':List Nat),k≤ts.length∧i=.int .i64 k∧wr.ownsRow w.heap.size 109 2 (.slice (some ⟨w.heap.size,0,none⟩) ts.length ts.length) ts.length L∧
   gX 2 nD w1.heap.size wr L ts k bs'∧Below w.heap.size w wr∧w1.heap.size≤wr.heap.size) (fun i _=>ts.length - (intOf i).toNat)
 case atStart=>exact ⟨0,_,_,Nat.zero_le _,rfl,hown,gX.start,hb1,Nat.le_refl _⟩
 case round=>
  obtain ⟨k,L,bs',hk,rfl,how,hF,hb,hsz⟩:=hrel;clear hown hb1;by_cases hlt:k < ts.length
  ·have hw:=aH.below h hb
   obtain ⟨b,o,rfl,_,c0,c1,hnm⟩:=dV hw hlt;have HK:=η hF;clear h hw hF;have hL:=η how.1
   go_wp2_with (go_at_call 99; refine (LV _ _).mono ?_; rintro e w' ⟨rfl,hb'⟩; have how':=own_below how hb'; obtain ⟨⟨u0,hu0⟩,hf0⟩:=jA how' (j:=k * 2) (by omega); obtain ⟨⟨u1,hu1⟩,hf1⟩:=jA how' (j:=k * 2+1) (by omega))
   obtain ⟨R1,R2,R3,R4⟩:=Q9 eP how HK.out hlt hb hb' hg1 (Nat.le_refl _) hsz (a:=.bool ts[k].var) (b:=.string ts[k].name) (b2:=[]) ⟨rfl,hnm,rfl⟩ (New.nil _ _);go_roundw
   case rel=>exact ⟨k+1,_,_,by omega,by go_num,R1,R2,R3,R4⟩
   case measure=>simp [intOf]; omega
  ·have he:k=ts.length:=by omega
   subst he;have HF:=η hF;clear hF;go_wp2;go_ret;obtain ⟨b2,r1,r2,r3,r4⟩:=HF.out.slice how (fun hm=>by have:=(HF.out.new.own _ hm).1; omega);refine ⟨hb,_,b2,rfl,r1,r2,fun b hb'=>⟨?_,r4 b hb'⟩⟩
   rcases r3 b hb' with ⟨rfl,h⟩ | h
   ·exact h
   ·have:=(HF.out.new.own b h).1; omega
end Go.Proofs.YtiidmgchadagbaaGreatDoor
namespace Go.Proofs.YtiidmgchadagbaaGreatDoor
open Go.RowKit D
attribute [local go_sem ↓] Go.wp_at_zero Go.wp_at_succ
theorem below_drewN {B:Nat} {a w:World} (h:Below B a w) (n:Nat):Below B a (w.drewN n):=⟨h.os,h.tape,h.output,h.size,h.block⟩
namespace D
theorem vP {ts us:List T} {k:Nat} (h1:k < ts.length) (h2:k < us.length):lm (ts.drop k) (us.drop k)=if fZ ts[k].name us[k].name=0 then lm (ts.drop (k+1)) (us.drop (k+1)) else fZ ts[k].name us[k].name:=by
 rw [List.drop_eq_getElem_cons h1,List.drop_eq_getElem_cons h2]; rfl
theorem vS {ts us:List T} {k:Nat} (h1:k < ts.length) (h2:us.length≤k):lm (ts.drop k) (us.drop k)=1:=by
 rw [List.drop_eq_getElem_cons h1,List.drop_of_length_le h2]; rfl
theorem vT {ts us:List T} {k:Nat} (h1:ts.length≤k) (h2:k < us.length):lm (ts.drop k) (us.drop k) = -1:=by
 rw [List.drop_eq_getElem_cons h2,List.drop_of_length_le h1]; rfl
theorem vU {ts us:List T} {k:Nat} (h1:ts.length≤k) (h2:us.length≤k):lm (ts.drop k) (us.drop k)=0:=by
 rw [List.drop_of_length_le h2,List.drop_of_length_le h1]; rfl
theorem LW (a b:ByteArray):(fZ a b = -1∧Op.bytesLess a.toList b.toList=true)∨(fZ a b=0∧Op.bytesLess a.toList b.toList=false∧(a.toList == b.toList)=true)∨(fZ a b=1∧Op.bytesLess a.toList b.toList=false∧(a.toList == b.toList)=false):=by
 rw [uG,AB]
 rcases iE.vals a b with h | h | h <;> simp [h]
end D
theorem zx (a b:ByteArray) (w:World):
  Calls Tryz.prog 124 #[.string a,.string b] w fun e w'=>e=.returned (.int .i64 (fZ a b))∧w'=w:=by
 rcases LW a b with ⟨h,h1⟩ | ⟨h,h1,h2⟩ | ⟨h,h1,h2⟩
 all_goals
  have H:=η h;clear h
  go_enter Tryz.func124,Tryz.ntmps124
  go_wp2;go_ret;exact ⟨eF H.out.symm,rfl⟩
theorem ED (a b:A) (c0 c1 d0 d1:Value) (b1 b2:List Nat) (w:World) (h1:aU w [c0,c1] a b1) (h2:aU w [d0,d1] b b2):
  Calls Tryz.prog 92 #[.agg #[c0,c1],.agg #[d0,d1]] w fun e w'=>e=.returned (.int .i64 (bQ a b))∧Below w.heap.size w w':=by
 obtain ⟨Ad,cap,rfl,rfl⟩:=bJ h1;obtain ⟨Ae,cape,rfl,rfl⟩:=bJ h2;have t1:=eH h1;have t2:=eH h2;obtain ⟨_,_,hv1,hl,hm⟩:=af t1;obtain ⟨_,_,hv2,hl2,hm2⟩:=af t2;have hlm:=au (Nat.le_trans hl hm);have hlm2:=au (Nat.le_trans hl2 hm2);clear hv1 hv2 hl hl2 hm hm2;have hc:bQ a b=if fZ a.name b.name=0 then lm a.args b.args else fZ a.name b.name:=rfl
 have HC:=η hc;clear h1 h2 hc
 go_enter Tryz.func92,Tryz.ntmps92
 go_wp2_with (go_at_call 124; refine (zx _ _ _).mono ?_; rintro e w' ⟨rfl,rfl⟩)
 have hA:=((Below.refl w.heap.size w).alloc (Nat.le_refl _) (.cells #[.string a.name,.slice Ad a.args.length cap] 68)).alloc (by simp) (.cells #[.string b.name,.slice Ae b.args.length cape] 68)
 go_loopw [5,6] (fun c i wr=>∃ (k:Nat) (z:Int),k≤a.args.length∧k≤b.args.length∧i=.int .i64 k∧c=.int .i64 z∧bQ a b=(if z=0 then lm (a.args.drop k) (b.args.drop k) else z)∧Below w.heap.size w wr∧
   wr.cell? ⟨w.heap.size,1,none⟩=some (.slice Ad a.args.length cap)∧wr.cell? ⟨w.heap.size+1,1,none⟩=some (.slice Ae b.args.length cape)) (fun _ i _=>a.args.length - (intOf i).toNat)
 case atStart=>exact ⟨0,_,Nat.zero_le _,Nat.zero_le _,rfl,rfl,HC.out,hA,by go_simp,by go_simp⟩
 case round=>
  obtain ⟨k,z,hk,hk2,rfl,rfl,hz,hb,x1,y1⟩:=hrel;have HZ:=η hz;clear hz hA;by_cases hz:z=0
  ·subst hz
   have H0:=η (HZ.out.trans (if_pos rfl));by_cases hlt:k < a.args.length
   ·by_cases hlt2:k < b.args.length
    ·obtain ⟨b',o,rfl,_,_,c1,_⟩:=dV (aH.below t1 hb) hlt
     obtain ⟨b'',o',rfl,_,_,d1,_⟩:=dV (aH.below t2 hb) hlt2;have HS:=η (vP hlt hlt2);have hkk:(0:Int)≤(k:Int):=by omega
     have hk3:(k:Int) < (a.args.length:Int):=by omega
     have hk4:(k:Int) < (b.args.length:Int):=by omega
     clear t1 t2;go_wp2
     go_quiet ((go_at_call 124; exact Calls.quiet_of_same (zx _ _ _)))
     go_wp2;have HW:=η HZ;go_roundw
     case rel=>exact ⟨k+1,_,by omega,by omega,by go_num,rfl,by rw [H0.out,HS.out],below_drewN hb _,x1,y1⟩
     case measure=>simp [intOf]; omega
    ·have HS:=η (vS hlt (Nat.le_of_not_lt hlt2))
     have hx:¬ a.args.length < b.args.length:=by omega
     have hy:b.args.length < a.args.length:=by omega
     clear t1 t2;go_wp2;go_ret;exact ⟨eF (by rw [H0.out,HS.out]),hb⟩
   ·have he:a.args.length≤k:=by omega
    by_cases hlt2:k < b.args.length
    ·have HS:=η (vT he hlt2)
     have hx:a.args.length < b.args.length:=by omega
     clear t1 t2;go_wp2;go_ret;exact ⟨eF (by rw [H0.out,HS.out]),hb⟩
    ·have HS:=η (vU he (Nat.le_of_not_lt hlt2))
     have hx:¬ a.args.length < b.args.length:=by omega
     have hy:¬ b.args.length < a.args.length:=by omega
     clear t1 t2;go_wp2;go_ret;exact ⟨eF (by rw [H0.out,HS.out]),hb⟩
  ·have H0:=η (HZ.out.trans (if_neg hz))
   have hz1:(z == 0)=false:=beq_eq_false_iff_ne.2 hz;have hz2:(z != 0)=true:=by simp [hz]
   clear hz;by_cases hlt:k < a.args.length
   all_goals by_cases hlt2:k < b.args.length
   all_goals
    clear t1 t2;go_wp2;go_ret;exact ⟨eF H0.out.symm,hb⟩
theorem UN (w:World) (n:Int):(convert 107 9 (.slice (some ⟨w.heap.size,0,none⟩) 1 1)).run Tryz.prog (w.alloc (.cells #[.int .u8 n] 5))=.ok (.string (strOfNums [n])) (w.alloc (.cells #[.int .u8 n] 5)):=
 run_convert_bytes_arg _ 107 5 Tryz.underlying107 Tryz.underlying5 w.heap.size 0 1 1 [n] rfl (fun i hi=>by
  obtain rfl:i=0:=by omega
  simp) 9 Tryz.underlying9
theorem D.UO (n:Nat):(strOfNums [((48+n % 10:Nat):Int)]).data.toList = [UInt8.ofNat (48+n % 10)]:=rfl
theorem jX (k:Nat) (w:World) (hk:k≤1000000000000):
  Calls Tryz.prog 39 #[.int .i64 k] w fun e w'=>e=.returned (.string (aW k))∧Below w.heap.size w w':=by
 by_cases h0:k=0
 ·subst h0
  go_enter Tryz.func39,Tryz.ntmps39
  go_wp2;go_ret;exact ⟨rfl,Below.refl _ _⟩
 ·have hlen:=IB 18 k (by omega)
  have hmt:aW k=⟨(109 :: sF k k).toArray⟩:=by unfold aW; rw [if_neg h0]
  have HM:=η hmt;have hneg:¬ (k:Int)≤0:=by omega
  have kc:=UN;clear hmt h0
  go_enter Tryz.func39,Tryz.ntmps39
  go_wp2
  go_loopw [0,3] (fun i v wr=>∃ (m:Nat) (s:ByteArray),m≤k∧i=.int .i64 m∧v=.string s∧sF k k=sF m m ++ s.data.toList∧Below w.heap.size w wr) (fun i _ _=>(intOf i).toNat)
  case atStart=>exact ⟨k,_,Nat.le_refl _,rfl,rfl,by simp,Below.refl _ _⟩
  case round=>
   obtain ⟨m,s,hm,rfl,rfl,hs,hb⟩:=hrel
   have hsz:s.size≤18:=by
    have h1:=congrArg List.length hs;have h5:s.data.toList.length=s.size:=Array.length_toList;rw [List.length_append] at h1;omega
   by_cases hm0:m=0
   ·subst hm0
    have HS:=η hs;clear hs;go_wp2;go_ret;exact ⟨Ob (WideShapes.bytes_inj (by rw [HM.out,ByteArray.data_append,Array.toList_append,HS.out]; simp [sF])),hb⟩
   ·have HS:=η (hs.trans (by rw [Eu hm0,List.append_assoc]))
    have hpos:(0:Int) < (m:Int):=by omega
    have d0:0≤(m:Int) % 10:=by omega
    have d1:(m:Int) % 10 < 10:=by omega
    have h1:=strOfNums_size [48+(m:Int) % 10];simp only [List.length_cons,List.length_nil] at h1;have h1':(strOfNums [48+(m:Int) % 10]).size≤1:=by omega
    have HE:=η (show (strOfNums [48+(m:Int) % 10]).data.toList = [UInt8.ofNat (48+m % 10)] from UO m);clear hs hm0 h1;go_wp2;go_roundw
    case rel=>exact ⟨m / 10,_,by omega,by go_num,rfl,by rw [HS.out,ByteArray.data_append,Array.toList_append,HE.out],hb.alloc hb.size _⟩
    case measure=>simp [intOf]; omega
theorem pK (ts:List T) (v:Value) (bs:List Nat) (k B:Nat) (w:World) (h:eY w [v] ts bs) (hN:New B w bs) (hk:k+2 * ts.length≤1000000000000):
  Calls Tryz.prog 40 #[v,.int .i64 k] w (Marked eY [v] (nY ts k) bs (k+2 * ts.length) B w):=by
 obtain ⟨Ad,cap,rfl,hl,hm⟩:=af h;clear hm
 go_enter Tryz.func40,Tryz.ntmps40
 go_wp2
 go_loopw [1,5] (fun q j wr=>∃ (i:Nat) (ys:List T),i≤ts.length∧j=.int .i64 i∧q=.int .i64 (k+2 * i:Nat)∧ys=kN mkT (fun _=>2) ts k i∧eY wr [.slice Ad ts.length cap] ys bs∧New B wr bs∧bU bs w wr) (fun _ j _=>ts.length - (intOf j).toNat)
 case atStart=>exact ⟨0,ts,Nat.zero_le _,rfl,rfl,rfl,h,hN,bU.refl _ _⟩
 case round=>
  obtain ⟨i,ys,hi,rfl,rfl,hy,hT,hNr,hK⟩:=hrel;clear h hN;by_cases hlt:i < ts.length
  ·have hle:ys.length=ts.length:=by rw [hy,kF]
   have hey:ys[i]'(by omega)=ts[i]:=by subst hy; exact uI hlt
   have HS:=η (oV (mk:=mkT) (cnt:=fun _=>2) (k:=k) hlt);have HY:=η hy;clear hy;obtain ⟨b,o,cs,bk,rfl,hb,hbk,hnd,hsub,hcs,hcell,⟨rfl,hnm,rfl⟩,hput⟩:=oU eP hT hNr.nodup (k:=i) (by omega);obtain ⟨u0,c0⟩:∃ u,wr.cell? ⟨b,o+i * 2,none⟩=some u:=⟨_,hcell 0 _ rfl⟩;obtain ⟨u1,c1⟩:∃ u,wr.cell? ⟨b,o+i * 2+1,none⟩=some u:=⟨_,by have:=hcell 1 _ rfl; rwa [← Nat.add_assoc] at this⟩;have HP:=η hput;have HW:=η (hNr.VO b hb);have f0:=HW.out.frozen (o+i * 2);have f1:=HW.out.frozen (o+i * 2+1);have hbl:=hNr.lt hb;have HL:=η hle;have HN:=η hNr;clear hcell hput hT hnd hsub hcs hle hNr hnm hey;obtain ⟨q,hq⟩:∃ q,q=k+2 * i:=⟨_,rfl⟩;rw [← hq];have hq9:q≤1000000000000:=by omega
   have hq1:q+1≤1000000000000:=by omega
   have HQ:=η hq;clear hq
   have HT:Hid ((kN mkT (fun _=>2) ts k i).set i (mkT ts[i] q)=kN mkT (fun _=>2) ts k (i+1)):=η (by
    have:=HS.out;rw [IC,List.length_take,Nat.min_eq_left (by omega)] at this
    rw [HQ.out]; exact this)
   clear HS
   go_wp2_with fail
   refine (jX (q+1) _ (by omega)).mono ?_;rintro e w2 ⟨rfl,hb2⟩;have g1:w2.cell? ⟨b,o+i * 2+1,none⟩=some u1:=cell_later hb2 (dK c1 (by omega));have g0:=cell_later hb2 (World.cell?_setCell_same' wr ⟨b,o+i * 2,none⟩ _ (by rw [c0]; rfl));have f2:w2.frozen? ⟨b,o+i * 2+1,none⟩=false:=(hb2.frozen (p:=⟨b,o+i * 2+1,none⟩) (by simpa using hbl)).trans (by rw [World.frozen?_setCell]; exact f1)
   have R:=HP.out (w2.setCell ⟨b,o+i * 2+1,none⟩ (.string (aW (q+1)))) [.bool (decide (q % 3=0)),.string (aW (q+1))] (mkT ts[i] q) rfl
    (fun j v hv=>by
     match j,hv with
     | 0,hv=>
      simp only [List.getElem?_cons_zero,Option.some.injEq] at hv;subst hv;refine dK ?_ (by omega);rw [Nat.add_zero,g0]
      congr 2
      rw [Bool.eq_iff_iff,beq_iff_eq,decide_eq_true_eq]; omega
     | 1,hv=>
      simp only [List.getElem?_cons_succ,List.getElem?_cons_zero,Option.some.injEq] at hv;subst hv;rw [← Nat.add_assoc];exact World.cell?_setCell_same' _ _ _ (by rw [g1]; rfl)
     | j+2,hv=>simp at hv)
    (fun p v hv hp=>dK (cell_later hb2 (dK hv (by omega))) (by omega))
    (fun c hc hne _=>by
     have hcl:=HN.out.lt hc
     rw [Below.heap_setCell _ _ _ _ hne,hb2.block c (by simpa using hcl),Below.heap_setCell _ _ _ _ hne])
    ⟨rfl,l9 (k:=q+1) (by omega),rfl⟩
   rw [HY.out,HT.out] at R
   have hN3:New B (w2.setCell ⟨b,o+i * 2+1,none⟩ (.string (aW (q+1)))) bs:=⟨HN.out.nodup,fun c hc=>⟨(HN.out.own c hc).1,by
    refine KY.setCell (KY.keep (KY.setCell ((HN.out.VO c hc)) ⟨b,o+i * 2,none⟩ _) (hb2.block c (by have:=HN.out.lt hc; simpa using this))) _ _⟩⟩
   have hK3:bU bs w (w2.setCell ⟨b,o+i * 2+1,none⟩ (.string (aW (q+1)))):=((hK.setCell (p:=⟨b,o+i * 2,none⟩) hb _).trans (bU.of_below hb2)).setCell hb _;clear HP HN HW c0 c1 f0 f1 g0
   go_wp2_with fail
   go_roundw
   case rel=>exact ⟨i+1,_,by omega,by go_num,by have:=HQ.out; go_num,rfl,R,hN3,hK3⟩
   case measure=>simp [intOf]; omega
  ·have he:i=ts.length:=by omega
   subst he;have HY:Hid (ys=nY ts k):=η (by rw [hy,qL]; rfl);clear hy;go_wp2;go_ret;exact ⟨rfl,by rw [← HY.out]; exact hT,hNr,hK⟩
end Go.Proofs.YtiidmgchadagbaaGreatDoor
