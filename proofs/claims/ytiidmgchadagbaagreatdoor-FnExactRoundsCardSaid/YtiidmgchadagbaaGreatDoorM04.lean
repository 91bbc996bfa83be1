/- Of the proof of FnExactRounds: MarkTs, EqA, PutP, MapV, Chan, Bld, BodyP. -/
import Derived.ShutString
import Derived.Test.YtiidmgchadagbaaGreatDoorM02
import Derived.Conc.LoneCalls
import Derived.Test.YtiidmgchadagbaaGreatDoorM01
set_option linter.unusedVariables false
set_option maxHeartbeats 2000000
set_option maxRecDepth 100000
namespace Go.Proofs.YtiidmgchadagbaaGreatDoor
open Go.RowKit D
attribute [local go_sem ↓] Go.wp_at_zero Go.wp_at_succ
theorem convOne (w:World) (n:Int):(convert 107 9 (.slice (some ⟨w.heap.size,0,none⟩) 1 1)).run Tryz.prog (w.alloc (.cells #[.int .u8 n] 5))=.ok (.string (strOfNums [n])) (w.alloc (.cells #[.int .u8 n] 5)):=
 run_convert_bytes_arg _ 107 5 Tryz.underlying107 Tryz.underlying5 w.heap.size 0 1 1 [n] rfl (fun i hi=>by
  obtain rfl:i=0:=by omega
  simp) 9 Tryz.underlying9
theorem D.str_one (n:Nat):(strOfNums [((48+n % 10:Nat):Int)]).data.toList = [UInt8.ofNat (48+n % 10)]:=rfl
theorem markText_any (k:Nat) (w:World) (hk:k≤1000000000000):
  Calls Tryz.prog 39 #[.int .i64 k] w fun e w'=>e=.returned (.string (markText k))∧Below w.heap.size w w':=by
 by_cases h0:k=0
 ·subst h0
  go_enter Tryz.func39,Tryz.ntmps39
  go_wp2
  go_ret
  exact ⟨rfl,Below.refl _ _⟩
 ·have hlen:=decL_len 18 k (by omega)
  have hmt:markText k=⟨(109 :: decL k k).toArray⟩:=by unfold markText; rw [if_neg h0]
  have HM:=η hmt
  have hneg:¬ (k:Int)≤0:=by omega
  have kc:=convOne
  clear hmt h0
  go_enter Tryz.func39,Tryz.ntmps39
  go_wp2
  go_loopw [0,3] (fun i v wr=>∃ (m:Nat) (s:ByteArray),m≤k∧i=.int .i64 m∧v=.string s∧decL k k=decL m m ++ s.data.toList∧Below w.heap.size w wr) (fun i _ _=>(intOf i).toNat)
  case atStart=>exact ⟨k,_,Nat.le_refl _,rfl,rfl,by simp,Below.refl _ _⟩
  case round=>
   obtain ⟨m,s,hm,rfl,rfl,hs,hb⟩:=hrel
   have hsz:s.size≤18:=by
    have h1:=congrArg List.length hs
    have h5:s.data.toList.length=s.size:=Array.length_toList
    rw [List.length_append] at h1
    omega
   by_cases hm0:m=0
   ·subst hm0
    have HS:=η hs
    clear hs
    go_wp2
    go_ret
    exact ⟨ret_str (WideShapes.bytes_inj (by rw [HM.out,ByteArray.data_append,Array.toList_append,HS.out]; simp [decL])),hb⟩
   ·have HS:=η (hs.trans (by rw [decL_step hm0,List.append_assoc]))
    have hpos:(0:Int) < (m:Int):=by omega
    have d0:0≤(m:Int) % 10:=by omega
    have d1:(m:Int) % 10 < 10:=by omega
    have h1:=strOfNums_size [48+(m:Int) % 10]
    simp only [List.length_cons,List.length_nil] at h1
    have h1':(strOfNums [48+(m:Int) % 10]).size≤1:=by omega
    have HE:=η (show (strOfNums [48+(m:Int) % 10]).data.toList = [UInt8.ofNat (48+m % 10)] from str_one m)
    clear hs hm0 h1
    go_wp2
    go_roundw
    case rel=>exact ⟨m / 10,_,by omega,by go_num,rfl,by rw [HS.out,ByteArray.data_append,Array.toList_append,HE.out],hb.alloc hb.size _⟩
    case measure=>simp [intOf]; omega
theorem markTermS_any (ts:List T) (v:Value) (bs:List Nat) (k B:Nat) (w:World) (h:termsK w [v] ts bs) (hN:New B w bs) (hk:k+2 * ts.length≤1000000000000):
  Calls Tryz.prog 40 #[v,.int .i64 k] w (Marked termsK [v] (markTs ts k) bs (k+2 * ts.length) B w):=by
 obtain ⟨Ad,cap,rfl,hl,hm⟩:=sliceK_form h
 clear hm
 go_enter Tryz.func40,Tryz.ntmps40
 go_wp2
 go_loopw [1,5] (fun q j wr=>∃ (i:Nat) (ys:List T),i≤ts.length∧j=.int .i64 i∧q=.int .i64 (k+2 * i:Nat)∧ys=markTo mkT (fun _=>2) ts k i∧termsK wr [.slice Ad ts.length cap] ys bs∧New B wr bs∧KeptBut bs w wr) (fun _ j _=>ts.length - (intOf j).toNat)
 case atStart=>exact ⟨0,ts,Nat.zero_le _,rfl,rfl,rfl,h,hN,KeptBut.refl _ _⟩
 case round=>
  obtain ⟨i,ys,hi,rfl,rfl,hy,hT,hNr,hK⟩:=hrel
  clear h hN
  by_cases hlt:i < ts.length
  ·have hle:ys.length=ts.length:=by rw [hy,markTo_length]
   have hey:ys[i]'(by omega)=ts[i]:=by subst hy; exact markTo_at hlt
   have HS:=η (markTo_step (mk:=mkT) (cnt:=fun _=>2) (k:=k) hlt)
   have HY:=η hy
   clear hy
   obtain ⟨b,o,cs,bk,rfl,hb,hbk,hnd,hsub,hcs,hcell,⟨rfl,hnm,rfl⟩,hput⟩:=sliceK_open termK_good hT hNr.nodup (k:=i) (by omega)
   obtain ⟨u0,c0⟩:∃ u,wr.cell? ⟨b,o+i * 2,none⟩=some u:=⟨_,hcell 0 _ rfl⟩
   obtain ⟨u1,c1⟩:∃ u,wr.cell? ⟨b,o+i * 2+1,none⟩=some u:=⟨_,by have:=hcell 1 _ rfl; rwa [← Nat.add_assoc] at this⟩
   have HP:=η hput
   have HW:=η (hNr.wri b hb)
   have f0:=HW.out.frozen (o+i * 2)
   have f1:=HW.out.frozen (o+i * 2+1)
   have hbl:=hNr.lt hb
   have HL:=η hle
   have HN:=η hNr
   clear hcell hput hT hnd hsub hcs hle hNr hnm hey
   obtain ⟨q,hq⟩:∃ q,q=k+2 * i:=⟨_,rfl⟩
   rw [← hq]
   have hq9:q≤1000000000000:=by omega
   have hq1:q+1≤1000000000000:=by omega
   have HQ:=η hq
   clear hq
   have HT:Hid ((markTo mkT (fun _=>2) ts k i).set i (mkT ts[i] q)=markTo mkT (fun _=>2) ts k (i+1)):=η (by
    have:=HS.out
    rw [sumL_two,List.length_take,Nat.min_eq_left (by omega)] at this
    rw [HQ.out]; exact this)
   clear HS
   go_wp2_with fail
   refine (markText_any (q+1) _ (by omega)).mono ?_
   rintro e w2 ⟨rfl,hb2⟩
   have g1:w2.cell? ⟨b,o+i * 2+1,none⟩=some u1:=cell_later hb2 (setCell_other c1 (by omega))
   have g0:=cell_later hb2 (World.cell?_setCell_same' wr ⟨b,o+i * 2,none⟩ _ (by rw [c0]; rfl))
   have f2:w2.frozen? ⟨b,o+i * 2+1,none⟩=false:=(hb2.frozen (p:=⟨b,o+i * 2+1,none⟩) (by simpa using hbl)).trans (by rw [World.frozen?_setCell]; exact f1)
   have R:=HP.out (w2.setCell ⟨b,o+i * 2+1,none⟩ (.string (markText (q+1)))) [.bool (decide (q % 3=0)),.string (markText (q+1))] (mkT ts[i] q) rfl
    (fun j v hv=>by
     match j,hv with
     | 0,hv=>
      simp only [List.getElem?_cons_zero,Option.some.injEq] at hv
      subst hv
      refine setCell_other ?_ (by omega)
      rw [Nat.add_zero,g0]
      congr 2
      rw [Bool.eq_iff_iff,beq_iff_eq,decide_eq_true_eq]; omega
     | 1,hv=>
      simp only [List.getElem?_cons_succ,List.getElem?_cons_zero,Option.some.injEq] at hv
      subst hv
      rw [← Nat.add_assoc]
      exact World.cell?_setCell_same' _ _ _ (by rw [g1]; rfl)
     | j+2,hv=>simp at hv)
    (fun p v hv hp=>setCell_other (cell_later hb2 (setCell_other hv (by omega))) (by omega))
    (fun c hc hne _=>by
     have hcl:=HN.out.lt hc
     rw [Below.heap_setCell _ _ _ _ hne,hb2.block c (by simpa using hcl),Below.heap_setCell _ _ _ _ hne])
    ⟨rfl,markText_size (k:=q+1) (by omega),rfl⟩
   rw [HY.out,HT.out] at R
   have hN3:New B (w2.setCell ⟨b,o+i * 2+1,none⟩ (.string (markText (q+1)))) bs:=⟨HN.out.nodup,fun c hc=>⟨(HN.out.own c hc).1,by
    refine Wri.setCell (Wri.keep (Wri.setCell ((HN.out.wri c hc)) ⟨b,o+i * 2,none⟩ _) (hb2.block c (by have:=HN.out.lt hc; simpa using this))) _ _⟩⟩
   have hK3:KeptBut bs w (w2.setCell ⟨b,o+i * 2+1,none⟩ (.string (markText (q+1)))):=((hK.setCell (p:=⟨b,o+i * 2,none⟩) hb _).trans (KeptBut.of_below hb2)).setCell hb _
   clear HP HN HW c0 c1 f0 f1 g0
   go_wp2_with fail
   go_roundw
   case rel=>exact ⟨i+1,_,by omega,by go_num,by have:=HQ.out; go_num,rfl,R,hN3,hK3⟩
   case measure=>simp [intOf]; omega
  ·have he:i=ts.length:=by omega
   subst he
   have HY:Hid (ys=markTs ts k):=η (by rw [hy,markTo_all]; rfl)
   clear hy
   go_wp2
   go_ret
   exact ⟨rfl,by rw [← HY.out]; exact hT,hNr,hK⟩
theorem eqTerm_same (t:T) (w:World):
  Calls Tryz.prog 105 #[.agg #[.bool t.var,.string t.name],.agg #[.bool t.var,.string t.name]] w (Yes w.heap.size w):=by
 obtain ⟨b,nm⟩:=t
 cases b
 all_goals
  go_enter Tryz.func105,Tryz.ntmps105
  go_wp2
  go_ret
  exact ⟨rfl,((Below.refl _ _).alloc (Nat.le_refl _) _).alloc (by simp) _⟩
theorem eqTermS_same (ts:List T) (v1 v2:Value) (b1 b2:List Nat) (w:World) (h1:termsK w [v1] ts b1) (h2:termsK w [v2] ts b2):
  Calls Tryz.prog 67 #[v1,v2] w (Yes w.heap.size w):=by
 obtain ⟨Ad,cap,rfl,hl,hm⟩:=sliceK_form h1
 obtain ⟨Ad2,cap2,rfl,hl2,hm2⟩:=sliceK_form h2
 have hlm:=nat_ge_max (Nat.le_trans hl hm)
 clear hm hm2
 go_enter Tryz.func67,Tryz.ntmps67
 go_wp2
 go_loopw [5] (fun i wr=>∃ k:Nat,k≤ts.length∧i=.int .i64 k∧Below w.heap.size w wr) (fun i _=>ts.length - (intOf i).toNat)
 case atStart=>exact ⟨0,Nat.zero_le _,rfl,Below.refl _ _⟩
 case round=>
  obtain ⟨k,hk,rfl,hb⟩:=hrel
  by_cases hlt:k < ts.length
  ·obtain ⟨b,o,rfl,_,c0,c1,hnm⟩:=terms_at (termsK_good.below h1 hb) hlt
   obtain ⟨b',o',rfl,_,d0,d1,_⟩:=terms_at (termsK_good.below h2 hb) hlt
   clear h1 h2
   have hlt':(k:Int) < (ts.length:Int):=by omega
   have hk0:(0:Int)≤(k:Int):=by omega
   go_wp2
   go_region_held3 (fun w'=>w'.cell? ⟨b,o+k * 2,none⟩=some (.bool ts[k].var)∧w'.cell? ⟨b,o+k * 2+1,none⟩=some (.string ts[k].name)∧w'.cell? ⟨b',o'+k * 2,none⟩=some (.bool ts[k].var)∧w'.cell? ⟨b',o'+k * 2+1,none⟩=some (.string ts[k].name)) (first | go_keep | exact ⟨cell_later hb' c0,cell_later hb' c1,cell_later hb' d0,cell_later hb' d1⟩)
    (first | (go_at_call 105; refine (eqTerm_same _ _).mono ?_; rintro e w' ⟨rfl,hb'⟩))
   go_wp2
   go_roundw
   case rel=>exact ⟨k+1,by omega,by go_num,hb.trans ((Below.drew (Below.refl _ _)).trans (hb'.mono hb.size))⟩
   case measure=>simp [intOf]; omega
  ·have he:k=ts.length:=by omega
   subst he
   go_wp2
   go_ret
   exact ⟨rfl,hb⟩
theorem eqAtom_same (a:A) (c0 c1 d0 d1:Value) (b1 b2:List Nat) (w:World) (h1:atomK w [c0,c1] a b1) (h2:atomK w [d0,d1] a b2):
  Calls Tryz.prog 37 #[.agg #[c0,c1],.agg #[d0,d1]] w (Yes w.heap.size w):=by
 obtain ⟨s1,hcs,hnm,ht1⟩:=h1
 obtain ⟨s2,hcs2,_,ht2⟩:=h2
 simp only [List.cons.injEq,and_true] at hcs hcs2
 obtain ⟨rfl,rfl⟩:=hcs
 obtain ⟨rfl,rfl⟩:=hcs2
 have hq:=fun w' (hb:Below w.heap.size w w')=>eqTermS_same a.args c1 d1 b1 b2 w' (termsK_good.below ht1 hb) (termsK_good.below ht2 hb)
 clear ht1 ht2
 go_enter Tryz.func37,Tryz.ntmps37
 go_wp2_with (go_at_call 67; refine (hq _ (((Below.refl _ _).alloc (Nat.le_refl _) _).alloc (by simp) _)).mono ?_; rintro e w' ⟨rfl,hb'⟩)
 go_ret
 exact ⟨rfl,(((Below.refl _ _).alloc (Nat.le_refl _) _).alloc (by simp) _).trans (hb'.mono (by simp; omega))⟩
end Go.Proofs.YtiidmgchadagbaaGreatDoor
namespace Go.Proofs.YtiidmgchadagbaaGreatDoor
open Go.RowKit D
namespace D
def argsL (ts:List T):List UInt8:=ts.zipIdx.flatMap fun x=>(if x.2=0 then [] else [44]) ++ x.1.name.data.toList
def putL (a:A):List UInt8:=a.name.data.toList ++ [40] ++ argsL a.args ++ [41]
theorem argsL_snoc (ts:List T) (k:Nat) (h:k < ts.length):argsL (ts.take (k+1))=argsL (ts.take k) ++ ((if k=0 then [] else [44]) ++ ts[k].name.data.toList):=by
 unfold argsL
 rw [List.take_succ_eq_append_getElem h,List.zipIdx_append,List.flatMap_append]
 have:(ts.take k).length=k:=by simp; omega
 simp [this]
theorem argsL_le (ts:List T):(argsL ts).length≤bulkTs ts+ts.length:=by
 have:∀ (ts:List T) (n:Nat),((ts.zipIdx n).flatMap fun x=>(if x.2=0 then [] else [44]) ++ x.1.name.data.toList).length≤bulkTs ts+ts.length:=by
  intro ts
  induction ts with
  | nil=>intro n; simp [bulkTs]
  | cons t r ih=>
   intro n
   have:=ih (n+1)
   simp only [List.zipIdx_cons,List.flatMap_cons,List.length_append,bulkTs,List.map_cons,List.sum_cons,List.length_cons] at *
   have hs:t.name.data.toList.length=t.name.size:=Array.length_toList
   split <;> simp at * <;> omega
 exact this ts 0
theorem bulkTs_take (ts:List T) (k:Nat):bulkTs (ts.take k)≤bulkTs ts:=by
 have:=List.take_append_drop k ts
 have h:bulkTs ts=bulkTs (ts.take k)+bulkTs (ts.drop k):=by
  conv=>lhs; rw [← this]
  unfold bulkTs
  rw [List.map_append,List.sum_append]
 omega
end D
end Go.Proofs.YtiidmgchadagbaaGreatDoor
namespace Go.Proofs.YtiidmgchadagbaaGreatDoor
open Go.RowKit Go.ChangeMaps Go.MapKept D
structure D.KeyV (P:Program) (kt:TypeId) (W:World→Prop) (S:Value→Prop):Prop where
 check:∀ (w:World) (em:Bool) {v:Value},S v→(Instr.checkKey em 10000 kt v).run P w=.ok () w
 find:∀ {w:World},W w→∀ {k:Value},S k→∀ (es:List MapEntry),(∀ e ∈ es,S e.key)→
  ((Instr.findKey kt k es).run P w=.ok none w∧∀ e ∈ es,e.key ≠ k)∨∃ i e,(Instr.findKey kt k es).run P w=.ok (some (i,e.val)) w∧es[i]? = some e∧e.key=k
 same:∀ {v:Value},S v→Instr.sameBits 10000 v v=true
structure D.KeyA (P:Program) (kt:TypeId) (W:World→Prop) (S:Value→Prop):Prop where
 now:∃ d,P.underlying kt=some d∧∀ a b,S a→S b→Instr.sameNow d a b=none
 eq:∀ {w:World} {a b:Value},W w→S a→S b→∃ r:Bool,(Op.equal kt a b).run P w=.ok r w∧(r=true ↔ a=b)
structure D.MapV (S:Value→Prop) (b:Nat) (L:List (Value × Value)) (w:World):Prop where
 blk:∃ es clock,w.heap[b]? = some (.map es clock)∧es.toList.map (fun e=>(e.key,e.val))=L
 keys:∀ p ∈ L,S p.1
 once:L.Pairwise fun p q=>p.1 ≠ q.1
section
variable {P:Program} {kt:TypeId} {W:World→Prop} {S:Value→Prop}
theorem findAsking_v (hK:KeyA P kt W S) {w:World} (hW:W w) {k:Value} (hk:S k):∀ (es:List MapEntry) (i0:Nat),(∀ e ∈ es,S e.key)→
  ((Instr.findAsking kt k es i0).run P w=.ok none w∧∀ e ∈ es,e.key ≠ k)∨∃ i e,(Instr.findAsking kt k es i0).run P w=.ok (some (i0+i,e.val)) w∧es[i]? = some e∧e.key=k
 | [],i0,_=>.inl ⟨rfl,fun e he=>by simp at he⟩
 | e :: es,i0,hs=>by
  obtain ⟨r,hr,hre⟩:=hK.eq hW hk (hs e (List.mem_cons_self ..))
  cases r with
  | true=>
   refine .inr ⟨0,e,?_,rfl,(hre.1 rfl).symm⟩
   unfold Instr.findAsking
   simp [go_sem,hr]
  | false=>
   have hne:e.key ≠ k:=fun h=>by have:=hre.2 h.symm; simp at this
   rcases findAsking_v hK hW hk es (i0+1) (fun x hx=>hs x (List.mem_cons_of_mem _ hx)) with ⟨h1,h2⟩ | ⟨i,e',h1,h2,h3⟩
   ·refine .inl ⟨?_,fun x hx=>?_⟩
    ·unfold Instr.findAsking
     simp [go_sem,hr,h1]
    ·rcases List.mem_cons.1 hx with rfl | hx
     ·exact hne
     ·exact h2 x hx
   ·refine .inr ⟨i+1,e',?_,by simpa using h2,h3⟩
    have:i0+1+i=i0+(i+1):=by omega
    rw [this] at h1
    unfold Instr.findAsking
    simp [go_sem,hr,h1]
theorem findKey_a (hK:KeyA P kt W S) {w:World} (hW:W w) {k:Value} (hk:S k) (es:List MapEntry) (hs:∀ e ∈ es,S e.key):
  ((Instr.findKey kt k es).run P w=.ok none w∧∀ e ∈ es,e.key ≠ k)∨∃ i e,(Instr.findKey kt k es).run P w=.ok (some (i,e.val)) w∧es[i]? = some e∧e.key=k:=by
 obtain ⟨d,hd,hn⟩:=hK.now
 cases es with
 | nil=>exact .inl ⟨by simp [Instr.findKey,Instr.findNow,run_underlying hd,Result.andThen],fun e he=>by simp at he⟩
 | cons e es=>
  have h0:Instr.findNow d k (e :: es) 0=none:=by
   unfold Instr.findNow
   rw [hn _ _ hk (hs e (List.mem_cons_self ..))]
  have hf:(Instr.findKey kt k (e :: es)).run P w=(Instr.findAsking kt k (e :: es)).run P w:=by simp [Instr.findKey,run_underlying hd,h0,Result.andThen]
  rw [hf]
  rcases findAsking_v hK hW hk (e :: es) 0 hs with h | ⟨i,e',h1,h2,h3⟩
  ·exact .inl h
  ·exact .inr ⟨i,e',by simpa using h1,h2,h3⟩
theorem findKey_v (hK:KeyV P kt W S) {w:World} (hW:W w) {k:Value} (hk:S k) (es:List MapEntry) (hs:∀ e ∈ es,S e.key):
 ((Instr.findKey kt k es).run P w=.ok none w∧∀ e ∈ es,e.key ≠ k)∨∃ i e,(Instr.findKey kt k es).run P w=.ok (some (i,e.val)) w∧es[i]? = some e∧e.key=k:=hK.find hW hk es hs
theorem D.once_at {L:List (Value × Value)} (h:L.Pairwise fun p q=>p.1 ≠ q.1) {i j:Nat} {p q:Value × Value} (hi:L[i]? = some p) (hj:L[j]? = some q) (e:p.1=q.1):i=j:=by
 obtain ⟨hi1,rfl⟩:=List.getElem?_eq_some_iff.1 hi
 obtain ⟨hj1,rfl⟩:=List.getElem?_eq_some_iff.1 hj
 rcases Nat.lt_trichotomy i j with h1 | h1 | h1
 ·exact absurd e (List.pairwise_iff_getElem.1 h i j hi1 hj1 h1)
 ·exact h1
 ·exact absurd e.symm (List.pairwise_iff_getElem.1 h j i hj1 hi1 h1)
theorem D.MapV.same {b:Nat} {L:List (Value × Value)} {w w':World} (h:MapV S b L w) (e:w'.heap[b]? = w.heap[b]?):MapV S b L w':=by
 obtain ⟨⟨es,c,h1,h2⟩,h3,h4⟩:=h
 exact ⟨⟨es,c,e.trans h1,h2⟩,h3,h4⟩
theorem D.MapV.below {b:Nat} {L:List (Value × Value)} {w w':World} {B:Nat} (h:MapV S b L w) (hb:Below B w w') (hB:b < B):MapV S b L w':=h.same (hb.block b hB)
theorem D.MapV.made (w:World):MapV S w.heap.size [] (w.alloc (.map #[] 0)):=
 ⟨⟨#[],0,(MapKept.heap_alloc w _).1,rfl⟩,fun p h=>by simp at h,List.Pairwise.nil⟩
section
variable {ops:Array Oper} {rest:List Oper} {o:Oper} {a:Act} {Q:Exit→Act→World→Prop}
theorem run_mapv_hit (hK:KeyV P kt W S) {w:World} (hW:W w) (c:Bool) {t e:TypeId} (ht:P.underlying t=some (.map kt e))
  {b:Nat} {L:List (Value × Value)} (h:MapV S b L w) {k v:Value} (hk:(k,v) ∈ L):(Instr.lookup t (.map (some b)) k c).run P w=.ok (if c then .tuple #[v,.bool true] else v) w:=by
 obtain ⟨⟨es,ck,hb,rfl⟩,h2,h3⟩:=h
 have hS:S k:=h2 _ hk
 have hSs:∀ e ∈ es.toList,S e.key:=fun e he=>h2 (e.key,e.val) (List.mem_map.2 ⟨e,he,rfl⟩)
 obtain ⟨e0,he0,hee⟩:=List.mem_map.1 hk
 simp only [Prod.mk.injEq] at hee
 rcases findKey_v hK hW hS es.toList hSs with ⟨h5,h6⟩ | ⟨i,e1,h5,h6,h7⟩
 ·exact absurd hee.1 (h6 e0 he0)
 ·obtain ⟨j,hj,ej⟩:=List.getElem_of_mem he0
  have hji:j=i:=once_at h3 (p:=(e0.key,e0.val)) (q:=(e1.key,e1.val)) (by simp [List.getElem?_eq_getElem hj,ej]) (by simp [h6]) (by simp [hee.1,h7])
  have hev:e1.val=v:=by
   rw [← hji,List.getElem?_eq_getElem hj,ej] at h6
   rw [← hee.2,Option.some.inj h6]
  simp [Instr.lookup,run_underlying ht,MapKept.run_getObj_map hb,hK.check w _ hS,h5,hev,Result.andThen]
theorem D.grown_setBlock {w:World} {b:Nat} {es:Array MapEntry} {c:Nat} (hb:w.heap[b]? = some (.map es c)) (o:Obj):w.grownBy (setBlock w b o) (some b):=
 ⟨rfl,rfl,rfl,by simp [setBlock],fun i _ hi=>heap_setBlock_other hb _ (fun e=>hi (by rw [e]))⟩
end
end
end Go.Proofs.YtiidmgchadagbaaGreatDoor
namespace Go.Proofs.YtiidmgchadagbaaGreatDoor
open Go.RowKit Go.Conc D
def D.InR (P:Program) (ops:Array Oper) (is:List Nat) (Q:Exit→Act→World→Prop) (a:Act) (w:World):Prop:=
 ∀ (b:Frame) (k:List Item) (cs:List Frame),∃ e a' w',Q e a' w'∧Arrives P (lone (b.at a (.inRegion ops is :: k)) cs w) b k cs e a' w'
section
variable {P:Program} {ops:Array Oper} {Q:Exit→Act→World→Prop} {a:Act} {w:World}
theorem D.inR_region {id:Nat} (h:InR P ops (List.range ops.size) Q a w):(Code.region id ops false).wp P Q a w:=
 fun b k cs=>let ⟨e,a',w',q,r⟩:=h b k cs; ⟨e,a',w',q,.of_steps (.one step_region) r⟩
theorem D.inR_ops {is:List Nat} (h:wpOps P ops Q is a w):InR P ops is Q a w:=fun b k cs=>wp_ops _ a w h b k cs
theorem D.inR_value {i:Nat} {rest:List Nat} {o:Oper} {v:Value} {w':World} (ho:ops[i]? = some o) (hg:o.guard=none) (hr:(execOp a.eval o).run P w=.ok (.value v) w') (h:InR P ops rest Q (a.put o.dst v) w'):InR P ops (i :: rest) Q a w:=fun b k cs=>by
 obtain ⟨e,a',w2,q,r⟩:=h b k cs
 have hw:Region.wanted o (yielded ops a.tmps)=true:=by unfold Region.wanted; rw [hg]
 have hgs:=stepG_op (P:=P) (b:=b) (k:=k) (cs:=cs) (w:=w) (rest:=rest) ho hw
 have hfin:(b.at a (.inRegion ops (i :: rest) :: k)).finish v=b.at (a.put o.dst v) (.inRegion ops rest :: k):=by rw [Frame.finish_at,ho]; rfl
 refine ⟨e,a',w2,q,.of_steps (.one (step_lone_go ?_)) r⟩
 rw [hgs,← hfin]
 simp [stepG.apply,hr]
theorem D.stepG_comm {b:Frame} {k:List Item} {cs:List Frame} {i:Nat} {rest:List Nat} {o:Oper} {cases:Array CommCase} {blocking:Bool} {shape:CommShape} {w':World} (ho:ops[i]? = some o) (hg:o.guard=none)
  (hr:(execOp a.eval o).run P w=.ok (.comm cases blocking shape) w'):∃ es,stepG P true (G (b.at a (.inRegion ops (i :: rest) :: k)) cs) w=.comm (G (b.at a (.inRegion ops (i :: rest) :: k)) cs) cases blocking shape w' es:=by
 have hw:Region.wanted o (yielded ops a.tmps)=true:=by unfold Region.wanted; rw [hg]
 have hgs:=stepG_op (P:=P) (b:=b) (k:=k) (cs:=cs) (w:=w) (rest:=rest) ho hw
 simp only [stepG.apply,if_true] at hgs
 generalize he:(execOp a.eval o).runT P w #[]=re at hgs
 have h1:re.1=.ok (.comm cases blocking shape) w':=by rw [← he,← hr]; exact Sem.runT_fst ..
 obtain ⟨r,es⟩:=re
 dsimp only at h1
 subst h1
 simp at hgs
 exact ⟨_,hgs⟩
theorem D.inR_send {i:Nat} {rest:List Nat} {o:Oper} {v z':Value} {w':World} {c cap s r:Nat} {buf:Array Value} {tm:Bool} (ho:ops[i]? = some o) (hg:o.guard=none) (hr:(execOp a.eval o).run P w=.ok (.comm #[scase c v z'] true .send) w')
  (hc:w'.heap[c]? = some (.chan cap buf false s r tm)) (hroom:buf.size < cap) (h:InR P ops rest Q (a.put o.dst undef) (w'.setChan c cap (buf.push v) false (s+1) r tm)):InR P ops (i :: rest) Q a w:=fun b k cs=>by
 obtain ⟨e,a',w2,q,r'⟩:=h b k cs
 obtain ⟨es,hs⟩:=stepG_comm (b:=b) (k:=k) (cs:=cs) (rest:=rest) ho hg hr
 have hfin:(b.at a (.inRegion ops (i :: rest) :: k)).finish undef=b.at (a.put o.dst undef) (.inRegion ops rest :: k):=by rw [Frame.finish_at,ho]; rfl
 have h1:=step_lone_send_room hs hc hroom
 rw [hfin] at h1
 exact ⟨e,a',w2,q,.of_steps (.one h1) r'⟩
theorem D.inR_recv {i:Nat} {rest:List Nat} {o:Oper} {z:Value} {w':World} {c cap s r:Nat} {buf:Array Value} {tm closed ok:Bool} (ho:ops[i]? = some o) (hg:o.guard=none) (hr:(execOp a.eval o).run P w=.ok (.comm #[rcase c z] true (.recv ok)) w')
  (hc:w'.heap[c]? = some (.chan cap buf closed s r tm)) (hsome:0 < buf.size) (h:InR P ops rest Q (a.put o.dst (got ok (buf.getD 0 undef) true)) (w'.setChan c cap (buf.extract 1 buf.size) closed s (r+1) tm)):InR P ops (i :: rest) Q a w:=fun b k cs=>by
 obtain ⟨e,a',w2,q,r'⟩:=h b k cs
 obtain ⟨es,hs⟩:=stepG_comm (b:=b) (k:=k) (cs:=cs) (rest:=rest) ho hg hr
 have hfin:∀ v,(b.at a (.inRegion ops (i :: rest) :: k)).finish v=b.at (a.put o.dst v) (.inRegion ops rest :: k):=fun v=>by rw [Frame.finish_at,ho]; rfl
 have h1:=step_lone_recv_buf ok hs hc hsome
 rw [hfin] at h1
 exact ⟨e,a',w2,q,.of_steps (.one h1) r'⟩
theorem D.inR_shut {i:Nat} {rest:List Nat} {o:Oper} {z:Value} {w':World} {c cap s r:Nat} {tm ok:Bool} (ho:ops[i]? = some o) (hg:o.guard=none) (hr:(execOp a.eval o).run P w=.ok (.comm #[rcase c z] true (.recv ok)) w')
  (hc:w'.heap[c]? = some (.chan cap #[] true s r tm)) (h:InR P ops rest Q (a.put o.dst (got ok z false)) w'):InR P ops (i :: rest) Q a w:=fun b k cs=>by
 obtain ⟨e,a',w2,q,r'⟩:=h b k cs
 obtain ⟨es,hs⟩:=stepG_comm (b:=b) (k:=k) (cs:=cs) (rest:=rest) ho hg hr
 have hfin:∀ v,(b.at a (.inRegion ops (i :: rest) :: k)).finish v=b.at (a.put o.dst v) (.inRegion ops rest :: k):=fun v=>by rw [Frame.finish_at,ho]; rfl
 have h1:=step_lone_recv_shut ok hs hc
 rw [hfin] at h1
 exact ⟨e,a',w2,q,.of_steps (.one h1) r'⟩
end
end Go.Proofs.YtiidmgchadagbaaGreatDoor
namespace Go.Proofs.YtiidmgchadagbaaGreatDoor
open Go.RowKit Go.Shelf
abbrev bT:TypeId:=215
theorem infoByte:(Tryz.prog.info? 5).map (fun i=>(i.zero,i.size,i.bytes))=some (some (.int .u8 0),1,1):=by kernel_rfl
theorem sizeBuilder:(Tryz.prog.info? bT).map (·.size)=some 2:=by kernel_rfl
theorem neB5:bT ≠ 5:=by decide
theorem liesBuilder:liesAt Tryz.prog Tryz.prog.depth bT (2 / Tryz.prog.cellsOf bT) 0 bT 1=true:=by kernel_rfl
theorem copyCheck_fresh (b:Nat) (w:World) (h0:w.cell? ⟨b,0,none⟩=some (.pointer none)) (hsh:w.shape? b=some (bT,2)) (hfz:w.frozen? ⟨b,0,none⟩=false):
  Calls Tryz.prog 180 #[.pointer (some ⟨b,0,none⟩)] w fun e w'=>e=.returned (.tuple #[])∧w'=w.setCell ⟨b,0,none⟩ (.pointer (some ⟨b,0,none⟩)):=by
 obtain ⟨j,hj,hjs⟩:=Option.map_eq_some_iff.1 sizeBuilder
 go_enter Tryz.func180,Tryz.ntmps180
 go_wp2
 rw [Lib.run_to_unsafe w ⟨b,0,none⟩ Tryz.underlying213 Tryz.underlying269 hj (by rw [hjs]; decide) hsh (Nat.zero_lt_succ 1)]
 simp only [Result.andThen]
 rw [Oper.upon_value]
 go_wp2
 rw [run_callFunc_extern Tryz.func202 (by kernel_rfl) (by kernel_rfl) (by kernel_rfl) (e:=Extern.AbiNoEscape.same) (by kernel_rfl)]
 rw [Lib.run_noEscape]
 simp only [Result.andThen]
 rw [Oper.upon_value]
 go_wp2
 rw [Lib.run_from_unsafe w ⟨b,0,none⟩ Tryz.underlying269 Tryz.underlying213 hj hsh liesBuilder]
 simp only [Result.andThen]
 rw [Oper.upon_value]
 go_wp2
 go_end0
 exact ⟨rfl,rfl⟩
theorem copyCheck_used (b:Nat) (w:World) (h0:w.cell? ⟨b,0,none⟩=some (.pointer (some ⟨b,0,none⟩))):
  Calls Tryz.prog 180 #[.pointer (some ⟨b,0,none⟩)] w fun e w'=>e=.returned (.tuple #[])∧w'=w:=by
 obtain ⟨j,hj,_⟩:=Option.map_eq_some_iff.1 sizeBuilder
 go_enter Tryz.func180,Tryz.ntmps180
 go_wp2
 rw [Lib.run_neq_ptr_same w _ Tryz.underlying213 hj]
 go_wp2
 go_end0
 exact ⟨rfl,rfl⟩
theorem copyCheck_k (B b:Nat) (bs:List Value) (w:World) (h:Lib.IsBuilderF bT 5 B b bs w):
  Calls Tryz.prog 180 #[.pointer (some ⟨b,0,none⟩)] w fun e w'=>e=.returned (.tuple #[])∧(Lib.BuilderAtF bT 5 B b (.pointer (some ⟨b,0,none⟩)) bs w'∧Below B w w'∧Lib.OthersKept 5 (some b) w w'):=by
 rcases h with h | h
 ·refine (copyCheck_fresh b w h.cell0 h.shape h.frozen0).mono ?_
  rintro e w' ⟨rfl,rfl⟩
  exact ⟨rfl,h.used _,(Below.refl B w).setCell (p:=⟨b,0,none⟩) h.1 _,(Lib.OthersKept.refl _ _ w).setCell ⟨b,0,none⟩ rfl _⟩
 ·refine (copyCheck_used b w h.cell0).mono ?_
  rintro e w' ⟨rfl,rfl⟩
  exact ⟨rfl,h,Below.refl B _,Lib.OthersKept.refl _ _ _⟩
theorem writeByte_k (B b:Nat) (bs:List Value) (c:Int) (w:World) (h:Lib.IsBuilderF bT 5 B b bs w) (hlen:bs.length+1≤140737488355328) (hBw:B≤w.heap.size):
  Calls Tryz.prog 146 #[.pointer (some ⟨b,0,none⟩),.int .u8 c] w fun e w'=>e=.returned .nilIface∧(Lib.BuilderAtF bT 5 B b (.pointer (some ⟨b,0,none⟩)) (bs ++ [.int .u8 c]) w'∧Below B w w'∧Lib.OthersKept 5 (some b) w w'):=by
 obtain ⟨i0,hi,hz0,hz1,hz2⟩:=info_parts infoByte
 go_enter Tryz.func146,Tryz.ntmps146
 go_wp2_with (go_at_call 180; refine (copyCheck_k B b bs _ h).mono ?_)
 rintro e w1 ⟨rfl,h1,hb1,hk1⟩
 obtain ⟨hB,v,hbk,hown,hne⟩:=h1
 have c0:w1.cell? ⟨b,0,none⟩=some (.pointer (some ⟨b,0,none⟩)):=by rw [Lib.cell_of_heap hbk]; rfl
 have c1:w1.cell? ⟨b,1,none⟩=some v:=by rw [Lib.cell_of_heap hbk]; rfl
 go_wp2_with (at_builtin; refine wpList_append_ownF _ rfl _ _ 107 rfl B 5 i0 (.int .u8 0) 1 1 Tryz.underlying107 hi hz0 hz1 hz2 rfl (by decide) _ _ _ rfl (hown.alloc _) ⟨w1.heap.size,0,none⟩ 1 1 [.int .u8 c] rfl rfl ?c1 ?c2 ?c3 ?c4 ?c5 ?_)
 case c1=>
  intro j u hj
  match j,hj with
  | 0,hj=>simp at hj; subst hj; simp [Addr.add]
 case c2=>intro u hu; simp at hu; subst hu; rfl
 case c3=>unfold maxLen; omega
 case c4=>omega
 case c5=>have:=hb1.size; simp; omega
 intro v' w2 hown' hgrow _
 have hlt:b < w1.heap.size:=by
  rcases Nat.lt_or_ge b w1.heap.size with h' | h'
  ·exact h'
  ·simp [Array.getElem?_eq_none h'] at hbk
 have hb2:w2.heap[b]? = some (.cells #[.pointer (some ⟨b,0,none⟩),v] bT (0,0)):=by
  rw [hgrow.block b (by simp; omega) (fun e=>hne e.symm),Lib.alloc_old w1 _ b hlt]
  exact hbk
 have d0:w2.cell? ⟨b,0,none⟩=some (.pointer (some ⟨b,0,none⟩)):=by rw [Lib.cell_of_heap hb2]; rfl
 have d1:w2.cell? ⟨b,1,none⟩=some v:=by rw [Lib.cell_of_heap hb2]; rfl
 have f1:w2.frozen? ⟨b,1,none⟩=false:=Lib.frozen_of_heap hb2 1
 obtain ⟨g,cap,rfl⟩:∃ g cap,v'=.slice (some ⟨g,0,none⟩) (bs.length+1) cap:=by
  rcases hown'.2 with ⟨_,h0⟩ | ⟨g,cap,cur,fz,hv,_⟩
  ·omega
  ·exact ⟨g,cap,hv⟩
 go_wp2
 go_ret
 refine ⟨rfl,?_,?_,((hk1.alloc _).grown hgrow (Lib.ownsRowF_kind (hown.alloc _))).setCell ⟨b,1,none⟩ rfl _⟩
 ·exact Lib.BuilderAtF.put (T:=bT) (e:=5) hB hb2 (bs':=bs ++ [.int .u8 c]) (by simpa using hown') neB5
 ·exact ((hb1.alloc (by have:=hb1.size; omega) _).grown hgrow (by have:=hb1.size; simp; omega) (fun k hk=>(hown.lt k hk).1)).setCell (p:=⟨b,1,none⟩) hB _
theorem writeString_k (B b:Nat) (bs:List Value) (s:ByteArray) (w:World) (h:Lib.IsBuilderF bT 5 B b bs w) (hlen:bs.length+s.size≤140737488355328) (hBw:B≤w.heap.size):
  Calls Tryz.prog 145 #[.pointer (some ⟨b,0,none⟩),.string s] w fun e w'=>e=.returned (.tuple #[.int .i64 s.size,.nilIface])∧(Lib.BuilderAtF bT 5 B b (.pointer (some ⟨b,0,none⟩)) (bs ++ Lib.strCells s) w'∧Below B w w'∧Lib.OthersKept 5 (some b) w w'):=by
 obtain ⟨i0,hi,hz0,hz1,hz2⟩:=info_parts infoByte
 go_enter Tryz.func145,Tryz.ntmps145
 go_wp2_with (go_at_call 180; refine (copyCheck_k B b bs _ h).mono ?_)
 rintro e w1 ⟨rfl,h1,hb1,hk1⟩
 obtain ⟨hB,v,hbk,hown,hne⟩:=h1
 have c0:w1.cell? ⟨b,0,none⟩=some (.pointer (some ⟨b,0,none⟩)):=by rw [Lib.cell_of_heap hbk]; rfl
 have c1:w1.cell? ⟨b,1,none⟩=some v:=by rw [Lib.cell_of_heap hbk]; rfl
 go_wp2_with (at_builtin; refine Lib.wpList_append_own_stringF _ rfl _ _ 107 9 rfl B 5 i0 Tryz.underlying107 Tryz.underlying9 hi hz0 hz1 hz2 _ _ _ rfl hown s rfl ?c3 ?c4 ?c5 ?_)
 case c3=>unfold maxLen; omega
 case c4=>omega
 case c5=>have:=hb1.size; omega
 intro v' w2 hown' hgrow _
 have hlt:b < w1.heap.size:=by
  rcases Nat.lt_or_ge b w1.heap.size with h' | h'
  ·exact h'
  ·simp [Array.getElem?_eq_none h'] at hbk
 have hb2:w2.heap[b]? = some (.cells #[.pointer (some ⟨b,0,none⟩),v] bT (0,0)):=by
  rw [hgrow.block b hlt (fun e=>hne e.symm)]
  exact hbk
 have d0:w2.cell? ⟨b,0,none⟩=some (.pointer (some ⟨b,0,none⟩)):=by rw [Lib.cell_of_heap hb2]; rfl
 have d1:w2.cell? ⟨b,1,none⟩=some v:=by rw [Lib.cell_of_heap hb2]; rfl
 have f1:w2.frozen? ⟨b,1,none⟩=false:=Lib.frozen_of_heap hb2 1
 obtain ⟨ao,n',cap,rfl⟩:∃ ao n' cap,v'=.slice ao n' cap:=by
  rcases hown'.2 with ⟨hv,_⟩ | ⟨g,cap,cur,fz,hv,_⟩
  ·exact ⟨_,_,_,hv⟩
  ·exact ⟨_,_,_,hv⟩
 go_wp2
 go_ret2
 refine ⟨rfl,?_,?_,(hk1.grown hgrow (Lib.ownsRowF_kind hown)).setCell ⟨b,1,none⟩ rfl _⟩
 ·exact Lib.BuilderAtF.put (T:=bT) (e:=5) hB hb2 (bs':=bs ++ Lib.strCells s) (by simpa [Lib.strCells_length] using hown') neB5
 ·exact (hb1.grown hgrow (by have:=hb1.size; omega) (fun k hk=>(hown.lt k hk).1)).setCell (p:=⟨b,1,none⟩) hB _
abbrev Bld (B b:Nat) (l:List UInt8) (w:World):Prop:=Lib.IsBuilderF bT 5 B b (Lib.byteCells l) w
structure Wrote (B b:Nat) (l:List UInt8) (w w':World):Prop where
 bld:Bld B b l w'
 below:Below B w w'
 kept:Lib.OthersKept 5 (some b) w w'
theorem Wrote.block {B b k:Nat} {l:List UInt8} {w w':World} (h:Wrote B b l w w') {c:Array Value} {e:TypeId} {fz:Nat × Nat} (hk:w.heap[k]? = some (.cells c e fz)) (hb:k ≠ b) (he:e ≠ 5):w'.heap[k]? = some (.cells c e fz):=
 h.kept k _ hk (fun x=>hb (by injection x)) (fun c' fz' x=>he (by injection x))
theorem dlen (s:ByteArray):s.data.toList.length=s.size:=Array.length_toList
theorem Bld.below {B b:Nat} {l:List UInt8} {w w':World} (h:Bld B b l w) (hb:Below w.heap.size w w'):Bld B b l w':=by
 have key:∀ p,Lib.BuilderAtF bT 5 B b p (Lib.byteCells l) w→Lib.BuilderAtF bT 5 B b p (Lib.byteCells l) w':=by
  rintro p ⟨hB,v,hbk,⟨h1,h2⟩,hne⟩
  refine ⟨hB,v,by rw [hb.block b (lt_of_block hbk)]; exact hbk,⟨h1,?_⟩,hne⟩
  rcases h2 with h2 | ⟨g,cap,cur,fz,hv,hg,hh,r⟩
  ·exact .inl h2
  ·exact .inr ⟨g,cap,cur,fz,hv,hg,by rw [hb.block g (lt_of_block hh)]; exact hh,r⟩
 exact h.imp (key _) (key _)
theorem bld_new (w:World):Bld w.heap.size w.heap.size [] (w.alloc (.cells #[.pointer none,.slice none 0 0] bT)):=Lib.IsBuilderF.of (Lib.fresh_isBuilder bT 5 w)
theorem wByte (B b:Nat) (l:List UInt8) (c:UInt8) (n:Int) (hc:n=c.toNat) (w:World) (h:Bld B b l w) (hlen:l.length≤1073741824) (hBw:B≤w.heap.size):
  Calls Tryz.prog 146 #[.pointer (some ⟨b,0,none⟩),.int .u8 n] w fun e w'=>e=.returned .nilIface∧Wrote B b (l ++ [c]) w w':=by
 refine (writeByte_k B b _ n w h (by rw [Lib.byteCells_length]; omega) hBw).mono fun e w' h=>?_
 obtain ⟨he,h1,h2,h3⟩:=h
 refine ⟨he,⟨?_,h2,h3⟩⟩
 show Lib.IsBuilderF _ _ _ _ _ _
 rw [Lib.byteCells_append,show Lib.byteCells [c] = [Value.int .u8 n] from by rw [hc]; rfl]
 exact .inr h1
theorem wStr (B b:Nat) (l:List UInt8) (s:ByteArray) (w:World) (h:Bld B b l w) (hlen:l.length≤1073741824) (hs:s.size≤1073741824) (hBw:B≤w.heap.size):
  Calls Tryz.prog 145 #[.pointer (some ⟨b,0,none⟩),.string s] w fun e w'=>e=.returned (.tuple #[.int .i64 s.size,.nilIface])∧Wrote B b (l ++ s.data.toList) w w':=by
 refine (writeString_k B b _ s w h (by rw [Lib.byteCells_length]; omega) hBw).mono fun e w' h=>?_
 obtain ⟨he,h1,h2,h3⟩:=h
 refine ⟨he,⟨?_,h2,h3⟩⟩
 show Lib.IsBuilderF _ _ _ _ _ _
 rw [Lib.byteCells_append]
 exact .inr h1
theorem wEnd (B b:Nat) (l:List UInt8) (w:World) (h:Bld B b l w) (hBw:B≤w.heap.size):
  Calls Tryz.prog 147 #[.pointer (some ⟨b,0,none⟩)] w fun e w'=>e=.returned (.string ⟨l.toArray⟩)∧Wrote B b l w w':=by
 refine (Tryz.Builder_String_any_k B b l w h hBw).mono fun e w' h=>?_
 obtain ⟨he,h1,h2,h3⟩:=h
 exact ⟨he,⟨h1,h2,h3⟩⟩
end Go.Proofs.YtiidmgchadagbaaGreatDoor
namespace Go.Proofs.YtiidmgchadagbaaGreatDoor
namespace D
def bodyOkB (ps:List Pt):Bool:=decide (ps.length≤4) && ps.all fun p=>atomOk p.atom
def ruleOk (r:Ru):Bool:=bodyOkB r.body && atomOk r.head
end D
end Go.Proofs.YtiidmgchadagbaaGreatDoor
