/- Of the proof of FnExactRounds: MarkRs, EqR, KeyV, MapF, SortS. -/
import Derived.Test.YtiidmgchadagbaaGreatDoorM12
import Derived.Lib.OwnBridge
import Derived.Sort.OwnSorted
set_option linter.unusedVariables false
set_option maxHeartbeats 2000000
namespace Go.Proofs.YtiidmgchadagbaaGreatDoor
open Go.RowKit D
attribute [local go_sem ↓] Go.wp_at_zero Go.wp_at_succ
def D.cntRu (r:Ru):Nat:=1+2 * r.head.args.length+sumL cntP r.body
def D.mkRu (r:Ru) (k:Nat):Ru:=⟨⟨markText k,markTs r.head.args (k+1)⟩,markPs r.body (k+1+2 * r.head.args.length)⟩
def D.markRs:List Ru→Nat→List Ru:=markL mkRu cntRu
theorem D.cntRu_pos (r:Ru):1≤cntRu r:=by unfold cntRu; omega
theorem markRuleS_any (ts:List Ru) (v:Value) (bs:List Nat) (k B:Nat) (w:World) (h:rulesK w [v] ts bs) (hN:New B w bs) (hk:k+sumL cntRu ts≤1000000000000):
  Calls Tryz.prog 14 #[v,.int .i64 k] w (Marked rulesK [v] (markRs ts k) bs (k+sumL cntRu ts) B w):=by
 obtain ⟨Ad,cap,rfl,hl,hm⟩:=sliceK_form h
 have hlen:ts.length≤1000000000000:=Nat.le_trans (len_cnt cntRu cntRu_pos ts) (by omega)
 clear hm
 go_enter Tryz.func14,Tryz.ntmps14
 go_wp2
 go_loopw [1,5] (fun q j wr=>∃ (i:Nat) (ys:List Ru),i≤ts.length∧j=.int .i64 i∧q=.int .i64 (k+sumL cntRu (ts.take i):Nat)∧ys=markTo mkRu cntRu ts k i∧rulesK wr [.slice Ad ts.length cap] ys bs∧New B wr bs∧KeptBut bs w wr) (fun _ j _=>ts.length - (intOf j).toNat)
 case atStart=>exact ⟨0,ts,Nat.zero_le _,rfl,rfl,rfl,h,hN,KeptBut.refl _ _⟩
 case round=>
  obtain ⟨i,ys,hi,rfl,rfl,hy,hT,hNr,hK⟩:=hrel
  clear h hN
  by_cases hlt:i < ts.length
  ·have HLT:=η hlt
   have hle:ys.length=ts.length:=by rw [hy,markTo_length]
   have hey:ys[i]'(by omega)=ts[i]:=by subst hy; exact markTo_at hlt
   have HS:=η (markTo_step (mk:=mkRu) (cnt:=cntRu) (k:=k) hlt)
   have hsn:=sumL_snoc cntRu ts i hlt
   have hle2:=sumL_le_of_lt cntRu ts i hlt
   have HY:=η hy
   clear hy
   obtain ⟨b,o,cs,bk,rfl,hb,hbk,hnd,hsub,hcs,hcell,hat,hput⟩:=sliceK_open ruleK_good hT hNr.nodup (k:=i) (by omega)
   rw [hey] at hat
   obtain ⟨s1,s2,b1,b2,rfl,_,rfl,ht,hp⟩:=hat
   obtain ⟨u0,c0⟩:∃ u,wr.cell? ⟨b,o+i * 3,none⟩=some u:=⟨_,hcell 0 _ rfl⟩
   have c1:wr.cell? ⟨b,o+i * 3+1,none⟩=some s1:=by have:=hcell 1 _ rfl; rwa [← Nat.add_assoc] at this
   have c2:wr.cell? ⟨b,o+i * 3+2,none⟩=some s2:=by have:=hcell 2 _ rfl; rwa [← Nat.add_assoc] at this
   have hWb:=hNr.wri b hb
   have f0:=hWb.frozen (o+i * 3)
   have hbl:=hNr.lt hb
   generalize ts[i]=a at *
   have hca:cntRu a=1+2 * a.head.args.length+sumL cntP a.body:=rfl
   have HP:=η hput
   have HL:=η hle
   have HN:=η hNr
   have HSN:=η hsn
   clear hcell hput hT hcs hle hNr hey hsn hWb
   obtain ⟨q,hq⟩:∃ q,q=k+sumL cntRu (ts.take i):=⟨_,rfl⟩
   rw [← hq] at HS ⊢
   have hq9:q+1+2 * a.head.args.length+sumL cntP a.body≤1000000000000:=by omega
   have hq1:(q:Int)+1≤1000000000000:=by omega
   have hq2:q≤1000000000000:=by omega
   have HQ:=η hq
   have HC:=η hca
   have hb1:b ∉ b1:=fun h=>hbk (List.mem_append_left _ h)
   have hb2':b ∉ b2:=fun h=>hbk (List.mem_append_right _ h)
   have hs1:∀ c ∈ b1,c ∈ bs:=fun c h=>hsub c (List.mem_append_left _ h)
   have hs2:∀ c ∈ b2,c ∈ bs:=fun c h=>hsub c (List.mem_append_right _ h)
   have hnd1:=(List.nodup_append.1 hnd).1
   have hnd2:=(List.nodup_append.1 hnd).2.1
   have hpar:=(List.nodup_append.1 hnd).2.2
   clear hq hle2 hca
   go_wp2_with fail
   refine (markText_any q _ (by omega)).mono ?_
   rintro e w2 ⟨rfl,hb2⟩
   have hN2:New B w2 bs:=HN.out.below hb2
   have g0:w2.cell? ⟨b,o+i * 3,none⟩=some u0:=cell_later hb2 c0
   have g1:w2.cell? ⟨b,o+i * 3+1,none⟩=some s1:=cell_later hb2 c1
   have g2:w2.cell? ⟨b,o+i * 3+2,none⟩=some s2:=cell_later hb2 c2
   have f2:w2.frozen? ⟨b,o+i * 3,none⟩=false:=(hb2.frozen (p:=⟨b,o+i * 3,none⟩) hbl).trans f0
   have HB2:=η hb2
   have hk2:KeptBut bs wr (w2.setCell ⟨b,o+i * 3,none⟩ (.string (markText q))):=(KeptBut.of_below hb2).setCell hb _
   have hN3:New B (w2.setCell ⟨b,o+i * 3,none⟩ (.string (markText q))) bs:=hN2.set _ _
   have hrest:∀ p v,wr.cell? ⟨b,o+p,none⟩=some v→(p < i * 3∨i * 3+3≤p)→(w2.setCell ⟨b,o+i * 3,none⟩ (.string (markText q))).cell? ⟨b,o+p,none⟩=some v:=fun p v hv hp=>setCell_other (cell_later hb2 hv) (by omega)
   have hblk:∀ c ∈ bs,c ≠ b→(w2.setCell ⟨b,o+i * 3,none⟩ (.string (markText q))).heap[c]? = wr.heap[c]?:=fun c hc hne=>by rw [Below.heap_setCell _ _ _ _ hne,hb2.block c (HN.out.lt hc)]
   have g3:(w2.setCell ⟨b,o+i * 3,none⟩ (.string (markText q))).cell? ⟨b,o+i * 3+1,none⟩=some s1:=setCell_other g1 (by omega)
   have g4:(w2.setCell ⟨b,o+i * 3,none⟩ (.string (markText q))).cell? ⟨b,o+i * 3+2,none⟩=some s2:=setCell_other g2 (by omega)
   have g5:(w2.setCell ⟨b,o+i * 3,none⟩ (.string (markText q))).cell? ⟨b,o+i * 3,none⟩=some (.string (markText q)):=World.cell?_setCell_same' _ _ _ (by rw [g0]; rfl)
   have ht3:termsK (w2.setCell ⟨b,o+i * 3,none⟩ (.string (markText q))) [s1] a.head.args b1:=termsK_good.keep ht fun c hc=>hblk c (hs1 c hc) fun e=>hb1 (by rw [← e]; exact hc)
   have hp3:partsK (w2.setCell ⟨b,o+i * 3,none⟩ (.string (markText q))) [s2] a.body b2:=partsK_good.keep hp fun c hc=>hblk c (hs2 c hc) fun e=>hb2' (by rw [← e]; exact hc)
   obtain ⟨Ae,ce,rfl,_⟩:=sliceK_form ht
   obtain ⟨Af,cf,rfl,_⟩:=sliceK_form hp
   have HR:=η hrest
   have HB:=η hblk
   have HT3:=η ht3
   have HP3:=η hp3
   clear hrest hblk hN2 ht hp ht3 hp3 c0 c1 c2 f0
   go_wp2_with fail
   generalize hw3:w2.setCell ⟨b,o+i * 3,none⟩ (.string (markText q))=w3 at *
   clear hw3 g0 g1 g2 f2
   refine (markTermS_any a.head.args _ b1 (q+1) B _ HT3.out (hN3.sub hnd1 hs1) (by omega)).mono ?_
   rintro e w4 ⟨rfl,hR4,hN4,hK4⟩
   have j0:=hK4.cell (p:=⟨b,o+i * 3,none⟩) hb1 g5
   have j1:=hK4.cell (p:=⟨b,o+i * 3+1,none⟩) hb1 g3
   have j2:=hK4.cell (p:=⟨b,o+i * 3+2,none⟩) hb1 g4
   have hp4:partsK w4 [.slice Af a.body.length cf] a.body b2:=partsK_good.keep HP3.out fun c hc=>hK4.block c (hN3.lt (hs2 c hc)) fun h=>hpar c h c hc rfl
   have hN5:New B w4 bs:=hN3.mix hN4 hK4
   have HK4:=η hK4
   have HR4:=η hR4
   have HN4:=η hN4
   have HP4:=η hp4
   clear hK4 hR4 hN4 hp4 g3 g4 g5
   have hqq:(q:Int)+1+2 * (a.head.args.length:Int)≤1000000000000:=by omega
   go_wp2_with fail
   have hcast:(((q+1+2 * a.head.args.length:Nat)):Int)=(q:Int)+1+2 * (a.head.args.length:Int):=by omega
   refine (markPartS_any a.body _ b2 (q+1+2 * a.head.args.length) B _ HP4.out (hN5.sub hnd2 hs2) (by omega)).mono ?_
   rintro e w5 ⟨rfl,hR6,hN6,hK6⟩
   have hR5:termsK w5 [.slice Ae a.head.args.length ce] (markTs a.head.args (q+1)) b1:=termsK_good.keep HR4.out fun c hc=>hK6.block c (hN5.lt (hs1 c hc)) fun h=>hpar c hc c h rfl
   have R:=HP.out w5 [.string (markText q),.slice Ae a.head.args.length ce,.slice Af a.body.length cf] (mkRu a q) rfl
    (fun j v hv=>by
     match j,hv with
     | 0,hv=>
      simp only [List.getElem?_cons_zero,Option.some.injEq] at hv
      subst hv
      rw [Nat.add_zero]
      exact hK6.cell hb2' j0
     | 1,hv=>
      simp only [List.getElem?_cons_succ,List.getElem?_cons_zero,Option.some.injEq] at hv
      subst hv
      rw [← Nat.add_assoc]
      exact hK6.cell hb2' j1
     | 2,hv=>
      simp only [List.getElem?_cons_succ,List.getElem?_cons_zero,Option.some.injEq] at hv
      subst hv
      rw [← Nat.add_assoc]
      exact hK6.cell hb2' j2
     | j+3,hv=>simp at hv)
    (fun p v hv hp=>hK6.cell hb2' (HK4.out.cell hb1 (HR.out p v hv hp)))
    (fun c hc hne hnb=>by rw [hK6.block c (hN5.lt hc) fun h=>hnb (List.mem_append_right _ h),HK4.out.block c (hN3.lt hc) fun h=>hnb (List.mem_append_left _ h),HB.out c hc hne])
    ⟨_,_,b1,b2,rfl,markText_size (k:=q) (by omega),rfl,hR5,hR6⟩
   rw [HY.out,HS.out] at R
   have hN7:New B w5 bs:=hN5.mix hN6 hK6
   have hK7:KeptBut bs w w5:=hK.trans (hk2.trans ((HK4.out.mono hs1).trans (hK6.mono hs2)))
   clear HP HN HR HB hK6 hN6 hN5 hk2 hR6 hR5 HY HS HT3 HP3 HK4 HR4 HN4 HP4 j0 j1 j2 hcast
   go_wp2_with fail
   go_roundw
   case rel=>exact ⟨i+1,_,HLT.out,by go_num,by have:=HQ.out; have:=HSN.out; have:=HC.out; go_num,rfl,R,hN7,hK7⟩
   case measure=>have:=HLT.out; simp [intOf]; omega
  ·have he:i=ts.length:=by omega
   subst he
   have HY:Hid (ys=markRs ts k):=η (by rw [hy,markTo_all]; rfl)
   have HT:Hid (ts.take ts.length=ts):=η (List.take_of_length_le (Nat.le_refl _))
   clear hy
   go_wp2
   go_ret
   exact ⟨by rw [HT.out]; rfl,by rw [← HY.out]; exact hT,hNr,hK⟩
theorem D.cntRs_le (xs:List Ru):sumL cntRu xs≤3 * bulkRs xs:=by
 unfold bulkRs
 induction xs with
 | nil=>simp [sumL]
 | cons x xs ih=>
  have h0:=cntPs_le x.body
  have h1:cntRu x≤3+3 * bulkR x:=by unfold cntRu bulkR bulkA; omega
  simp only [sumL,List.map_cons,List.sum_cons,List.length_cons] at *
  omega
theorem eqRule_same (r:Ru) (c0 c1 c2 d0 d1 d2:Value) (b1 b2:List Nat) (w:World) (h1:ruleK w [c0,c1,c2] r b1) (h2:ruleK w [d0,d1,d2] r b2):
  Calls Tryz.prog 38 #[.agg #[c0,c1,c2],.agg #[d0,d1,d2]] w (Yes w.heap.size w):=by
 obtain ⟨b11,b12,rfl,p1,q1⟩:=rule_parts h1
 obtain ⟨b21,b22,rfl,p2,q2⟩:=rule_parts h2
 obtain ⟨Ad,cap,Ae,cape,rfl,rfl,rfl⟩:=rule_cells2 h1
 obtain ⟨Ad2,cap2,Ae2,cape2,rfl,rfl,rfl⟩:=rule_cells2 h2
 have e1:=fun w' (hb:Below w.heap.size w w')=>eqAtom_same r.head _ _ _ _ b11 b21 w' (atomK_good.below p1 hb) (atomK_good.below p2 hb)
 have e2:=fun w' (hb:Below w.heap.size w w')=>eqPartS_same r.body _ _ b12 b22 w' (partsK_good.below q1 hb) (partsK_good.below q2 hb)
 clear h1 h2 p1 p2 q1 q2
 have hA:=((Below.refl w.heap.size w).alloc (Nat.le_refl _) (.cells #[.string r.head.name,.slice Ad r.head.args.length cap,.slice Ae r.body.length cape] 71)).alloc (by simp) (.cells #[.string r.head.name,.slice Ad2 r.head.args.length cap2,.slice Ae2 r.body.length cape2] 71)
 go_enter Tryz.func38,Tryz.ntmps38
 go_wp2_with fail
 refine (e1 _ hA).mono ?_
 rintro e w1 ⟨rfl,hb1⟩
 have B1:=hA.trans (hb1.mono hA.size)
 have x0:w1.cell? ⟨w.heap.size,0,none⟩=some (.string r.head.name):=cell_later hb1 (by go_simp)
 have y0:w1.cell? ⟨w.heap.size+1,0,none⟩=some (.string r.head.name):=cell_later hb1 (by go_simp)
 have x1:w1.cell? ⟨w.heap.size,1,none⟩=some (.slice Ad r.head.args.length cap):=cell_later hb1 (by go_simp)
 have y1:w1.cell? ⟨w.heap.size+1,1,none⟩=some (.slice Ad2 r.head.args.length cap2):=cell_later hb1 (by go_simp)
 have x2:w1.cell? ⟨w.heap.size,2,none⟩=some (.slice Ae r.body.length cape):=cell_later hb1 (by go_simp)
 have y2:w1.cell? ⟨w.heap.size+1,2,none⟩=some (.slice Ae2 r.body.length cape2):=cell_later hb1 (by go_simp)
 clear e1 hA
 go_wp2_with fail
 refine (e2 _ B1).mono ?_
 rintro e w2 ⟨rfl,hb2⟩
 go_wp2
 go_ret
 exact ⟨rfl,B1.trans (hb2.mono B1.size)⟩
end Go.Proofs.YtiidmgchadagbaaGreatDoor
namespace Go.Proofs.YtiidmgchadagbaaGreatDoor
open Go.RowKit Go.ChangeMaps Go.MapKept D
def D.isStr (v:Value):Prop:=∃ s:ByteArray,v=.string s∧s.size≤maxLen
theorem D.keyV_str:KeyV Tryz.prog 9 (fun _=>True) isStr:=by
 have K:=Go.WideMaps.string_law (P:=Tryz.prog) Tryz.underlying9
 have hk:∀ {s:ByteArray},s.size≤maxLen→keyOf Tryz.prog 9 (.string s)=some (.string s.data.toList):=fun h=>Go.WideMaps.keyOf_string_mk Tryz.underlying9 h
 refine ⟨?_,?_,?_⟩
 ·rintro w em v ⟨s,rfl,hs⟩
  exact K.check w em (hk hs)
 ·rintro w _ k ⟨s,rfl,hs⟩ es hes
  exact K.find w (hk hs) es fun e he=>by
   obtain ⟨s',h1,h2⟩:=hes e he
   exact ⟨_,by rw [h1]; exact hk h2⟩
 ·rintro v ⟨s,rfl,_⟩
  simp [Instr.sameBits]
structure D.WK where
 name:ByteArray
 size:Nat
 place:Int
 word:ByteArray
deriving DecidableEq
def D.wkV (k:WK):Value:=.agg #[.string k.name,.int .i64 k.size,.int .i64 k.place,.string k.word]
def D.isWK (v:Value):Prop:=∃ k:WK,v=wkV k
theorem D.wkV_inj {k l:WK} (h:wkV k=wkV l):k=l:=by
 obtain ⟨a,b,c,d⟩:=k
 obtain ⟨a',b',c',d'⟩:=l
 simp [wkV] at h
 obtain ⟨rfl,h2,rfl,rfl⟩:=h
 have:b=b':=by omega
 rw [this]
theorem wkFields:Tryz.prog.underlying 165=some (.struct (Tryz.prog.fieldsOf 165)):=by kernel_rfl
theorem wkHeld:Tryz.prog.stoodInHeld 165=false:=by kernel_rfl
theorem wkList : (Tryz.prog.fieldsOf 165).toList.map (fun f => (f.name, f.type, f.offset)) = [("name", 9, 0), ("size", 3, 1), ("at", 3, 2), ("word", 9, 3)] := by kernel_rfl
theorem D.wk_fields : ∃ f0 f1 f2 f3, (Tryz.prog.fieldsOf 165).toList = [f0, f1, f2, f3] ∧ (f0.name ≠ "_" ∧ f0.type = 9 ∧ f0.offset = 0) ∧ (f1.name ≠ "_" ∧ f1.type = 3 ∧ f1.offset = 1) ∧
  (f2.name ≠ "_" ∧ f2.type = 3 ∧ f2.offset = 2) ∧ (f3.name ≠ "_" ∧ f3.type = 9 ∧ f3.offset = 3) := by
 have h:=wkList
 generalize (Tryz.prog.fieldsOf 165).toList=L at h
 have hl:L.length=4:=by have:=congrArg List.length h; simpa using this
 match L,hl,h with
 | [f0,f1,f2,f3],_,h=>
  simp at h
  obtain ⟨⟨a1,a2,a3⟩,⟨b1,b2,b3⟩,⟨c1,c2,c3⟩,d1,d2,d3⟩:=h
  exact ⟨f0,f1,f2,f3,rfl,⟨by rw [a1]; decide,a2,a3⟩,⟨by rw [b1]; decide,b2,b3⟩,⟨by rw [c1]; decide,c2,c3⟩,by rw [d1]; decide,d2,d3⟩
theorem D.eq_str (d:Nat) (a b:ByteArray) (w:World):(Op.equalIn (d+1) 9 (.string a) (.string b)).run Tryz.prog w=.ok (a == b) w:=by
 simp [Op.equalIn,run_underlying Tryz.underlying9,Result.andThen]
theorem D.eq_int (d:Nat) (a b:Int) (w:World):(Op.equalIn (d+1) 3 (.int .i64 a) (.int .i64 b)).run Tryz.prog w=.ok (a == b) w:=by
 simp [Op.equalIn,run_underlying Tryz.underlying3,Result.andThen]
theorem D.part_str {cs:Array Value} {o:Nat} {v:Value} (h:cs[o]? = some v) (w:World):(part 9 cs o).run Tryz.prog w=.ok v w:=by
 simp [part,isAgg,run_underlying Tryz.underlying9,h,Result.andThen]
theorem D.part_int {cs:Array Value} {o:Nat} {v:Value} (h:cs[o]? = some v) (w:World):(part 3 cs o).run Tryz.prog w=.ok v w:=by
 simp [part,isAgg,run_underlying Tryz.underlying3,h,Result.andThen]
theorem D.keyA_wk:KeyA Tryz.prog 165 (fun _=>True) isWK:=by
 refine ⟨⟨_,wkFields,?_⟩,?_⟩
 ·rintro a b ⟨k,rfl⟩ ⟨l,rfl⟩
  rfl
 ·rintro w a b _ ⟨k,rfl⟩ ⟨l,rfl⟩
  obtain ⟨f0,f1,f2,f3,hf,⟨a1,a2,a3⟩,⟨b1,b2,b3⟩,⟨c1,c2,c3⟩,d1,d2,d3⟩:=wk_fields
  have hrun:=run_equalIn_struct (P:=Tryz.prog) (w:=w) 9999 165 #[.string k.name,.int .i64 k.size,.int .i64 k.place,.string k.word] #[.string l.name,.int .i64 l.size,.int .i64 l.place,.string l.word] wkFields wkHeld
  refine ⟨k.name == l.name && ((k.size:Int) == (l.size:Int) && (k.place == l.place && k.word == l.word)),?_,?_⟩
  ·show (Op.equalIn 10000 _ _ _).run _ _=_
   unfold wkV
   rw [hrun,hf]
   simp [Op.eqFields,a1,a2,a3,b1,b2,b3,c1,c2,c3,d1,d2,d3,part_str,part_int,eq_str,eq_int,Result.andThen]
   by_cases h1:k.name=l.name <;> by_cases h2:(k.size:Int)=(l.size:Int) <;> by_cases h3:k.place=l.place <;> by_cases h4:k.word=l.word <;> simp [h1,h2,h3,h4]
  ·constructor
   ·intro h
    simp at h
    obtain ⟨h1,h2,h3,h4⟩:=h
    obtain ⟨a,b,c,d⟩:=k
    obtain ⟨a',b',c',d'⟩:=l
    simp only at h1 h2 h3 h4
    rw [h1,h3,h4,show b=b' by omega]
   ·intro h
    rw [wkV_inj h]
    simp
theorem D.check_str (em:Bool) (v:ByteArray) (w:World):(Instr.checkKey em 9999 9 (.string v)).run Tryz.prog w=.ok () w:=by
 show (Instr.checkKey em (9998+1) _ _).run _ _=_
 rw [Instr.checkKey]
 simp [run_underlying Tryz.underlying9,Result.andThen]
theorem D.check_int (em:Bool) (v:Int) (w:World):(Instr.checkKey em 9999 3 (.int .i64 v)).run Tryz.prog w=.ok () w:=by
 show (Instr.checkKey em (9998+1) _ _).run _ _=_
 rw [Instr.checkKey]
 simp [run_underlying Tryz.underlying3,Result.andThen]
theorem D.keyV_wk:KeyV Tryz.prog 165 (fun _=>True) isWK:=by
 refine ⟨?_,fun hW k hk es hs=>findKey_a keyA_wk hW hk es hs,?_⟩
 ·rintro w em v ⟨k,rfl⟩
  obtain ⟨f0,f1,f2,f3,hf,⟨a1,a2,a3⟩,⟨b1,b2,b3⟩,⟨c1,c2,c3⟩,d1,d2,d3⟩:=wk_fields
  show (Instr.checkKey em (9999+1) _ _).run _ _=_
  rw [Instr.checkKey]
  unfold wkV
  simp only [Sem.run_bind,run_underlying wkFields,Result.andThen_ok]
  rw [← Array.forIn_toList,hf]
  simp [a1,a2,a3,b1,b2,b3,c1,c2,c3,d1,d2,d3,part_str,part_int,check_str,check_int,Result.andThen]
 ·rintro v ⟨k,rfl⟩
  simp [Instr.sameBits,wkV]
end Go.Proofs.YtiidmgchadagbaaGreatDoor
namespace Go.Proofs.YtiidmgchadagbaaGreatDoor
open Go.RowKit Go.Maps D
theorem D.lawS:Keyed Tryz.prog 9:=string_keyed Tryz.underlying9
theorem D.zeroI (w:World):(zeroValue 3).run Tryz.prog w=.ok (.int .i64 0) w:=by kernel_rfl
def D.keyL (s:ByteArray):Lit:=.string s.data.toList
theorem D.keyOf_s {s:ByteArray} (h:s.size≤maxLen):keyOf Tryz.prog 9 (.string s)=some (keyL s):=Go.WideMaps.keyOf_string_mk Tryz.underlying9 h
theorem D.keyL_inj {s t:ByteArray} (h:keyL s=keyL t):s=t:=by
 unfold keyL at h
 injection h with h
 exact bytes_inj h
theorem D.lit_eq {H:Type} {x y:Int} (h:(DataW.lit (.int .i64 x):DataW H)=.lit (.int .i64 y)):x=y:=by simpa using h
structure D.MapF (b n:Nat) (L:List ByteArray) (f:ByteArray→Int) (w:World):Prop where
 own:∃ M:DataW Unit,w.ownsMap Tryz.prog 9 (plainElem Tryz.prog 3) b n M∧Maps.size M=L.length∧(∀ s,has M (keyL s)=decide (s ∈ L))∧∀ s ∈ L,M.atKey (keyL s) (.lit (.int .i64 0))=.lit (.int .i64 (f s))
 nd:L.Nodup
 sz:∀ s ∈ L,s.size≤maxLen
theorem D.MapF.made (w:World) (f:ByteArray→Int):MapF w.heap.size 0 [] f (w.alloc (.map #[] 0)):=
 ⟨⟨.map [],World.ownsMap_made _ _ _ _,rfl,fun s=>by simp [has],fun s h=>by simp at h⟩,List.nodup_nil,fun s h=>by simp at h⟩
theorem D.MapF.same {b n:Nat} {L:List ByteArray} {f:ByteArray→Int} {w w':World} (h:MapF b n L f w) (e:w'.heap[b]? = w.heap[b]?):MapF b n L f w':=by
 obtain ⟨⟨M,⟨es,c,h1,h2⟩,h3⟩,h4,h5⟩:=h
 exact ⟨⟨M,⟨es,c,e.trans h1,h2⟩,h3⟩,h4,h5⟩
theorem D.MapF.mono {b n n':Nat} {L:List ByteArray} {f:ByteArray→Int} {w:World} (h:MapF b n L f w) (hn:n≤n'):MapF b n' L f w:=by
 obtain ⟨⟨M,h1,h2⟩,h4,h5⟩:=h
 exact ⟨⟨M,h1.mono hn,h2⟩,h4,h5⟩
theorem D.MapF.lt {b n:Nat} {L:List ByteArray} {f:ByteArray→Int} {w:World} (h:MapF b n L f w):b < w.heap.size:=by
 obtain ⟨⟨M,h1,_⟩,_⟩:=h
 exact h1.lt
theorem D.MapF.below {b n:Nat} {L:List ByteArray} {f:ByteArray→Int} {w w':World} {B:Nat} (h:MapF b n L f w) (hb:Below B w w') (hB:b < B):MapF b n L f w':=h.same (hb.block b hB)
theorem D.MapF.setCell {b n:Nat} {L:List ByteArray} {f:ByteArray→Int} {w:World} (h:MapF b n L f w) {a:Addr} (ha:b ≠ a.block) (u:Value):MapF b n L f (w.setCell a u):=
 h.same (Below.heap_setCell _ _ _ _ ha)
theorem D.MapF.len_le {b n:Nat} {L:List ByteArray} {f:ByteArray→Int} {w:World} (h:MapF b n L f w):L.length≤n:=by
 obtain ⟨⟨M,h1,h2,_⟩,_⟩:=h
 have:=h1.size_le
 omega
theorem D.MapF.congr {b n:Nat} {L:List ByteArray} {f g:ByteArray→Int} {w:World} (h:MapF b n L f w) (e:∀ s ∈ L,f s=g s):MapF b n L g w:=by
 obtain ⟨⟨M,h1,h2,h3,h4⟩,h5,h6⟩:=h
 exact ⟨⟨M,h1,h2,h3,fun s hs=>by rw [h4 s hs,e s hs]⟩,h5,h6⟩
section
variable {ops:Array Oper} {rest:List Oper} {o:Oper} {a:Act} {Q:Exit→Act→World→Prop}
theorem wpList_mapf_ok (w:World) (hg:o.guard=none) (m x:Operand) (t:TypeId) (hop:o.op=Op.lookup t m x true) (ht:Tryz.prog.underlying t=some (.map 9 3))
  (b n:Nat) (L:List ByteArray) (f:ByteArray→Int) (hm:a.eval m=.map (some b)) (h:MapF b n L f w) (s:ByteArray) (hx:a.eval x=.string s) (hs:s.size≤maxLen)
  (c:Bool) (hc:decide (s ∈ L)=c) (v:Int) (hv:(if s ∈ L then f s else 0)=v)
  (hK:wpList Tryz.prog ops Q rest (a.put o.dst (.tuple #[.int .i64 v,.bool c])) w):wpList Tryz.prog ops Q (o :: rest) a w:=by
 obtain ⟨⟨M,h1,h2,h3,h4⟩,h5,h6⟩:=h
 refine wpList_lookup_own_ok_int w hg m x t hop _ _ .i64 lawS ht Tryz.underlying3 (zeroI w) b n M hm h1 (.string s) (keyL s) hx (keyOf_s hs) fun d hd hw=>?_
 rw [h3 s,hc]
 have:d=v:=by
  rw [← hv]
  split
  ·rename_i hmem
   have:=h4 s hmem
   rw [this] at hd
   exact lit_eq hd.symm
  ·rename_i hmem
   have h7:has M (keyL s)=false:=by rw [h3 s]; simpa using hmem
   rw [atKey_of_not_has h7] at hd
   exact lit_eq hd.symm
 rw [this]
 exact hK
theorem wpList_mapf (w:World) (hg:o.guard=none) (m x:Operand) (t:TypeId) (hop:o.op=Op.lookup t m x false) (ht:Tryz.prog.underlying t=some (.map 9 3))
  (b n:Nat) (L:List ByteArray) (f:ByteArray→Int) (hm:a.eval m=.map (some b)) (h:MapF b n L f w) (s:ByteArray) (hx:a.eval x=.string s) (hs:s.size≤maxLen)
  (v:Int) (hv:(if s ∈ L then f s else 0)=v)
  (hK:wpList Tryz.prog ops Q rest (a.put o.dst (.int .i64 v)) w):wpList Tryz.prog ops Q (o :: rest) a w:=by
 obtain ⟨⟨M,h1,h2,h3,h4⟩,h5,h6⟩:=h
 refine wpList_lookup_own_int w hg m x t hop _ _ .i64 lawS ht Tryz.underlying3 (zeroI w) b n M hm h1 (.string s) (keyL s) hx (keyOf_s hs) fun d hd hw=>?_
 have:d=v:=by
  rw [← hv]
  split
  ·rename_i hmem
   have:=h4 s hmem
   rw [this] at hd
   exact lit_eq hd.symm
  ·rename_i hmem
   have h7:has M (keyL s)=false:=by rw [h3 s]; simpa using hmem
   rw [atKey_of_not_has h7] at hd
   exact lit_eq hd.symm
 rw [this]
 exact hK
theorem wpList_mapf_len (w:World) (hg:o.guard=none) (m:Operand) (t:TypeId) (hop:o.op=Op.call { callee:=Callee.builtin Builtin.len,args:=#[m],argTypes:=#[t] }) (ht:Tryz.prog.underlying t=some (.map 9 3))
  (b n:Nat) (L:List ByteArray) (f:ByteArray→Int) (hm:a.eval m=.map (some b)) (h:MapF b n L f w)
  (hK:wpList Tryz.prog ops Q rest (a.put o.dst (.int .i64 L.length)) w):wpList Tryz.prog ops Q (o :: rest) a w:=by
 obtain ⟨⟨M,h1,h2,h3,h4⟩,h5,h6⟩:=h
 refine wpList_len_own w hg m t hop _ _ ht _ b n M hm h1 ?_
 rw [h2]
 exact hK
theorem D.putNew_nodup {L:List ByteArray} (h:L.Nodup) (s:ByteArray):(putNew L s).Nodup:=(places_fold [s] L h).1
theorem wpList_mapf_put (w:World) (hg:o.guard=none) (m x v:Operand) (t:TypeId) (hop:o.op=Op.mapUpdate t m x v) (ht:Tryz.prog.underlying t=some (.map 9 3))
  (b n:Nat) (L:List ByteArray) (f:ByteArray→Int) (hm:a.eval m=.map (some b)) (h:MapF b n L f w) (s:ByteArray) (hx:a.eval x=.string s) (hs:s.size≤maxLen) (z:Int) (hv:a.eval v=.int .i64 z) (hn:n < maxLen) (hz:0≤z∧z≤1000000)
  (hK:∀ w',MapF b (n+1) (putNew L s) (fun t=>if t=s then z else f t) w'→w.grownBy w' (some b)→wpList Tryz.prog ops Q rest (a.put o.dst undef) w'):wpList Tryz.prog ops Q (o :: rest) a w:=by
 obtain ⟨⟨M,h1,h2,h3,h4⟩,h5,h6⟩:=h
 refine wpList_mapUpdate_own w hg m x v t hop _ _ lawS ht _ b n M hm h1 hn (.string s) (.int .i64 z) (keyL s) hx hv (keyOf_s hs) (.lit (.int .i64 z)) [] (plainElem_int Tryz.underlying3 (WalkArith.wf_i64 (by omega))) fun w' h7 hgr=>?_
 refine hK w' ⟨⟨_,h7,?_,fun t=>?_,fun t ht=>?_⟩,putNew_nodup h5 s,fun t ht=>?_⟩ hgr
 ·rw [size_put (h1.tidy lawS),h3 s]
  unfold putNew
  by_cases hm:s ∈ L
  ·simp [hm,h2]
  ·simp [hm,h2]
 ·by_cases e:t=s
  ·subst e
   rw [has_put_same h1.isMap (lawS.key (keyOf_s hs))]
   exact (decide_eq_true (putNew_mem.2 (.inr rfl))).symm
  ·rw [has_put_other (fun h=>e (keyL_inj h)),h3 t]
   by_cases hm:t ∈ L
   ·simp [hm,putNew_mem]
   ·simp [hm,putNew_mem,e]
 ·by_cases e:t=s
  ·subst e
   rw [atKey_put_same h1.isMap (lawS.key (keyOf_s hs)),if_pos rfl]
  ·rw [atKey_put_other (fun h=>e (keyL_inj h)),if_neg e]
   exact h4 t ((putNew_mem.1 ht).resolve_right e)
 ·rcases putNew_mem.1 ht with h | rfl
  ·exact h6 t h
  ·exact hs
end
section
variable {ops:Array Oper} {rest:List Oper} {o:Oper} {a:Act} {Q:Exit→Act→World→Prop}
end
end Go.Proofs.YtiidmgchadagbaaGreatDoor
namespace Go.Proofs.YtiidmgchadagbaaGreatDoor
open Go.RowKit Go.Sort D
theorem D.coll_strs {base e:Nat} {w:World} {v:Value} {L:List Value} {xs:List ByteArray} {bs:List Nat} (h:Coll 1 strK base e w v L xs bs):L=xs.map Value.string∧(∀ s ∈ xs,s.size≤maxLen)∧bs = []:=by
 obtain ⟨_,⟨hl,_,G,rfl,hat⟩,_⟩:=h
 rw [Nat.mul_one] at hl
 have h1:∀ j (hj:j < xs.length),L[j]? = some (.string xs[j])∧xs[j].size≤maxLen∧G j = []:=fun j hj=>by
  obtain ⟨a,b,c⟩:=hat j hj
  refine ⟨?_,b,c⟩
  rw [Nat.mul_one] at a
  have:=congrArg (fun l:List Value=>l[0]?) a
  simpa [List.getElem?_take,List.getElem?_drop] using this
 refine ⟨List.ext_getElem? fun j=>?_,fun s hs=>?_,?_⟩
 ·by_cases hj:j < xs.length
  ·rw [(h1 j hj).1]; simp [hj]
  ·rw [List.getElem?_eq_none (by omega),List.getElem?_eq_none (by simp; omega)]
 ·obtain ⟨j,hj,rfl⟩:=List.mem_iff_getElem.1 hs
  exact (h1 j hj).2.1
 ·exact List.flatMap_eq_nil_iff.2 fun j hj=>(h1 j (List.mem_range.1 hj)).2.2
theorem D.coll_of_strs {base e:Nat} {w:World} {v:Value} {ys:List ByteArray} (h:w.ownsRow base e 1 v ys.length (ys.map Value.string)) (hs:∀ s ∈ ys,s.size≤maxLen):Coll 1 strK base e w v (ys.map Value.string) ys []:=by
 refine ⟨h,⟨by simp,fun u hu=>?_,fun _=>[],by simp,fun j hj=>⟨?_,hs _ (List.getElem_mem hj),rfl⟩⟩,fun b hb=>by simp at hb⟩
 ·obtain ⟨s,_,rfl⟩:=List.mem_map.1 hu
  rfl
 ·rw [Nat.mul_one]
  refine List.ext_getElem? fun i=>?_
  rcases i with _ | i
  ·simp [List.getElem?_drop,hj]
  ·simp; omega
def D.toBs (l:List (List UInt8)):List ByteArray:=l.map fun b=>⟨b.toArray⟩
theorem D.toBs_bytes (l:List (List UInt8)):(toBs l).map (·.data.toList)=l:=by
 unfold toBs; rw [List.map_map]
 refine (List.map_congr_left (g:=id) fun b _=>?_).trans (List.map_id l)
 show b.toArray.toList=b
 rfl
theorem D.toBs_enc (l:List (List UInt8)):(toBs l).map Value.string=l.map encStr:=by
 unfold toBs; rw [List.map_map]; rfl
theorem D.toBs_size {l:List (List UInt8)} {n:Nat} (h:∀ b ∈ l,b.length≤n):∀ s ∈ toBs l,s.size≤n:=fun s hs=>by
 obtain ⟨b,hb,rfl⟩:=List.mem_map.1 hs
 exact h b hb
theorem D.bytes_size {xs:List ByteArray} {n:Nat} (h:∀ s ∈ xs,s.size≤n):∀ b ∈ xs.map (·.data.toList),b.length≤n:=fun b hb=>by
 obtain ⟨s,hs,rfl⟩:=List.mem_map.1 hb
 exact h s hs
theorem sortS_any (xs:List ByteArray) (v:Value) (L:List Value) (base:Nat) (w:World) (hC:Coll 1 strK base 9 w v L xs []) (hl:xs.length≤16777216):
  Calls Tryz.prog 193 #[v] w fun e w'=>e=.returned (.tuple #[])∧∃ ys:List ByteArray,ys.map (·.data.toList)=(xs.map (·.data.toList)).mergeSort leB∧ys.length=xs.length∧Coll 1 strK base 9 w' v (ys.map Value.string) ys []∧w.grownBy w' v.ownBlock:=by
 obtain ⟨rfl,hs,_⟩:=coll_strs hC
 have hrow:=hC.own
 rcases hrow.2 with ⟨rfl,hx⟩ | ⟨g,cap,cur,rfl,hbase,hb,h1,h2,h3,h4⟩
 ·have hx0:xs = []:=by simpa using hx
  subst hx0
  have cn:Calls Tryz.prog 193 #[.slice none 0 0] w (fun e w2=>e=.returned (.tuple #[])∧w2=w):=Any.slices_Sort_string_none Tryz.lays190 none 0 w
  refine cn.mono ?_
  rintro e w' ⟨rfl,rfl⟩
  exact ⟨rfl,[],by simp,rfl,Coll.nil _,World.grownBy.refl _ _⟩
 ·have hcl:(xs.map (·.data.toList)).length=xs.length:=by simp
  have hH:Holds encStr w g 0 (xs.map (·.data.toList)).toArray:=holds_of_block hb (by rw [hcl,Lib.map_encStr]; simpa using h4)
  have hg:g < w.heap.size:=lt_of_block hb
  have c:=Tryz.slices_Sort_string g 0 cap (xs.map (·.data.toList)) w hH hg (by omega)
  rw [hcl] at c
  refine c.mono ?_
  rintro e w' ⟨rfl,n,os,rfl⟩
  have hls:((xs.map (·.data.toList)).mergeSort leB).length=(xs.map (·.data.toList)).length:=List.length_mergeSort _
  have hown:=ownsRow_sorted (base:=base) (cap:=cap) (n:=n) (os:=os) hls hbase hb (by rw [hcl]; exact h1) h2 h3
  rw [hcl] at hown hls
  have hlt:(toBs ((xs.map (·.data.toList)).mergeSort leB)).length=xs.length:=by unfold toBs; rw [List.length_map]; exact hls
  refine ⟨rfl,toBs ((xs.map (·.data.toList)).mergeSort leB),toBs_bytes _,hlt,?_,grownBy_sorted _⟩
  rw [← toBs_enc,← hlt] at hown
  have:=coll_of_strs hown (toBs_size fun b hb=>bytes_size hs b ((List.mergeSort_perm _ _).mem_iff.1 hb))
  rw [hlt] at this
  exact this
end Go.Proofs.YtiidmgchadagbaaGreatDoor
