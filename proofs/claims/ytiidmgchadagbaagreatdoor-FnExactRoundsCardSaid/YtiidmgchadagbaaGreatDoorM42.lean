/- Of the proof of FnExactRounds: StoS. -/
import Derived.Test.YtiidmgchadagbaaGreatDoorM41
set_option linter.unusedVariables false
namespace Go.Proofs.YtiidmgchadagbaaGreatDoor
open Go.RowKit D
def D.StoS (B sb mu mp:Nat) (Fb:Nat→Prop) (fr:List Nat) (fs:List A) (rn:List Nat) (w:World):Prop:=
 ∃ Af cf Lf Ar cr Lr ou bf,SRaw B sb mu mp Af fs.length cf Lf fs bf Ar rn.length cr Lr rn (plcL fs) (idxs fs) ou w∧(∀ x ∈ bf,Fb x)∧∀ x ∈ fr,Free B sb mu mp (.slice Af fs.length cf) (.slice Ar rn.length cr) ou x∧x < w.heap.size
section
variable {B sb mu mp:Nat} {Fb:Nat→Prop} {fr:List Nat} {fs:List A} {rn:List Nat} {w w':World}
theorem D.SRaw.fresh {Af:Option Addr} {nf cf:Nat} {Lf:List Value} {bf:List Nat} {Ar:Option Addr} {nr cr:Nat} {Lr:List Value} {Lp:List (Value × Value)} {G:WK→List Nat} {ou:List Nat} (h:SRaw B sb mu mp Af nf cf Lf fs bf Ar nr cr Lr rn Lp G ou w) {x:Nat} (hx:w.heap.size≤x):Free B sb mu mp (.slice Af nf cf) (.slice Ar nr cr) ou x:=by
 obtain ⟨l1,l2,l3,_⟩:=h.lo
 have hs:=h.siz
 exact ⟨fun e=>by have:=(own_block_in h.cF.own e).2; omega,fun e=>by have:=(own_block_in h.cR.own e).2; omega,fun e=>by have:=(h.ous x e).2; omega,by omega⟩
theorem D.StoS.more (h:StoS B sb mu mp Fb fr fs rn w) (hk:Below w.heap.size w w') (xs:List Nat) (hx:∀ x ∈ xs,w.heap.size≤x∧x < w'.heap.size):StoS B sb mu mp Fb (fr ++ xs) fs rn w':=by
 obtain ⟨Af,cf,Lf,Ar,cr,Lr,ou,bf,S,h1,h2⟩:=h
 refine ⟨Af,cf,Lf,Ar,cr,Lr,ou,bf,S.later hk,h1,fun x hx'=>?_⟩
 rcases List.mem_append.1 hx' with g | g
 ·exact ⟨(h2 x g).1,Nat.lt_of_lt_of_le (h2 x g).2 hk.size⟩
 ·exact ⟨S.fresh (hx x g).1,(hx x g).2⟩
theorem D.StoS.later (h:StoS B sb mu mp Fb fr fs rn w) (hk:Below w.heap.size w w'):StoS B sb mu mp Fb fr fs rn w':=by
 have:=h.more hk [] (fun x hx=>by simp at hx)
 simpa using this
theorem D.StoS.sub (h:StoS B sb mu mp Fb fr fs rn w) {fr':List Nat} (hs:∀ x ∈ fr',x ∈ fr):StoS B sb mu mp Fb fr' fs rn w:=by
 obtain ⟨Af,cf,Lf,Ar,cr,Lr,ou,bf,S,h1,h2⟩:=h
 exact ⟨Af,cf,Lf,Ar,cr,Lr,ou,bf,S,h1,fun x hx=>h2 x (hs x hx)⟩
theorem D.StoS.mono (h:StoS B sb mu mp Fb fr fs rn w) {Fb':Nat→Prop} (hs:∀ x,Fb x→x < w.heap.size→Fb' x):StoS B sb mu mp Fb' fr fs rn w:=by
 obtain ⟨Af,cf,Lf,Ar,cr,Lr,ou,bf,S,h1,h2⟩:=h
 exact ⟨Af,cf,Lf,Ar,cr,Lr,ou,bf,S,fun x hx=>hs x (h1 x hx) (S.cF.row.lt atomK_good x hx),h2⟩
theorem D.StoS.other (h:StoS B sb mu mp Fb fr fs rn w) {c:Nat} (hc:c ∈ fr) (hb:¬ Fb c) (hs:w.heap.size≤w'.heap.size) (hk:∀ k,k < w.heap.size→k ≠ c→w'.heap[k]? = w.heap[k]?):StoS B sb mu mp Fb fr fs rn w':=by
 obtain ⟨Af,cf,Lf,Ar,cr,Lr,ou,bf,S,h1,h2⟩:=h
 obtain ⟨l1,l2,l3,_⟩:=S.lo
 have hz:=S.siz
 obtain ⟨f,r,u,s⟩:=(h2 c hc).1
 refine ⟨Af,cf,Lf,Ar,cr,Lr,ou,bf,⟨(hk sb (by omega) (by omega)).trans S.blk,S.ef,S.er,S.cF.keepB atomK_good (fun x hx=>hk x (own_block_in S.cF.own hx).2 (fun e=>f (e ▸ hx))) (fun x hx=>hk x (S.cF.row.lt atomK_good x hx) (fun e=>hb (e ▸ h1 x hx))),
  S.cR.keepB intK_good (fun x hx=>hk x (own_block_in S.cR.own hx).2 (fun e=>r (e ▸ hx))) (fun x hx=>by simp at hx),S.un.keep (hk mu (by omega) (by omega)) (fun x hx=>hk x (S.ous x hx).2 (fun e=>u (e ▸ hx))),S.pl.same (hk mp (by omega) (by omega)),S.dFR,S.dF,S.dR,S.bfs,S.lo,
  fun x hx=>⟨(S.ous x hx).1,Nat.lt_of_lt_of_le (S.ous x hx).2 hs⟩,Nat.le_trans hz hs⟩,h1,fun x hx=>⟨(h2 x hx).1,Nat.lt_of_lt_of_le (h2 x hx).2 hs⟩⟩
theorem D.StoS.view (h:StoS B sb mu mp Fb fr fs rn w):∃ bs,StoreV sb fs rn bs w:=by
 obtain ⟨Af,cf,Lf,Ar,cr,Lr,ou,bf,S,h1,h2⟩:=h
 obtain ⟨bs,g,_⟩:=S.view 0 (by omega)
 exact ⟨bs,g⟩
theorem D.StoS.lt (h:StoS B sb mu mp Fb fr fs rn w):B≤w.heap.size∧sb < B∧∀ x ∈ fr,x < w.heap.size:=by
 obtain ⟨Af,cf,Lf,Ar,cr,Lr,ou,bf,S,h1,h2⟩:=h
 exact ⟨S.siz,S.lo.1,fun x hx=>(h2 x hx).2⟩
theorem put_sto (h:StoS B sb mu mp Fb fr fs rn w) {a:A} {c1:Value} {ba:List Nat} (ha:atomK w [.string a.name,c1] a ba) (hba:∀ x ∈ ba,x ∈ fr) (hFb:∀ x ∈ ba,Fb x) (hfs:∀ f ∈ fs,FactOk f) (hok:FactOk a) (hno:a ∉ fs) (hfl:fs.length≤1000000) (hrl:rn.length≤1000000) (rd B0:Nat) (hB0:B0≤sb∧B0≤mu∧B0≤mp∧B0≤B):
  Calls Tryz.prog 75 #[.pointer (some ⟨sb,0,none⟩),.agg #[.string a.name,c1],.int .i64 rd] w fun e w'=>e=.returned (.tuple #[])∧Below B0 w w'∧StoS B sb mu mp Fb fr (fs ++ [a]) (rn ++ [rd]) w'∧∀ x ∈ fr,w'.heap[x]? = w.heap[x]?:=by
 obtain ⟨Af,cf,Lf,Ar,cr,Lr,ou,bf,S,h1,h2⟩:=h
 refine (put_any B sb mu mp Af cf Lf fs bf Ar cr Lr rn (plcL fs) ou a c1 ba fr rd w S ha hba (fun x hx=>(h2 x hx).1) (fun x hx=>(h2 x hx).2) hok.ok (text_new hfs hok hno) hfl hrl B0 hB0).mono ?_
 rintro e w' ⟨rfl,hb,Af',cf',Lf',Ar',cr',Lr',ou',S',hfr⟩
 refine ⟨rfl,hb,⟨Af',cf',Lf',Ar',cr',Lr',ou',bf ++ ba,?_,fun x hx=>(List.mem_append.1 hx).elim (h1 x) (hFb x),fun x hx=>⟨?_,Nat.lt_of_lt_of_le (h2 x hx).2 hb.size⟩⟩,fun x hx=>(hfr x hx).2⟩
 ·rw [plcL_snoc,List.length_append,List.length_append]; exact S'
 ·have:=(hfr x hx).1
  rw [List.length_append,List.length_append]; exact this
end
theorem D.StoL.sto {xs:List A} {bx:List Nat} {w0 w:World} (h:StoL xs bx w0 xs.length w) (hlt:∀ x ∈ bx,x < w0.heap.size):Below w0.heap.size w0 w∧StoS (w0.heap.size+3) (w0.heap.size+2) w0.heap.size (w0.heap.size+1) (fun x=>x ∈ bx) [] xs (List.replicate xs.length 0) w:=by
 obtain ⟨h1,Af,cf,Lf,Ar,cr,Lr,ou,bf,S,h2⟩:=h.all
 exact ⟨h1,Af,cf,Lf,Ar,cr,Lr,ou,bf,S,h2,fun x hx=>by simp at hx⟩
end Go.Proofs.YtiidmgchadagbaaGreatDoor
