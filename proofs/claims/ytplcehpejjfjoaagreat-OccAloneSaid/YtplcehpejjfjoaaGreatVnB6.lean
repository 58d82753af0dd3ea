/- The value machine: from a law's answer to a call that answers so; and the arguments opened. -/
import Derived.Test.YtplcehpejjfjoaaGreatVnB5
import Derived.WalkKit
import Derived.ProofKit
import Derived.OpenShut
import Derived.ShutString
import Derived.ChangeOld
import Derived.Below
import Derived.SizedLaws
import Derived.Deep.Slices
set_option linter.unusedSimpArgs false
set_option linter.unusedVariables false
namespace Go.Vn
open Go.ChangeShapes Go.WideShapes Go.ChangeAt Go.RowKit
def ghost0(w:World):Gh where
 obj:=fun _=>none
 own:=fun _=>none
 grp:=fun B=>if B<w.heap.size then some 0 else none
 com:=fun B=>match w.heap[B]? with | some (.cells c _ _)=>c.size | _=>0
 lim:=fun _=>0
 blk:=fun _=>none
 len:=fun _=>none
 ng:=1
theorem sim0(w:World)(pol:TypeId→Bool):Sim (ghost0 w) w (Hp.empty w.tape w.drawn pol:Hp Fm) where
 obj:=fun o x h=>by simp[Hp.empty,Mp.get_emp]at h
 own:=fun B o h=>by simp[ghost0]at h
 no:=fun o _=>⟨by simp[Hp.empty,Mp.get_emp],rfl⟩
 grp:=fun B g h=>by
  simp only[ghost0]at h
  split at h
  ·cases h;exact⟨by simp[Hp.empty],by assumption⟩
  ·cases h
 len:=fun g=>by simp[Hp.empty,Mp.get_emp,ghost0]
 zero:=⟨rfl,by simp[Hp.empty]⟩
 neq:=rfl
 ng:=fun g _=>⟨rfl,rfl⟩
 blk:=fun g B h=>by simp[ghost0]at h
 gblk:=fun B g h=>by
  simp only[ghost0]at h
  split at h
  ·cases h;exact .inl rfl
  ·cases h
 tape:=rfl
 drawn:=rfl
theorem law_calls{P:Program}(hm:P.follows .mixedOrders=true){f:Nat}{args:List AV}{vs:Array Value}{W:World}(hb:hasBody P f=true)(hv:VRs (ghost0 W) W args vs)
  (T:Tab) (pol:TypeId→Bool) (h:A P T (.func f) args (Hp.empty W.tape W.drawn pol) (fun r _=>r=.bool true)):Calls P f vs W (fun e W'=>e=.returned (.bool true)∧Below W.heap.size W W'):=by
 obtain⟨r,h',hc,rfl⟩:=h
 have hcall:=(callR_sound hm).func f args _ _ _ hc hb _ _ _ (sim0 W pol) hv
 refine(callsIn_wide.1 hcall).mono ?_
 rintro e W' ⟨v,ψ',rfl,hx,_,hr⟩
 cases hr
 exact⟨rfl,hx.os,hx.tape,hx.output,hx.size,fun k hk=>hx.zero k (by simp[ghost0,hk])⟩
inductive FlatV(P:Program):TypeId→List AV→Prop
 | bool {t:TypeId} (ht:P.underlying t=some .bool) (b:Bool):FlatV P t [.bool b]
 | int {t:TypeId} {k:IntKind} (ht:P.underlying t=some (.int k)) (n:Int) (hn:(Lit.int k n).wf=true):FlatV P t [.int k n]
 | str {t:TypeId} (ht:P.underlying t=some .string) (s:List UInt8) (hs:s.length≤maxLen):FlatV P t [.str s]
 | struct {t:TypeId} {fs:Array Field} (ht:P.underlying t=some (.struct fs)) (parts:Nat→List AV) (hp:∀i f,fs[i]? = some f→FlatV P f.type (parts i)):FlatV P t ((List.range fs.size).flatMap parts)
def rowed(P:Program):Nat→List Field→Bool
 | n,[]=>true
 | n,f::r=>f.offset == n&&rowed P (n+P.cellsOf f.type) r
def flatT(P:Program):Nat→TypeId→Bool
 | 0,_=>false
 | n+1,t=>match P.underlying t with
  | some .bool | some (.int _) | some .string=>P.cellsOf t == 1
  | some (.struct fs)=>fs.toList.all (fun f=>flatT P n f.type)&&rowed P 0 fs.toList&&P.cellsOf t == (fs.toList.map fun f=>P.cellsOf f.type).sum
  | _=>false
section
variable {H:Type} {enc:TypeId × Value→H} {P:Program} {w:World} {ψ:Gh}
def CR(ψ:Gh)(w:World)(as:List AV)(cs:List Value):Prop:=∃hl:as.length=cs.length,∀i (h:i<as.length),VR ψ w as[i] (cs[i]'(hl▸h))
theorem CR.nil:CR ψ w [] []:=⟨rfl,fun i h=>by simp at h⟩
theorem CR.append{a b:List AV}{c d:List Value}(h:CR ψ w a c)(k:CR ψ w b d):CR ψ w (a++b) (c++d):=by
 obtain⟨h1,h2⟩:=h
 obtain⟨k1,k2⟩:=k
 refine⟨by simp[h1,k1],fun i hi=>?_⟩
 by_cases q:i<a.length
 ·rw[List.getElem_append_left q,List.getElem_append_left (by omega)];exact h2 i q
 ·simp only[List.length_append]at hi
  rw[List.getElem_append_right (by omega),List.getElem_append_right (by omega)]
  have:=k2 (i-a.length) (by omega)
  simpa only[h1]using this
theorem fields_open(as:Nat→List AV):∀(fs:List Field) (k off:Nat) (cs:List Value),rowed P off fs=true→cs.length=off+(fs.map fun f=>P.cellsOf f.type).sum →
  (∀i f,fs[i]? = some f→CR ψ w (as (k+i)) ((cs.drop f.offset).take (P.cellsOf f.type)))→CR ψ w ((List.range' k fs.length).flatMap as) (cs.drop off):=by
 intro fs
 induction fs with
 | nil=>intro k off cs _ hl _;simp at hl;rw[List.drop_eq_nil_of_le (by omega)];exact CR.nil
 | cons f r ih=>
  intro k off cs hr hl ha
  simp only[rowed,Bool.and_eq_true,beq_iff_eq]at hr
  simp only[List.map_cons,List.sum_cons]at hl
  have h0:=ha 0 f rfl
  have hr':=ih (k+1) (off+P.cellsOf f.type) cs hr.2 (by omega) (fun i g hg=>by have:=ha (i+1) g hg;rwa [show k+1+i=k+(i+1)by omega])
  rw[hr.1,Nat.add_zero]at h0
  have e:cs.drop off=(cs.drop off).take (P.cellsOf f.type)++cs.drop (off+P.cellsOf f.type):=by
   rw[←List.drop_drop,List.take_append_drop]
  rw[e,List.length_cons,List.range'_succ,List.flatMap_cons]
  exact h0.append hr'
def ElV(P:Program)(t:TypeId)(a:AV):Prop:=∃as,FlatV P t as∧((tagg P t=some true∧a=.agg as)∨(tagg P t=some false∧as=[a]))
end
end Go.Vn

/- The value machine: a slice that comes in, opened. -/
namespace Go.Vn
open Go.ChangeShapes Go.WideShapes Go.ChangeAt Go.RowKit
section
variable {H:Type} {enc:TypeId × Value→H} {P:Program} {w:World}
theorem FlatV.isCell{t:TypeId}{as:List AV}(h:FlatV P t as):as.all AV.isCell=true:=by
 induction h with
 | bool _ b=>rfl
 | int _ n _=>rfl
 | str _ s _=>rfl
 | struct ht parts hp ih=>
  rename_i t fs
  rw[List.all_eq_true]
  intro x hx
  obtain⟨i,hi,hx⟩:=List.mem_flatMap.mp hx
  have hi':i<fs.size:=List.mem_range.mp hi
  exact List.all_eq_true.mp (ih i fs[i] (Array.getElem?_eq_getElem hi')) x hx
theorem FlatV.one{t:TypeId}{as:List AV}(h:FlatV P t as)(hg:tagg P t=some false):∃a,as=[a]∧a.cells=[a]:=by
 cases h with
 | bool _ b=>exact⟨_,rfl,rfl⟩
 | int _ n _=>exact⟨_,rfl,rfl⟩
 | str _ s _=>exact⟨_,rfl,rfl⟩
 | struct ht parts hp=>simp[tagg,ht]at hg
theorem cell_lt{w:World}{B p:Nat}{v:Value}(h:w.cell? ⟨B,p,none⟩=some v):B<w.heap.size∧p<(ghost0 w).com B:=by
 simp only[World.cell?]at h
 split at h
 ·rename_i c e fr hb
  simp only[Option.isSome_none,Bool.false_eq_true,if_false]at h
  obtain⟨hp,_⟩:=Array.getElem?_eq_some_iff.mp h
  obtain⟨hB,_⟩:=Array.getElem?_eq_some_iff.mp hb
  exact⟨hB,by simp only[ghost0,hb];exact hp⟩
 ·cases h
end
end Go.Vn

/- The value machine: an argument that comes in, opened: also slices inside of slices, and of structs. No condition. -/
namespace Go.Vn
open Go.ChangeShapes Go.WideShapes Go.ChangeAt Go.RowKit
def Packed(P:Program)(t:TypeId)(a:AV)(as:List AV):Prop:=(tagg P t=some true∧a=.agg as)∨(tagg P t=some false∧as=[a]∧a.cells=[a])
theorem Packed.cells{P:Program}{t:TypeId}{a:AV}{as:List AV}(h:Packed P t a as):a.cells=as:=by
 rcases h with⟨_,rfl⟩ | ⟨_,rfl,h⟩
 ·rfl
 ·exact h
inductive DeepV(P:Program):TypeId→List AV→Prop
 | bool {t:TypeId} (ht:P.underlying t=some .bool) (b:Bool):DeepV P t [.bool b]
 | int {t:TypeId} {k:IntKind} (ht:P.underlying t=some (.int k)) (n:Int) (hn:(Lit.int k n).wf=true):DeepV P t [.int k n]
 | str {t:TypeId} (ht:P.underlying t=some .string) (s:List UInt8) (hs:s.length≤maxLen):DeepV P t [.str s]
 | struct {t:TypeId} {fs:Array Field} (ht:P.underlying t=some (.struct fs)) (parts:Nat→List AV) (hp:∀i f,fs[i]? = some f→DeepV P f.type (parts i)):DeepV P t ((List.range fs.size).flatMap parts)
 | slice {t e:TypeId} (ht:P.underlying t=some (.slice e)) (a:AV) (n:Nat) (X:Nat→AV) (C:Nat→List AV) (hs:SV (P.cellsOf e) ((List.range n).map X) a) (hn:n≤maxLen) (hC:∀i,i<n→DeepV P e (C i)) (hX:∀i,i<n→Packed P e (X i) (C i)):DeepV P t [a]
theorem sv_cell{sz:Nat}{xs:List AV}{v:AV}(k:SV sz xs v):v.isCell=true∧v.cells=[v]:=by
 rcases k with⟨rfl,_⟩ | ⟨_,_,_,rfl⟩ | ⟨_,rfl,_⟩ <;> exact⟨rfl,rfl⟩
theorem DeepV.isCell{P:Program}{t:TypeId}{as:List AV}(h:DeepV P t as):as.all AV.isCell=true:=by
 induction h with
 | bool _ b=>rfl
 | int _ n _=>rfl
 | str _ s _=>rfl
 | struct ht parts hp ih=>
  rename_i t fs
  rw[List.all_eq_true]
  intro x hx
  obtain⟨i,hi,hx⟩:=List.mem_flatMap.mp hx
  have hi':i<fs.size:=List.mem_range.mp hi
  exact List.all_eq_true.mp (ih i fs[i] (Array.getElem?_eq_getElem hi')) x hx
 | slice ht a n X C hs=>simp[(sv_cell hs).1]
theorem DeepV.one{P:Program}{t:TypeId}{as:List AV}(h:DeepV P t as)(hg:tagg P t=some false):∃a,as=[a]∧a.cells=[a]:=by
 cases h with
 | bool _ b=>exact⟨_,rfl,rfl⟩
 | int _ n _=>exact⟨_,rfl,rfl⟩
 | str _ s _=>exact⟨_,rfl,rfl⟩
 | struct ht parts hp=>simp[tagg,ht]at hg
 | slice ht a n X C hs=>exact⟨_,rfl,(sv_cell hs).2⟩
theorem DeepV.pack{P:Program}{t:TypeId}{as:List AV}(h:DeepV P t as)(hg:(tagg P t).isSome=true):∃x,Packed P t x as:=by
 cases ht:tagg P t with
 | none=>rw[ht]at hg;cases hg
 | some ag=>
  cases ag with
  | true=>exact⟨.agg as,.inl ⟨ht,rfl⟩⟩
  | false=>
   obtain⟨a,rfl,ha⟩:=h.one ht
   exact⟨a,.inr ⟨ht,rfl,ha⟩⟩
def deepT(P:Program):Nat→TypeId→Bool
 | 0,_=>false
 | n+1,t=>match P.underlying t with
  | some .bool | some (.int _) | some .string=>P.cellsOf t == 1
  | some (.struct fs)=>fs.toList.all (fun f=>deepT P n f.type)&&rowed P 0 fs.toList&&P.cellsOf t == (fs.toList.map fun f=>P.cellsOf f.type).sum
  | some (.slice e)=>deepT P n e&&decide (0<P.cellsOf e)&&(tagg P e).isSome&&P.cellsOf t == 1
  | _=>false
section
variable {H:Type} {enc:TypeId × Value→H} {P:Program} {w:World}
theorem open_deep{spare:Nat→Bool}{held:Bool}:∀(n:Nat) {t:TypeId} {fuel:Nat} {cs:List Value} {x:DataW H × List MemPlace},deepT P n t=true→DataW.trod enc P w 0 spare held fuel t cs=some x→cs.length=P.cellsOf t∧∃as,DeepV P t as∧CR (ghost0 w) w as cs:=by
 intro n
 induction n with
 | zero=>intro t fuel cs x h;simp[deepT]at h
 | succ n ih=>
  intro t fuel cs x h hx
  rw[deepT]at h
  split at h
  ·rename_i ht
   obtain⟨b,rfl,_⟩:=DataW.trod_bool ht hx
   exact⟨by simpa using(beq_iff_eq.mp h).symm,_,.bool ht b,rfl,fun i hi=>by simp at hi;subst hi;exact .bool b⟩
  ·rename_i k ht
   obtain⟨m,rfl,_,hw⟩:=DataW.trod_int ht hx
   exact⟨by simpa using(beq_iff_eq.mp h).symm,_,.int ht m hw,rfl,fun i hi=>by simp at hi;subst hi;exact .int k m⟩
  ·rename_i ht
   obtain⟨s,rfl,_,hs⟩:=DataW.trod_string ht hx
   exact⟨by simpa using(beq_iff_eq.mp h).symm,_,.str ht s.data.toList (by simpa using hs),rfl,fun i hi=>by simp at hi;subst hi;exact .str _⟩
  ·rename_i fs ht
   simp only[Bool.and_eq_true,List.all_eq_true,beq_iff_eq]at h
   obtain⟨⟨h1,h2⟩,h3⟩:=h
   obtain⟨xs,m,_,_,hl,hxl,hf⟩:=DataW.trod_struct ht hx
   have each:∀i,i<fs.size→∃as:List AV,∀f,fs[i]? = some f→DeepV P f.type as∧CR (ghost0 w) w as ((cs.drop f.offset).take (P.cellsOf f.type)):=by
    intro i hi
    have hfi:fs[i]? = some fs[i]:=Array.getElem?_eq_getElem hi
    have hx1:=hf i _ hfi
    rw[List.getElem?_eq_getElem (by omega)]at hx1
    obtain⟨_,as,ha,hc⟩:=ih (h1 fs[i] (by simp)) hx1
    refine⟨as,fun f hf'=>?_⟩
    rw[hfi]at hf';cases hf'
    exact⟨ha,hc⟩
   obtain⟨parts,hp⟩:=Go.Deep.choose_lt each
   refine⟨hl,_,.struct ht parts (fun i f hf'=>(hp i (Array.getElem?_eq_some_iff.mp hf').1 f hf').1),?_⟩
   have:=fields_open (ψ:=ghost0 w) (w:=w) parts fs.toList 0 0 cs h2 (by omega) (fun i f hf'=>by
    rw[Nat.zero_add]
    have hf2:fs[i]? = some f:=by simpa using hf'
    exact(hp i (Array.getElem?_eq_some_iff.mp hf2).1 f hf2).2)
   simpa[List.range_eq_range']using this
  ·rename_i e ht
   simp only[Bool.and_eq_true,beq_iff_eq,decide_eq_true_eq]at h
   obtain⟨⟨⟨hd,h0⟩,hag⟩,hct⟩:=h
   rcases Go.Deep.open_slice ht hx with⟨rfl,_⟩ | ⟨ad,len,cap,m,k,D,Pl,rfl,_,hl,hm,hmm,_,hel⟩
   ·refine⟨by simpa using hct.symm,_,.slice ht .nils 0 (fun _=>.nils) (fun _=>[]) (.inl ⟨rfl,rfl⟩) (Nat.zero_le _) (fun i hi=>absurd hi (Nat.not_lt_zero _)) (fun i hi=>absurd hi (Nat.not_lt_zero _)),rfl,fun i hi=>by simp at hi;subst hi;exact .nils⟩
   ·have hlm:len≤m:=by rw[hmm];split <;> omega
    by_cases hz:len=0
    ·subst hz
     exact⟨by simpa using hct.symm,_,.slice ht (.esl cap) 0 (fun _=>.nils) (fun _=>[]) (.inr (.inr ⟨_,rfl,rfl⟩)) (Nat.zero_le _) (fun i hi=>absurd hi (Nat.not_lt_zero _)) (fun i hi=>absurd hi (Nat.not_lt_zero _)),rfl,fun i hi=>by simp at hi;subst hi;exact .esl _ _⟩
    have hpos:0<len:=Nat.pos_of_ne_zero hz
    obtain⟨B,off,spot⟩:=ad
    have hspot:spot=none:=by
     obtain⟨cs',hc1,_⟩:=hel 0 (by omega)
     obtain⟨_,hlen,hcell⟩:=World.cells?_some hc1
     have:=hcell 0 h0
     rw[List.getElem?_eq_getElem (by omega)]at this
     cases spot with
     | none=>rfl
     | some s=>
      simp only[World.cell?,Addr.add]at this
      split at this
      ·simp at this
      ·cases this
    subst hspot
    have each:∀i,i<len→∃x:AV,(∃as,DeepV P e as∧Packed P e x as)∧x.cells.length=P.cellsOf e∧x.cells.all AV.isCell=true∧∀j (hj:j<x.cells.length),∃c,w.cell? ⟨B,off+(i*P.cellsOf e+j),none⟩=some c∧VR (ghost0 w) w (x.cells[j]) c:=by
     intro i hi
     obtain⟨cs',hc1,hc2⟩:=hel i (by omega)
     obtain⟨_,hlen,hcell⟩:=World.cells?_some hc1
     obtain⟨hlt,as,hfl,hcl,hcr⟩:=ih hd hc2
     obtain⟨x,hx1⟩:=hfl.pack hag
     have hx2:=hx1.cells
     refine⟨x,⟨as,hfl,hx1⟩,by rw[hx2];omega,by rw[hx2];exact hfl.isCell,?_⟩
     intro j hj
     have hj':j<as.length:=by rw[←hx2];exact hj
     have hj2:j<cs'.length:=by omega
     refine⟨cs'[j],?_,by simpa only[hx2]using hcr j hj'⟩
     have:=hcell j (by omega)
     rw[List.getElem?_eq_getElem hj2]at this
     rw[addr_add,addr_add,Nat.add_assoc]at this
     exact this
    obtain⟨X,hX⟩:=Go.Deep.choose_lt each
    obtain⟨C,hC⟩:=Go.Deep.choose_lt (fun i hi=>(hX i hi).1)
    have hsz:∀x∈(List.range len).map X,x.cells.length=P.cellsOf e:=by
     intro x hx
     obtain⟨i,hi,rfl⟩:=List.mem_map.mp hx
     exact(hX i (List.mem_range.mp hi)).2.1
    have hfl:(flat ((List.range len).map X)).length=len*P.cellsOf e:=by rw[flat_length hsz];simp
    have hcell:∀i (hi:i<(flat ((List.range len).map X)).length),∃c,w.cell? ⟨B,off+i,none⟩=some c∧VR (ghost0 w) w ((flat ((List.range len).map X))[i]) c:=by
     intro i hi
     have hi2:i<len*P.cellsOf e:=by rw[←hfl];exact hi
     have hq:i / P.cellsOf e<len:=Nat.div_lt_of_lt_mul (by rw[Nat.mul_comm];exact hi2)
     have hr:i%P.cellsOf e<P.cellsOf e:=Nat.mod_lt _ h0
     have hqr:i / P.cellsOf e*P.cellsOf e+i%P.cellsOf e=i:=Nat.div_add_mod' i _
     obtain⟨_,he⟩:=flat_getElem hsz (i / P.cellsOf e) (by simpa using hq) (i%P.cellsOf e) hr
     obtain⟨hx1,hx2,hx3,hx4⟩:=hX _ hq
     obtain⟨c,hc1,hc2⟩:=hx4 (i%P.cellsOf e) (by omega)
     rw[hqr]at hc1
     refine⟨c,hc1,?_⟩
     simp only[hqr,List.getElem_map,List.getElem_range]at he
     rw[he]
     exact hc2
    obtain⟨V,hV⟩:=Go.Deep.choose_lt (n:=(flat ((List.range len).map X)).length) (p:=fun i c=>∀hi:i<(flat ((List.range len).map X)).length,w.cell? ⟨B,off+i,none⟩=some c∧VR (ghost0 w) w ((flat ((List.range len).map X))[i]) c)
     (fun i hi=>by obtain⟨c,h1,h2⟩:=hcell i hi;exact⟨c,fun _=>⟨h1,h2⟩⟩)
    refine⟨by simpa using hct.symm,_,.slice ht (.sl 0 0 (P.cellsOf e) cap ((List.range len).map X)) len X C (.inr (.inl ⟨_,_,_,rfl⟩)) (by omega) (fun i hi=>(hC i hi).1) (fun i hi=>(hC i hi).2),rfl,fun i hi=>?_⟩
    simp at hi;subst hi
    have hlf:0<(flat ((List.range len).map X)).length:=by rw[hfl];exact Nat.mul_pos hpos h0
    have:=VR.sl (ψ:=ghost0 w) (w:=w) 0 0 (P.cellsOf e) cap ((List.range len).map X) B off V (by simp[ghost0]) (fun _=>by
      simp only[ghost0,(cell_lt (hV 0 hlf hlf).1).1,if_true]) (fun _=>by
      have hi:len*P.cellsOf e-1<(flat ((List.range len).map X)).length:=by rw[hfl];have:=Nat.mul_pos hpos h0;omega
      have:=(cell_lt (hV _ hi hi).1).2
      have:=Nat.mul_pos hpos h0
      simp only[List.length_map,List.length_range]
      omega) hsz (fun x hx=>by
       obtain⟨i,hi,rfl⟩:=List.mem_map.mp hx
       exact(hX i (List.mem_range.mp hi)).2.2.1) (fun i hi=>(hV i hi hi).1) (fun i hi=>(hV i hi hi).2) (fun m hm=>by simp[ghost0]at hm) (by simpa using hl) (fun _ m hm=>by simp[ghost0]at hm)
    simpa using this
  ·cases h
def DeepEl(P:Program)(t:TypeId)(a:AV):Prop:=∃as,DeepV P t as∧Packed P t a as
theorem open_deep_arg{n:Nat}{t base:Nat}{v:Value}{d:DataW H}{p:List MemPlace}(hf:deepT P n t=true)(hag:(tagg P t).isSome=true)(hok:Value.okWide P w .any base t v)(h:DataW.Trod enc P w 0 (fun _=>true) true t v d p) :
  ∃a:AV,DeepEl P t a∧VR (ghost0 w) w a v:=by
 obtain⟨fuel,hx⟩:=h
 obtain⟨_,as,hfl,hl,hcr⟩:=open_deep n hf hx
 cases hgg:tagg P t with
 | none=>rw[hgg]at hag;cases hag
 | some ag=>
 cases ag with
 | true=>
  have:∃cs,v=.agg cs:=by
   simp only[tagg,Option.map_eq_some_iff]at hgg
   obtain⟨td,htd,hag⟩:=hgg
   simp only[Value.okWide,htd]at hok
   split at hok
   ·obtain⟨cs,h,_⟩:=hok;exact⟨cs,h⟩
   ·obtain⟨cs,h,_⟩:=hok;exact⟨cs,h⟩
   ·split at hag
    ·rename_i h1 h2 _ _ _;simp_all
    ·rename_i h1 h2 _ _ _ _;simp_all
    ·cases hag
  obtain⟨cs,rfl⟩:=this
  refine⟨.agg as,⟨as,hfl,.inl ⟨hgg,rfl⟩⟩,?_⟩
  have hl2:as.length=cs.size:=by simpa[Value.cells]using hl
  refine .agg as cs hl2.symm fun i hi=>?_
  have:=hcr i hi
  simpa[Value.cells]using this
 | false=>
  obtain⟨a,rfl,ha⟩:=hfl.one hgg
  refine⟨a,⟨_,hfl,.inr ⟨hgg,rfl,ha⟩⟩,?_⟩
  have hv:=hcr 0 (by simp)
  have hv1:v.cells = #[v]:=by
   generalize hg:[a]=g at hfl
   cases hfl with
   | bool ht b=>simp only[Value.okWide,ht,Cell.okWide]at hok;cases v <;> simp_all [Cell.ok,Value.cells]
   | int ht n hn=>obtain⟨n,rfl⟩:=okWide_int ht hok;rfl
   | str ht s hs=>obtain⟨n,rfl⟩:=okWide_string ht hok;rfl
   | struct ht parts hp=>simp[tagg,ht]at hgg
   | slice ht=>obtain⟨_,_,_,rfl⟩:=okWide_slice ht hok;rfl
  have:v.cells.toList[0]'(by rw[←hl];simp)=v:=by simp[hv1]
  rw[this]at hv
  exact hv
end
section
variable {P:Program} {t:TypeId}
theorem deep_intv{as:List AV}(ht:P.underlying t=some (.int .i64))(h:DeepV P t as):∃n:Int,as=[.int .i64 n] ∧ -9223372036854775808≤n∧n≤9223372036854775807:=by
 cases h with
 | bool h b=>rw[ht]at h;cases h
 | int h n hn=>
  rw[ht]at h;cases h
  simp only[Lit.wf,Bool.and_eq_true,decide_eq_true_eq]at hn
  exact⟨n,rfl,hn⟩
 | str h s _=>rw[ht]at h;cases h
 | struct h parts _=>rw[ht]at h;cases h
 | slice h=>rw[ht]at h;cases h
theorem deep_strv{as:List AV}(ht:P.underlying t=some .string)(h:DeepV P t as):∃s,as=[.str s]∧s.length≤maxLen:=by
 cases h with
 | bool h b=>rw[ht]at h;cases h
 | int h n _=>rw[ht]at h;cases h
 | str h s hs=>exact⟨s,rfl,hs⟩
 | struct h parts _=>rw[ht]at h;cases h
 | slice h=>rw[ht]at h;cases h
theorem deep_structv{as:List AV}{fs:Array Field}(ht:P.underlying t=some (.struct fs))(h:DeepV P t as):∃parts:Nat→List AV,as=(List.range fs.size).flatMap parts∧∀i f,fs[i]? = some f→DeepV P f.type (parts i):=by
 cases h with
 | bool h b=>rw[ht]at h;cases h
 | int h n _=>rw[ht]at h;cases h
 | str h s hs=>rw[ht]at h;cases h
 | struct h parts hp=>rw[ht]at h;cases h;exact⟨parts,rfl,hp⟩
 | slice h=>rw[ht]at h;cases h
theorem deep_slicev{as:List AV}{e:TypeId}(ht:P.underlying t=some (.slice e))(h:DeepV P t as):∃a els,as=[a]∧SV (P.cellsOf e) els a∧els.length≤maxLen∧∀x∈els,DeepEl P e x:=by
 cases h with
 | bool h b=>rw[ht]at h;cases h
 | int h n _=>rw[ht]at h;cases h
 | str h s hs=>rw[ht]at h;cases h
 | struct h parts hp=>rw[ht]at h;cases h
 | slice h a n X C hs hn hC hX=>
  rw[ht]at h;cases h
  refine⟨a,_,rfl,hs,by simpa using hn,fun x hx=>?_⟩
  obtain⟨i,hi,rfl⟩:=List.mem_map.mp hx
  exact⟨C i,hC i (List.mem_range.mp hi),hX i (List.mem_range.mp hi)⟩
theorem DeepEl.one{as:List AV}{a b:AV}(h:Packed P t a as)(ht:tagg P t=some false)(e:as=[b]):a=b:=by
 rcases h with⟨h,_⟩ | ⟨_,h,_⟩
 ·rw[ht]at h;cases h
 ·rw[h]at e;injection e
theorem deep_slice{a:AV}{e:TypeId}(ht:P.underlying t=some (.slice e))(hg:tagg P t=some false)(h:DeepEl P t a):∃els,SV (P.cellsOf e) els a∧els.length≤maxLen∧∀x∈els,DeepEl P e x:=by
 obtain⟨as,h1,h2⟩:=h
 obtain⟨b,els,e,k1,k2,k3⟩:=deep_slicev ht h1
 have:=DeepEl.one h2 hg e
 subst this
 exact⟨els,k1,k2,k3⟩
theorem deep_struct{a:AV}{fs:Array Field}(ht:P.underlying t=some (.struct fs))(hg:tagg P t=some true)(h:DeepEl P t a):∃parts:Nat→List AV,a=.agg ((List.range fs.size).flatMap parts)∧∀i f,fs[i]? = some f→DeepV P f.type (parts i):=by
 obtain⟨as,h1,h2⟩:=h
 obtain⟨parts,e,k⟩:=deep_structv ht h1
 rcases h2 with⟨_,h⟩ | ⟨h,_⟩
 ·exact⟨parts,by rw[h,e],k⟩
 ·rw[hg]at h;cases h
end
theorem map_of{α:Type}(f:α→AV)(K:α→Prop):∀(els:List AV),(∀x∈els,∃p,x=f p∧K p)→∃l:List α,els=l.map f∧∀b∈l,K b
 | [],_=>⟨[],rfl,fun b hb=>(List.not_mem_nil hb).elim⟩
 | x::ys,h=>by
  obtain⟨p,hp,kp⟩:=h x (by simp)
  obtain⟨l,hl,kl⟩:=map_of f K ys (fun y hy=>h y (by simp[hy]))
  exact⟨p::l,by simp[hp,hl],fun b hb=>by rcases List.mem_cons.mp hb with k | hb;exact(k▸kp);exact kl b hb⟩
theorem vrs_cons{ψ:Gh}{w:World}{a:AV}{v:Value}{xs:List AV}{vs:List Value}(h:VR ψ w a v)(k:VRs ψ w xs vs.toArray):VRs ψ w (a::xs) (v::vs).toArray:=by
 obtain⟨k1,k2⟩:=k
 refine⟨by simpa using k1,fun i hi=>?_⟩
 cases i with
 | zero=>exact h
 | succ i=>exact k2 i (by simpa using hi)
theorem vrs_nil{ψ:Gh}{w:World}:VRs ψ w [] [].toArray:=⟨rfl,fun i hi=>by simp at hi⟩
end Go.Vn

/- The value machine: how long a slice is that came in, by its reading. No condition. -/
namespace Go.Vn
open Go.ChangeShapes Go.WideShapes Go.ChangeAt Go.RowKit
section
variable {H:Type} {enc:TypeId × Value→H} {P:Program} {w:World}
end
end Go.Vn
