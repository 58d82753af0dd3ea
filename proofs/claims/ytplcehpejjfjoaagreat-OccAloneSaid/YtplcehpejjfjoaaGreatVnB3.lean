/- The value machine: equality, conversions, indexing, least and greatest, and all operations together. No condition. -/
import Derived.Test.YtplcehpejjfjoaaGreatVnB2
import Derived.MapKept
import Derived.Lib.Bytealg
import Derived.Lib.Overlaps
set_option linter.unusedSimpArgs false
set_option linter.unusedVariables false
namespace Go.Vn
section
variable {μ:Type→Type} [Mp μ] {P:Program}
variable {ψ:Gh} {w:World} {h:Hp μ}
theorem eqlAV_sound:∀(d:Nat) (t:TypeId) (x y:AV) (xv yv:Value) (b:Bool) (D:Nat),eqlAV P d t x y=some b→VR ψ w x xv→VR ψ w y yv→d≤D→(Op.equalIn D t xv yv).run P w=.ok b w
 | 0,_,_,_,_,_,_,_,h,_,_,_=>by cases h
 | d+1,t,x,y,xv,yv,b,0,_,_,_,hD=>by omega
 | d+1,t,x,y,xv,yv,b,D+1,h,hx,hy,hD=>by
  unfold eqlAV at h
  split at h
  ·rename_i hu;cases h;cases hx;cases hy;exact run_equalIn_bool' w D t _ _ hu
  ·rename_i hu;cases hx;cases hy
   split at h
   ·cases h
    rename_i hk;subst hk
    rw[run_equalIn_int w D t _ _ _ _ hu];simp[BEq.beq]
   ·cases h
  ·rename_i hu;cases h;cases hx;cases hy
   rw[run_equalIn_string w D t _ _ hu,eqB_eq];simp
  ·rename_i hu;cases h;cases hx;cases hy;simp[Op.equalIn,underlying_run hu]
  ·rename_i hu;cases h;cases hx;cases hy;simp[Op.equalIn,underlying_run hu]
  ·rename_i hu;cases h;cases hx;cases hy;simp[Op.equalIn,underlying_run hu]
  ·rename_i hu;cases h;cases hx;cases hy;simp[Op.equalIn,underlying_run hu]
  ·rename_i hu;cases h;cases hx;cases hy;simp[Op.equalIn,underlying_run hu]
  ·rename_i hu;cases h;cases hx;cases hy;simp[Op.equalIn,underlying_run hu]
  ·rename_i hu;cases h;cases hx;cases hy;simp[Op.equalIn,underlying_run hu]
  ·rename_i hu;cases h;cases hx;cases hy;simp[Op.equalIn,underlying_run hu]
  ·rename_i hu;cases h;cases hx;cases hy;simp[Op.equalIn,underlying_run hu]
  ·rename_i hu;cases h;cases hx;cases hy;simp[Op.equalIn,underlying_run hu]
  ·rename_i hu;cases h;cases hx;cases hy;simp[Op.equalIn,underlying_run hu]
  ·rename_i hu;cases h;cases hx;cases hy;simp[Op.equalIn,underlying_run hu]
  ·rename_i hu;cases h;cases hx;cases hy;simp[Op.equalIn,underlying_run hu]
  ·rename_i hu;cases h;cases hx;cases hy;simp[Op.equalIn,underlying_run hu]
  ·rename_i hu;cases h;cases hx;cases hy;simp[Op.equalIn,underlying_run hu]
  ·rename_i hu;cases h;cases hx;cases hy;simp[Op.equalIn,underlying_run hu]
  ·rename_i hu;cases h;cases hx;cases hy;simp[Op.equalIn,underlying_run hu]
  ·rename_i hu;cases h;cases hx;cases hy;simp[Op.equalIn,underlying_run hu]
  ·rename_i fields as bs hu
   cases hx;rename_i av ha1 ha2
   cases hy;rename_i bv hb1 hb2
   split at h
   ·cases h
   ·rename_i hg
    simp only[Bool.or_eq_true,not_or,Bool.not_eq_true]at hg
    have hf:P.fieldsOf t=fields:=by simp[Program.fieldsOf,hu]
    rw[run_equalIn_struct w D t av bv (by rw[hf];exact hu) hg.1,hf]
    generalize fields.toList=fs at h
    clear hu hf hg
    induction fs generalizing b with
    | nil=>simp only[List.foldr_nil]at h;cases h;simp[Op.eqFields]
    | cons f fs ih=>
     simp only[List.foldr_cons]at h
     by_cases hn : f.name = "_"
     ·rw[if_pos hn]at h
      simp only[Op.eqFields,hn,ne_eq,not_true_eq_false,if_false]
      exact ih b h
     ·rw[if_neg hn]at h
      cases hag:tagg P f.type with
      | none=>rw[hag]at h;cases h
      | some ag=>
       cases hs:tsize P f.type with
       | none=>rw[hag,hs]at h;cases h
       | some n=>
        rw[hag,hs]at h
        simp only[Option.bind_some]at h
        cases hpa:partAV ag n as f.offset with
        | none=>rw[hpa]at h;cases h
        | some a=>
         cases hpb:partAV ag n bs f.offset with
         | none=>rw[hpa,hpb]at h;cases h
         | some c=>
          rw[hpa,hpb]at h
          simp only[Option.bind_some]at h
          cases hr:eqlAV P d f.type a c with
          | none=>rw[hr]at h;cases h
          | some r=>
           rw[hr]at h
           simp only[Option.bind_some]at h
           obtain⟨u,u1,u2⟩:=part_sound (P:=P) (ψ:=ψ) (w:=w) hag hs ⟨ha1,ha2⟩ hpa
           obtain⟨v,v1,v2⟩:=part_sound (P:=P) (ψ:=ψ) (w:=w) hag hs ⟨hb1,hb2⟩ hpb
           have he:=eqlAV_sound d f.type a c u v r D hr u2 v2 (by omega)
           simp only[Op.eqFields,hn,ne_eq,not_false_eq_true,if_true,Sem.run_bind,u1,v1,Result.andThen_ok,he]
           cases r with
           | true=>simp only[if_true]at h;simp only[Bool.not_true,Bool.false_eq_true,if_false];exact ih b h
           | false=>simp only[Bool.false_eq_true,if_false]at h;cases h;simp
  ·cases h
theorem eqGuard_sound{op:BinOp}{t:TypeId}{x y:Operand}{a b:AV}{av bv:Value}{q:Bool}{d:Nat}(h:eqlAV P (d+1) t a b=some q)(hx:VR ψ w a av)(hy:VR ψ w b bv):(eqGuard op t x y av bv).run P w=.ok () w:=by
 unfold eqlAV at h
 split at h
 case h_22=>
  cases hx;cases hy
  split at h
  ·cases h
  ·rename_i hg
   simp only[Bool.or_eq_true,not_or,Bool.not_eq_true]at hg
   exact run_eqGuard_agg w op t x y _ _ hg.2
 case h_23=>cases h
 all_goals (cases hx;cases hy;unfold eqGuard;simp only[Sem.run_ite];split <;> rfl)
end
end Go.Vn

/- The value machine: conversions, indexing, least and greatest, and all operations together. No condition. -/
namespace Go.Vn
section
variable {μ:Type→Type} [Mp μ] {P:Program}
variable {ψ:Gh} {w:World} {h:Hp μ}
theorem bin_sound{op:BinOp}{t:TypeId}{xo yo:Operand}{x y r:AV}{xv yv:Value}(hl:binAV P op t x y=some r)(hx:VR ψ w x xv)(hy:VR ψ w y yv) :
  ∃u,(do eqGuard op t xo yo xv yv;Go.binOp op t xv yv:Sem Value).run P w=.ok u w∧VR ψ w r u:=by
 have plain:∀{r:AV},(∃u,(Go.binOp op t xv yv).run P w=.ok u w∧VR ψ w r u)→(eqGuard op t xo yo xv yv).run P w=.ok () w→∃u,(do eqGuard op t xo yo xv yv;Go.binOp op t xv yv:Sem Value).run P w=.ok u w∧VR ψ w r u:=fun⟨u,h1,h2⟩ hg=>
  ⟨u,by simp only[Sem.run_bind,hg,Result.andThen_ok,h1],h2⟩
 have gi:∀(k k':IntKind) (a b:Int),(eqGuard op t xo yo (.int k a) (.int k' b)).run P w=.ok () w:=fun k k' a b=>by unfold eqGuard;simp only[Sem.run_ite];split <;> rfl
 have gs:∀(a b:ByteArray),(eqGuard op t xo yo (.string a) (.string b)).run P w=.ok () w:=fun a b=>by unfold eqGuard;simp only[Sem.run_ite];split <;> rfl
 unfold binAV at hl
 split at hl
 ·cases hx;cases hy;exact plain (shiftBin_sound (.inl rfl) hl) (gi _ _ _ _)
 ·cases hx;cases hy;exact plain (shiftBin_sound (.inr rfl) hl) (gi _ _ _ _)
 ·cases hx;cases hy
  split at hl
  ·rename_i hk;subst hk;exact plain (intBin_sound hl) (gi _ _ _ _)
  ·cases hl
 ·cases hx;cases hy;exact plain (strBin_sound hl) (gs _ _)
 ·rename_i hn1 hn2 hn3 hn4
  cases he:eqlAV P 20 t x y with
  | none=>rw[he]at hl;cases hl
  | some b=>
   rw[he]at hl;cases hl
   refine plain ⟨.bool b,?_,.bool b⟩ (eqGuard_sound he hx hy)
   have:=eqlAV_sound 20 t x y xv yv b 10000 he hx hy (by omega)
   have e1:Go.binOp .eql t xv yv=(do pure (.bool (←Op.equal t xv yv)):Sem Value):=by
    cases hx <;> cases hy <;> first | rfl | (exact absurd rfl (hn3 _ _ _ _ rfl)) | skip
    all_goals first | exact(hn3 _ _ _ _ rfl rfl).elim | exact(hn4 _ _ rfl rfl).elim | simp_all [eqlAV]
   rw[e1]
   simp only[Sem.run_bind,Op.equal,Op.maxDepth,this,Result.andThen_ok,Sem.run_pure]
 ·rename_i hn1 hn2 hn3 hn4
  cases he:eqlAV P 20 t x y with
  | none=>rw[he]at hl;cases hl
  | some b=>
   rw[he]at hl;cases hl
   refine plain ⟨.bool (!b),?_,.bool _⟩ (eqGuard_sound he hx hy)
   have:=eqlAV_sound 20 t x y xv yv b 10000 he hx hy (by omega)
   have e1:Go.binOp .neq t xv yv=(do pure (.bool (!(←Op.equal t xv yv))):Sem Value):=by
    cases hx <;> cases hy <;> first | rfl | (exact absurd rfl (hn3 _ _ _ _ rfl)) | skip
    all_goals first | exact(hn3 _ _ _ _ rfl rfl).elim | exact(hn4 _ _ rfl rfl).elim | simp_all [eqlAV]
   rw[e1]
   simp only[Sem.run_bind,Op.equal,Op.maxDepth,this,Result.andThen_ok,Sem.run_pure]
 ·cases hl
theorem sameAddr_run{B C a b:Nat}{c d:Array Value}{e f:TypeId}(hB:w.heap[B]? = some (.cells c e (0,0)))(hC:w.heap[C]? = some (.cells d f (0,0)))(hne:B≠C) :
  (sameAddr ⟨B,a,none⟩ ⟨C,b,none⟩).run P w=.ok false w:=by
 simp[sameAddr,hne,World.frozen?,hB,hC,noView,viewAt,World.shape?,mayBeOne,stringish]
theorem ptrEq_sound(S:Sim ψ w h){o a p b B C:Nat}{q:Bool}{t e:TypeId}(he:P.underlying t=some (.pointer e)){n:Nat}(hs:tsize P e=some (n+1))(hl:ptrEqAV h o a p b=some q)(hB:ψ.obj o=some B)(hC:ψ.obj p=some C)(d:Nat) :
  (Op.equalIn (d+1) t (.pointer (some ⟨B,a,none⟩)) (.pointer (some ⟨C,b,none⟩))).run P w=.ok q w:=by
 obtain⟨i,hi,hn⟩:∃i,P.info? e=some i∧i.size=n+1:=by
  unfold tsize at hs
  cases hq:P.info? e with
  | none=>rw[hq]at hs;cases hs
  | some i=>rw[hq]at hs;simp only[Option.map_some,Option.some.injEq]at hs;exact⟨i,rfl,hs⟩
 have key:(Op.equalIn (d+1) t (.pointer (some ⟨B,a,none⟩)) (.pointer (some ⟨C,b,none⟩))).run P w=(sameAddr ⟨B,a,none⟩ ⟨C,b,none⟩).run P w:=by
  simp[Op.equalIn,underlying_run he,sizeOf,typeInfo,hi,hn]
 rw[key]
 unfold ptrEqAV at hl
 split at hl
 ·rename_i hop
  subst hop
  rw[hB]at hC;cases hC
  cases hl
  simp[sameAddr]
  by_cases hab:a=b <;> simp[hab,BEq.beq]
 ·rename_i hop
  split at hl
  ·rename_i c1 c2 h1 h2
   cases hl
   obtain⟨B',x1,y1,k1,k2,k3,_⟩:=S.rowp o _ h1
   obtain⟨C',x2,y2,l1,l2,l3,_⟩:=S.rowp p _ h2
   rw[hB]at k1;cases k1
   rw[hC]at l1;cases l1
   refine sameAddr_run k3 l3 fun e=>?_
   subst e
   rw[k2]at l2
   cases l2
   exact hop rfl
  ·cases hl
theorem binH_sound(S:Sim ψ w h){op:BinOp}{t:TypeId}{xo yo:Operand}{x y r:AV}{xv yv:Value}(hl:binH P h op t x y=some r)(hx:VR ψ w x xv)(hy:VR ψ w y yv) :
  ∃u,(do eqGuard op t xo yo xv yv;Go.binOp op t xv yv:Sem Value).run P w=.ok u w∧VR ψ w r u:=by
 unfold binH at hl
 split at hl
 ·rename_i hp
  unfold isPtrT at hp
  split at hp
  ·rename_i e he
   split at hp
   ·rename_i n hs
    unfold binP at hl
    split at hl
    ·simp only[Option.map_eq_some_iff]at hl
     obtain⟨q,hq,rfl⟩:=hl
     cases hx;cases hy
     rename_i B hB C hC
     have h1:=ptrEq_sound (d:=9999) S he hs hq hB hC
     refine⟨.bool q,?_,.bool q⟩
     have e1:∀u v,Go.binOp .eql t (.pointer u) (.pointer v)=(do pure (.bool (←Op.equal t (.pointer u) (.pointer v))):Sem Value):=fun _ _=>rfl
     rw[e1]
     simp only[eqGuard,Sem.run_bind,Op.equal,Op.maxDepth]
     simp[h1]
    ·simp only[Option.map_eq_some_iff]at hl
     obtain⟨q,hq,rfl⟩:=hl
     cases hx;cases hy
     rename_i B hB C hC
     have h1:=ptrEq_sound (d:=9999) S he hs hq hB hC
     refine⟨.bool (!q),?_,.bool _⟩
     have e1:∀u v,Go.binOp .neq t (.pointer u) (.pointer v)=(do pure (.bool (!(←Op.equal t (.pointer u) (.pointer v)))):Sem Value):=fun _ _=>rfl
     rw[e1]
     simp only[eqGuard,Sem.run_bind,Op.equal,Op.maxDepth]
     simp[h1]
    ·exact bin_sound hl hx hy
   ·cases hp
  ·cases hp
 ·exact bin_sound hl hx hy
theorem asByte_inv{a:AV}{b:UInt8}(h:asByte a=some b):∃n:Int,a=.int .u8 n∧b=UInt8.ofNat n.toNat:=by
 unfold asByte at h
 split at h
 ·cases h;exact⟨_,rfl,rfl⟩
 ·cases h
theorem mapM_asByte:∀(els:List AV) (s:List UInt8),els.mapM asByte=some s→∃ns:List Int,els=ns.map (AV.int .u8)∧s=ns.map fun n=>UInt8.ofNat n.toNat
 | [],s,h=>by simp at h;exact⟨[],rfl,h.symm▸rfl⟩
 | a::els,s,h=>by
  simp only[List.mapM_cons,Option.bind_eq_bind,Option.pure_def]at h
  cases ha:asByte a with
  | none=>rw[ha]at h;cases h
  | some b=>
   rw[ha]at h
   simp only[Option.bind_some]at h
   cases hm:els.mapM asByte with
   | none=>rw[hm]at h;cases h
   | some r=>
    rw[hm]at h
    simp only[Option.bind_some]at h
    cases h
    obtain⟨n,h1,h2⟩:=asByte_inv ha
    obtain⟨ns,h3,h4⟩:=mapM_asByte els r hm
    exact⟨n::ns,by simp[h1,h3],by simp[h2,h4]⟩
theorem foldl_push(ns:List Int):∀r:ByteArray,ns.foldl (fun r n=>r.push (UInt8.ofNat n.toNat)) r=⟨(r.data.toList++ns.map fun n=>UInt8.ofNat n.toNat).toArray⟩:=by
 induction ns with
 | nil=>intro r;apply ByteArray.ext;simp
 | cons n ns ih=>intro r;simp only[List.foldl_cons,ih];apply ByteArray.ext;simp[ByteArray.push]
theorem flat_ints(ns:List Int):flat (ns.map (AV.int .u8))=ns.map (AV.int .u8):=by
 simp only[flat]
 induction ns with
 | nil=>rfl
 | cons a s ih=>simp only[List.map_cons,List.flatMap_cons,ih];rfl
theorem flat_bytes(s:List UInt8):flat (s.map byteAV)=s.map byteAV:=by
 simp only[flat]
 induction s with
 | nil=>rfl
 | cons a s ih=>simp only[List.map_cons,List.flatMap_cons,ih];rfl
theorem isU8_run{e:TypeId}(h:isU8 P e=true):P.underlying e=some (.int .u8):=by
 unfold isU8 at h
 split at h
 ·assumption
 ·cases h
theorem bytes_conv{s d e:TypeId}{els:List AV}{bs:List UInt8}{B p cap:Nat}{cs:Nat→Value}(h1:P.underlying s=some (.slice e))(h2:P.underlying d=some .string)(hu:P.underlying e=some (.int .u8))(hm:els.mapM asByte=some bs)
  (hc:∀i,i<els.length→w.cell? ⟨B,p+i,none⟩=some (cs i)) (hvv:∀i (hi:i<(flat els).length),VR ψ w ((flat els)[i]) (cs i)) :
  (Go.convert s d (.slice (some ⟨B,p,none⟩) els.length cap)).run P w=.ok (.string ⟨bs.toArray⟩) w∧VR ψ w (.str bs) (.string ⟨bs.toArray⟩):=by
 obtain⟨ns,rfl,rfl⟩:=mapM_asByte els bs hm
 rw[flat_ints]at hvv
 rw[List.length_map]at hc
 have hcs:∀i (hi:i<ns.length),cs i=.int .u8 ns[i]:=fun i hi=>by
  have:=hvv i (by simpa using hi)
  rw[List.getElem_map]at this
  cases hcsi:cs i <;> rw[hcsi]at this <;> cases this
  rfl
 have hload:(loadCells ⟨B,p,none⟩ (ns.map (AV.int .u8)).length).run P w=.ok (ns.map (Value.int .u8)).toArray w:=by
  rw[List.length_map,loadCells_run (cs:=cs) hc]
  congr 1
  apply Array.toList_inj.1
  apply List.ext_getElem (by simp)
  intro i h1 h2
  simp at h1 h2
  simp[hcs i (by omega)]
 have hrun:=run_bytesToString w ⟨B,p,none⟩ (ns.map (AV.int .u8)).length cap ns hload
 rw[foldl_push]at hrun
 exact⟨by simp only[Go.convert,Sem.run_bind,underlying_run h1,underlying_run h2,Result.andThen_ok,underlying_run hu];simpa using hrun,.str _⟩
theorem freeze_sound(S:Sim ψ w h){B g:Nat}(hg:ψ.grp B=some g)(g0:g≠0):∃c e fr,w.heap[B]? = some (.cells c e fr)∧Ext ψ w ψ (w.freeze ⟨B,c.size,none⟩ 1)∧Sim ψ (w.freeze ⟨B,c.size,none⟩ 1) h:=by
 rcases S.gblk B g hg with z | hb
 ·exact(g0 z).elim
 obtain⟨_,_,c,e,fr,hB,hlim,hf,hfr⟩:=S.blk g B hb
 obtain⟨lo,hi⟩:=fr
 refine⟨c,e,(lo,hi),hB,?_⟩
 have hBs:=(Array.getElem?_eq_some_iff.1 hB).1
 obtain⟨fr',hw',hfr'⟩:∃fr':Nat × Nat,(w.freeze ⟨B,c.size,none⟩ 1).heap[B]? = some (.cells c e fr')∧c.size≤fr'.1:=by
  by_cases hl:lo=hi
  ·refine⟨(c.size,c.size+1),?_,Nat.le_refl _⟩
   simp only[World.freeze,Nat.succ_ne_zero,if_false,Array.getElem?_modify,hB,if_pos]
   simp[hl]
  ·refine⟨(min lo c.size,max hi (c.size+1)),?_,?_⟩
   ·simp only[World.freeze,Nat.succ_ne_zero,if_false,Array.getElem?_modify,hB,if_pos]
    simp[hl]
   ·rcases hfr with q | q
    ·exact(hl q).elim
    ·simp only at q ⊢;omega
 have hoth:∀C,C≠B→(w.freeze ⟨B,c.size,none⟩ 1).heap[C]? = w.heap[C]? := fun C hC=>by
  simp only[World.freeze,Nat.succ_ne_zero,if_false,Array.getElem?_modify]
  rw[if_neg (fun q=>hC q.symm)]
 have hsz:(w.freeze ⟨B,c.size,none⟩ 1).heap.size=w.heap.size:=by simp[World.freeze]
 have hos:(w.freeze ⟨B,c.size,none⟩ 1).os=w.os:=by simp[World.freeze]
 have hta:(w.freeze ⟨B,c.size,none⟩ 1).tape=w.tape:=by simp[World.freeze]
 have hou:(w.freeze ⟨B,c.size,none⟩ 1).output=w.output:=by simp[World.freeze]
 have hdr:(w.freeze ⟨B,c.size,none⟩ 1).drawn=w.drawn:=by simp[World.freeze]
 generalize w.freeze ⟨B,c.size,none⟩ 1=w' at *
 have hcell:∀C i,w'.cell? ⟨C,i,none⟩=w.cell? ⟨C,i,none⟩:=fun C i=>by
  by_cases hC:C=B
  ·subst hC;rw[cell_of hw',cell_of hB]
  ·simp only[World.cell?,hoth C hC]
 have E:Ext ψ w ψ w':=⟨⟨hos,hta,hou,by omega,fun _ _ e=>e,fun _ _ e=>e,fun _ _ _=>Nat.le_refl _,fun C g i _ _=>hcell C i,Nat.le_refl _,fun _ _=>.inl ⟨rfl,rfl,fun _ _=>⟨rfl,rfl⟩⟩,
  fun C hC=>hoth C (fun q=>by rw[q,hg]at hC;cases hC;exact g0 rfl)⟩,fun C _ h2 h3=>⟨hoth C (fun q=>by rw[q,hg]at h2;cases h2),h2,h3⟩⟩
 refine⟨E,⟨fun o y ho ha=>?_,fun C o hC=>⟨(S.own C o hC).1,by rw[hsz];exact(S.own C o hC).2⟩,S.no,fun C g hC=>⟨(S.grp C g hC).1,by rw[hsz];exact(S.grp C g hC).2⟩,S.len,S.zero,S.neq,S.ng,fun g' C hC=>?_,S.gblk,S.tape.trans hta.symm,S.drawn.trans hdr.symm⟩⟩
 ·obtain⟨C,q1,q2,q3⟩:=S.obj o y ho ha
  have hCB:C≠B:=fun he=>by have:=(S.own C o q2).1;rw[he,hg]at this;cases this
  exact⟨C,q1,q2,q3.mono E (hoth C hCB)⟩
 ·obtain⟨h1,h2,c1,t,fr1,h3,h4,h5⟩:=S.blk g' C hC
  by_cases hCB:C=B
  ·subst hCB
   rw[hB]at h3;cases h3
   refine⟨h1,h2,c,e,fr',hw',h4,fun i hi=>?_,.inr hfr'⟩
   rw[frozen_of hw'];simp;omega
  ·exact⟨h1,h2,c1,t,fr1,(hoth C hCB).trans h3,h4,fun i hi=>by simp only[World.frozen?,hoth C hCB];exact h5.1 i hi,h5.2⟩
theorem conv_sound(S:Sim ψ w h){s d:TypeId}{x:AV}{v:Value}{r:AV × Hp μ}(hl:convAV P h s d x=some r)(hv:VR ψ w x v) :
  ∃u w' ψ',(Go.convert s d v).run P w=.ok u w'∧Ext ψ w ψ' w'∧Sim ψ' w' r.2∧VR ψ' w' r.1 u:=by
 unfold convAV at hl
 split at hl
 ·rename_i h1 h2
  cases hl;cases hv
  exact⟨_,w,ψ,by simp[Go.convert,underlying_run h1,underlying_run h2,Conv.intToInt],Ext.refl _ _,S,.int _ _⟩
 ·rename_i h1 h2
  cases hl;cases hv
  exact⟨_,w,ψ,by simp[Go.convert,underlying_run h1,underlying_run h2],Ext.refl _ _,S,.str _⟩
 ·rename_i e bs h1 h2
  cases hv
  split at hl
  ·rename_i hc
   cases hl
   obtain⟨hu8,hlen⟩:=hc
   rw[grown_eq S]
   have hu:=isU8_run hu8
   have hsz:(ByteArray.mk bs.toArray).size=bs.length:=by simp[ByteArray.size]
   let cap:=grownCap w bs.length 0 e
   have hge:bs.length≤cap:=grownCap_ge w bs.length 0 e
   let c:Array Value:=(bs.toArray.map fun b=>Value.int .u8 b.toNat)++Array.replicate (cap-bs.length) (.int .u8 0)
   have hcs:c.size=cap:=by simp only[c,Array.size_append,Array.size_map,List.size_toArray,Array.size_replicate];omega
   let w':World:=(w.drew.alloc (.cells c e)).freeze ⟨w.heap.size,c.size,none⟩ 1
   have hheap:w'.heap=w.heap.push (.cells c e (c.size,c.size+1)):=by
    apply Array.ext_getElem?
    intro i
    simp only[w',World.freeze,Nat.succ_ne_zero,if_false,Array.getElem?_modify,World.alloc,World.drew,Array.getElem?_push]
    by_cases hi:i=w.heap.size
    ·subst hi;simp
    ·rw[if_neg (fun hh=>hi hh.symm),if_neg hi,if_neg hi]
   have hp:Pushed w.drew w' (.cells c e (c.size,c.size+1)):=⟨rfl,rfl,rfl,hheap,rfl⟩
   have hrun:(Go.convert s d (.string ⟨bs.toArray⟩)).run P w=.ok (.slice (some ⟨w.heap.size,0,none⟩) bs.length cap) w':=by
    have hq:(Question.appendCap bs.length 0 e).forced=false:=rfl
    simp only[Go.convert,Sem.run_bind,underlying_run h1,underlying_run h2,Result.andThen_ok,underlying_run hu,Conv.stringToBytes,hsz,run_choose,hq,Bool.false_eq_true,if_false,newRow,run_newObj,Sem.run_pure,markStringish,run_shape,World.shape?]
    have:∀X:Obj,(w.heap.push X)[w.heap.size]? = some X:=fun X=>by simp
    rw[this]
    simp only[run_freeze,Result.andThen_ok]
    rfl
   have hcells:CellsR ψ w (flat (bs.map byteAV)) c:=by
    rw[flat_bytes]
    refine⟨by rw[List.length_map];omega,fun i hi=>?_⟩
    rw[List.length_map]at hi
    refine⟨.int .u8 (bs[i]).toNat,?_,by rw[List.getElem_map];exact .int _ _⟩
    simp only[c]
    rw[Array.getElem?_append_left (by simpa using hi)]
    simp[hi]
   obtain⟨E1,S1⟩:=drew_sound S
   obtain⟨ψ',E,S',V⟩:=newSl_sound S1 (sz:=1) (cap:=cap) (els:=bs.map byteAV) (c:=c) (e:=e) (fr:=(c.size,c.size+1)) (fun x hx=>by simp only[List.mem_map]at hx;obtain⟨b,_,rfl⟩:=hx;rfl)
    (fun x hx=>by simp only[List.mem_map]at hx;obtain⟨b,_,rfl⟩:=hx;rfl) (hcells.mono E1) (by rw[List.length_map];exact hge) (by omega) (.inr (Nat.le_refl _)) hp
   rw[List.length_map]at V
   exact⟨_,w',ψ',hrun,E1.trans E,S',V⟩
  ·cases hl
 ·rename_i e1 e g off sz cap els h1 h2
  cases hv with
  | sl g off sz cap els B p cs hgn hg he hsz hic hc hvv hlen hcap hfr=>?_
  split at hl
  ·rename_i hcond
   obtain⟨rfl,hu8,hg0,hne⟩:=hcond
   cases hl
   rw[h1]at h2;cases h2
   have hgB:=hg (fun z=>hne (by rw[z];rfl))
   obtain⟨c,e0,fr,hB,E,S'⟩:=freeze_sound S hgB hg0
   refine⟨_,_,ψ,?_,E,S',(VR.sl g off sz cap els B p cs hgn hg he hsz hic hc hvv hlen hcap hfr).mono E⟩
   simp only[Go.convert,Sem.run_bind,underlying_run h1,Result.andThen_ok,underlying_run (isU8_run hu8),beq_self_eq_true,markStringish,run_shape,World.shape?,hB,run_freeze,Sem.run_pure]
  ·cases hl
 ·rename_i e h1 h2
  cases hv
  split at hl
  ·rename_i hc
   cases hl
   refine⟨.string .empty,w,ψ,by simp[Go.convert,underlying_run h1,underlying_run h2,underlying_run (isU8_run hc),Conv.bytesToString],Ext.refl _ _,S,?_⟩
   have:(ByteArray.empty)=⟨([]:List UInt8).toArray⟩:=rfl
   rw[this];exact .str _
  ·cases hl
 ·rename_i e c h1 h2
  cases hv
  split at hl
  ·rename_i hc
   cases hl
   refine⟨.string .empty,w,ψ,by simp[Go.convert,underlying_run h1,underlying_run h2,underlying_run (isU8_run hc),Conv.bytesToString,loadCells,loadCellsFrom],Ext.refl _ _,S,?_⟩
   have:(ByteArray.empty)=⟨([]:List UInt8).toArray⟩:=rfl
   rw[this];exact .str _
  ·cases hl
 ·rename_i e g off sz cap els h1 h2
  cases hv with
  | sl g off sz cap els B p cs hgn hg he hsz hic hc hvv hlen hcap hfr=>?_
  split at hl
  ·rename_i hcond
   obtain⟨hu8,rfl⟩:=hcond
   cases hm:els.mapM asByte with
   | none=>rw[hm]at hl;cases hl
   | some bs=>
    rw[hm]at hl;cases hl
    have hfl:=flat_length hsz
    exact⟨_,w,ψ,(bytes_conv h1 h2 (isU8_run hu8) hm (fun i hi=>hc i (by rw[hfl];omega)) hvv).1,Ext.refl _ _,S,(bytes_conv (P:=P) h1 h2 (isU8_run hu8) hm (fun i hi=>hc i (by rw[hfl];omega)) hvv (p:=p) (B:=B) (cap:=cap)).2⟩
  ·cases hl
 ·rename_i e o off sz ag n cap h1 h2
  cases hv with
  | rs o off sz ag n cap B ho hcap=>?_
  split at hl
  ·rename_i hcond
   obtain⟨hu8,rfl,rfl⟩:=hcond
   cases hels:rsEls h o off 1 false n with
   | none=>rw[hels]at hl;cases hl
   | some els=>
    rw[hels]at hl
    simp only[Option.bind_some]at hl
    cases hm:els.mapM asByte with
    | none=>rw[hm]at hl;cases hl
    | some bs=>
     rw[hm]at hl;cases hl
     obtain⟨r1,f,r2,r3,r4⟩:=rsEls_sound S hels ho
     subst r1
     exact⟨_,w,ψ,(bytes_conv h1 h2 (isU8_run hu8) hm (fun i hi=>r2 i (by omega)) r3).1,Ext.refl _ _,S,(bytes_conv (P:=P) h1 h2 (isU8_run hu8) hm (fun i hi=>r2 i (by omega)) r3 (p:=off) (B:=B) (cap:=cap)).2⟩
  ·cases hl
 ·cases hl
theorem index_sound{t:TypeId}{x ix r:AV}{v vi:Value}(hl:indexAV P t x ix=some r)(hv:VR ψ w x v)(hi:VR ψ w ix vi):∃u,(Instr.index t v vi).run P w=.ok u w∧VR ψ w r u:=by
 unfold indexAV at hl
 cases hi <;> try (cases hl;done)
 rename_i k i
 simp only at hl
 split at hl
 ·rename_i s hu
  cases hv
  by_cases h0:0≤i
  ·rw[if_pos h0]at hl
   rcases Nat.lt_or_ge i.toNat s.length with hlt | hge
   ·rw[List.getElem?_eq_getElem hlt]at hl
    cases hl
    have hb:(ByteArray.mk s.toArray)[i.toNat]? = some s[i.toNat]:=by
     have hsz:(ByteArray.mk s.toArray).size=s.length:=by simp[ByteArray.size]
     rw[ByteArray.getElem?_lt' _ _ (by omega)]
     congr 1
    exact⟨.int .u8 (s[i.toNat]).toNat,by simp[Instr.index,asIntOf,underlying_run hu,h0,hb],.int _ _⟩
   ·rw[List.getElem?_eq_none hge]at hl;cases hl
  ·rw[if_neg h0]at hl;cases hl
 ·rename_i n e cs hu
  cases hv
  rename_i y hy ha
  cases hag:tagg P e with
  | none=>rw[hag]at hl;cases hl
  | some ag=>
   cases hn:tsize P e with
   | none=>rw[hag,hn]at hl;cases hl
   | some sz=>
    rw[hag,hn]at hl
    simp only[Option.bind_some]at hl
    by_cases h0:0≤i∧i<n
    ·rw[if_pos h0]at hl
     obtain⟨u,r1,r2⟩:=part_sound (P:=P) (ψ:=ψ) (w:=w) hag hn ⟨hy,ha⟩ hl
     refine⟨u,?_,r2⟩
     simp only[Instr.index,asIntOf,Sem.run_bind,Sem.run_pure,Result.andThen_ok,underlying_run hu,h0,and_self,if_true,tsize_run hn]
     exact r1
    ·rw[if_neg h0]at hl;cases hl
 ·cases hl
theorem minmax_sound{b:Bool}{l:List AV}{lv:Array Value}{ts:Array TypeId}{ty:TypeId}{r:AV}(hl:minmax b l=some r)(hv:VRs ψ w l lv) :
  ∃u,(if b then Builtin.max_ ts ty lv else Builtin.min_ ts ty lv:Sem Value).run P w=.ok u w∧VR ψ w r u:=by
 obtain⟨hs,hv⟩:=hv
 obtain⟨lv⟩:=lv
 simp only[List.size_toArray]at hs
 unfold minmax at hl
 split at hl
 ·rename_i k a
  cases hl
  match lv,hs with
  | [x],_=>
   have h0:=hv 0 (by simp)
   simp only[List.getElem_cons_zero,List.getElem_toArray]at h0
   cases h0
   exact⟨_,by cases b <;> simp[Builtin.max_,Builtin.min_] <;> rfl,.int _ _⟩
 ·rename_i k a k' b'
  cases hl
  match lv,hs with
  | [x,y],_=>
   have h0:=hv 0 (by simp)
   have h1:=hv 1 (by simp)
   simp only[List.getElem_cons_zero,List.getElem_cons_succ,List.getElem_toArray]at h0 h1
   cases h0;cases h1
   exact⟨_,by cases b <;> simp[Builtin.max_,Builtin.min_,Builtin.max2,Builtin.min2] <;> rfl,.int _ _⟩
 ·rename_i k a k' b' k'' c'
  cases hl
  match lv,hs with
  | [x,y,z],_=>
   have h0:=hv 0 (by simp)
   have h1:=hv 1 (by simp)
   have h2:=hv 2 (by simp)
   simp only[List.getElem_cons_zero,List.getElem_cons_succ,List.getElem_toArray]at h0 h1 h2
   cases h0;cases h1;cases h2
   exact⟨_,by cases b <;> simp[Builtin.max_,Builtin.min_,Builtin.max2,Builtin.min2] <;> rfl,.int _ _⟩
 ·cases hl
end
end Go.Vn

/- The value machine: copying, clearing, maps, functions without a body. No condition. -/
namespace Go.Vn
section
variable {μ:Type→Type} [Mp μ] {P:Program}
variable {ψ:Gh} {w:World} {h:Hp μ}
theorem flat_take{sz:Nat}:∀(els:List AV) (m:Nat),(∀e∈els,e.cells.length=sz)→m≤els.length→flat (els.take m)=(flat els).take (m*sz)
 | els,0,_,_=>by simp[flat]
 | [],m+1,_,h=>by simp at h
 | e::els,m+1,he,hm=>by
  have h1:=he e (by simp)
  have h2:=flat_take els m (fun x hx=>he x (by simp[hx])) (by simpa using hm)
  rw[List.take_succ_cons,flat_cons,flat_cons,h2,show(m+1)*sz=e.cells.length+m*sz from by rw[h1,Nat.succ_mul];omega,List.take_length_add_append]
theorem newEls_take(S:Sim ψ w h){sz:Nat}{ag:Bool}{x:AV}{v:Value}{new:List AV}(hn:newEls h sz ag x=some new)(hv:VR ψ w x v)(m:Nat)(hm:m≤new.length) :
  ∃nc:List Value,(Builtin.lenOf v).run P w=.ok new.length w∧(Builtin.firstCells sz m v).run P w=.ok nc.toArray w∧nc.length=(flat (new.take m)).length∧(∀e∈new,e.cells.length=sz∧e.cells.all AV.isCell=true) ∧
   ∀i (hi:i<(flat (new.take m)).length),∃u,nc[i]? = some u∧VR ψ w ((flat (new.take m))[i]) u:=by
 have cells:∀(els:List AV) (B p:Nat) (cs:Nat→Value) (l c:Nat),els.length=l→m≤els.length→(∀e∈els,e.cells.length=sz∧e.cells.all AV.isCell=true)→(∀i,i<(flat els).length→w.cell? ⟨B,p+i,none⟩=some (cs i))→(∀i (hi:i<(flat els).length),VR ψ w ((flat els)[i]) (cs i)) →
   ∃nc:List Value,(Builtin.firstCells sz m (.slice (some ⟨B,p,none⟩) l c)).run P w=.ok nc.toArray w∧nc.length=(flat (els.take m)).length∧∀i (hi:i<(flat (els.take m)).length),∃u,nc[i]? = some u∧VR ψ w ((flat (els.take m))[i]) u:=by
  intro els B p cs l c _ hm he hc hvv
  have hfl:=flat_length (fun e h=>(he e h).1)
  have hft:=flat_take els m (fun e h=>(he e h).1) hm
  have hle:m*sz≤els.length*sz:=Nat.mul_le_mul_right _ hm
  have hlt:(flat (els.take m)).length=m*sz:=by rw[hft,List.length_take];omega
  refine⟨(List.range (m*sz)).map cs,?_,by rw[hlt];simp,fun i hi=>⟨cs i,?_,?_⟩⟩
  ·simp only[Builtin.firstCells]
   rw[loadCells_run (cs:=cs) (fun j hj=>hc j (by omega))]
   congr 1
   apply Array.toList_inj.1
   simp[Array.toList_map]
  ·rw[List.getElem?_map,List.getElem?_range (by omega)];rfl
  ·have:(flat (els.take m))[i]=(flat els)[i]'(by omega):=by simp only[hft,List.getElem_take]
   rw[this];exact hvv i (by omega)
 cases hv with
 | nils=>
  cases hn
  have:m=0:=by simpa using hm
  subst this
  exact⟨[],by simp[Builtin.lenOf],by simp[Builtin.firstCells],by simp[flat],by simp,fun i hi=>by simp[flat]at hi⟩
 | esl a cap=>
  cases hn
  have:m=0:=by simpa using hm
  subst this
  exact⟨[],by simp[Builtin.lenOf],by simp[Builtin.firstCells,loadCells,loadCellsFrom],by simp[flat],by simp,fun i hi=>by simp[flat]at hi⟩
 | sl g off sz' cap els B p cs hgn hg he hsz hic hc hvv hlen hcap hfr=>
  simp only[newEls]at hn
  by_cases hs:sz'=sz
  ·rw[if_pos hs]at hn;cases hn;subst hs
   obtain⟨nc,q1,q2,q3⟩:=cells new B p cs new.length cap rfl hm (fun e he=>⟨hsz e he,hic e he⟩) hc hvv
   exact⟨nc,by simp[Builtin.lenOf],q1,q2,fun e he=>⟨hsz e he,hic e he⟩,q3⟩
  ·rw[if_neg hs]at hn;cases hn
 | str s=>
  simp only[newEls]at hn
  by_cases hs:sz=1
  ·rw[if_pos hs]at hn;cases hn;subst hs
   rw[List.length_map]at hm
   have hsz:(⟨s.toArray⟩:ByteArray).size=s.length:=by simp[ByteArray.size]
   have hft:flat ((s.map byteAV).take m)=(s.take m).map byteAV:=by rw[←List.map_take,flat_bytes]
   refine⟨(s.take m).map fun b=>.int .u8 b.toNat,by simp[Builtin.lenOf,hsz],?_,by rw[hft];simp,fun e he=>?_,fun i hi=>?_⟩
   ·simp only[Builtin.firstCells,Sem.run_pure]
    congr 1
    apply Array.toList_inj.1
    simp[ByteArray.extract,ByteArray.copySlice,List.map_take]
   ·simp only[List.mem_map]at he
    obtain⟨b,_,rfl⟩:=he
    exact⟨rfl,rfl⟩
   ·rw[hft,List.length_map]at hi
    refine⟨.int .u8 ((s.take m)[i]).toNat,by rw[List.getElem?_map,List.getElem?_eq_getElem hi];rfl,?_⟩
    simp only[hft,List.getElem_map]
    exact .int _ _
  ·rw[if_neg hs]at hn;cases hn
 | rs o off sz' ag' n cap B ho hcap=>
  simp only[newEls]at hn
  by_cases hs:sz'=sz∧ag'=ag
  ·rw[if_pos hs]at hn
   obtain⟨rfl,rfl⟩:=hs
   obtain⟨r1,f,r2,r3,r4⟩:=rsEls_sound S hn ho
   have hfl:=flat_length (fun e h=>(r4 e h).1)
   obtain⟨nc,q1,q2,q3⟩:=cells new B off f n cap r1 hm r4 (fun i hi=>r2 i (by rw[←r1];omega)) r3
   exact⟨nc,by simp[Builtin.lenOf,r1],q1,q2,r4,q3⟩
  ·rw[if_neg hs]at hn;cases hn
 | _=>cases hn
theorem copy_sound(S:Sim ψ w h){ts:Array TypeId}{t ty:TypeId}{d s:AV}{dv sv:Value}{r:AV × Hp μ}(h0:ts[0]? = some t)(hl:copyAV P h t d s=some r)(hd:VR ψ w d dv)(hs:VR ψ w s sv) :
  ∃u w' ψ',(Builtin.copy_ ts ty #[dv,sv]).run P w=.ok u w'∧Ext ψ w ψ' w'∧Sim ψ' w' r.2∧VR ψ' w' r.1 u:=by
 unfold copyAV at hl
 split at hl
 case h_2=>cases hl
 rename_i e hu
 cases hsz:tsize P e with
 | none=>rw[hsz]at hl;cases hl
 | some sz=>
  cases hag:tagg P e with
  | none=>rw[hsz,hag]at hl;cases hl
  | some ag=>
   rw[hsz,hag]at hl
   simp only[Option.bind_some]at hl
   cases hnew:newEls h sz ag s with
   | none=>rw[hnew]at hl;cases hl
   | some new=>
    rw[hnew]at hl
    simp only[Option.bind_some]at hl
    cases hd with
    | nils=>
     cases hl
     obtain⟨nc,n1,n2,n3,_,_⟩:=newEls_take (P:=P) S hnew hs 0 (Nat.zero_le _)
     exact⟨.int .i64 0,w,ψ,by simp[Builtin.copy_,h0,underlying_run hu,n1,tsize_run hsz,n2,goInt],Ext.refl _ _,S,.int _ _⟩
    | rs o off sz' ag' n cap B ho hcap=>
     simp only at hl
     by_cases hsq:sz'≠sz∨ag'≠ag
     ·rw[if_pos hsq]at hl;cases hl
     rw[if_neg hsq]at hl
     simp only[not_or,Decidable.not_not]at hsq
     obtain⟨rfl,rfl⟩:=hsq
     cases hro:Mp.get h.obj o with
     | none=>rw[hro]at hl;cases hl
     | some ob=>
      rw[hro]at hl
      cases ob with
      | mp | iter | siter | loop | dead=>cases hl
      | row cs=>
       simp only at hl
       by_cases hle:off+n*sz'≤cs.length
       ·rw[if_pos hle]at hl;cases hl
        obtain⟨nc,n1,n2,n3,n4,n5⟩:=newEls_take (P:=P) S hnew hs (min new.length n) (Nat.min_le_left _ _)
        have htk:new.take (min new.length n)=new.take n:=by
         rcases Nat.le_total n new.length with hle | hle
         ·rw[Nat.min_eq_right hle]
         ·rw[Nat.min_eq_left hle,List.take_of_length_le (Nat.le_refl _),List.take_of_length_le hle]
        rw[htk]at n3 n5
        have hfl:=flat_length (sz:=sz') (els:=new.take n) (fun e he=>(n4 e (List.mem_of_mem_take he)).1)
        have hlen:(new.take n).length*sz'≤n*sz':=Nat.mul_le_mul_right _ (by rw[List.length_take];omega)
        have hI:CellsI (flat (new.take n)):=flat_I fun e he=>(n4 e (List.mem_of_mem_take he)).2
        obtain⟨w',r1,r2,r3⟩:=spliceRow_sound (P:=P) S (off:=off) (vs:=flat (new.take n)) (nc:=nc) hro ho n3 n5 (oneCell_of n3 (fun a ha=>hI a ha) n5) hI (by omega)
        refine⟨_,w',ψ,?_,r2,r3,.int _ _⟩
        simp only[Builtin.copy_,h0,List.getElem?_toArray,List.getElem?_cons_zero,List.getElem?_cons_succ,Sem.run_bind,underlying_run hu,Result.andThen_ok,n1,tsize_run hsz]
        have hm:Nat.min new.length n=min new.length n:=rfl
        rw[hm,n2]
        simp only[Result.andThen_ok,r1,Sem.run_pure,goInt]
       ·rw[if_neg hle]at hl;cases hl
    | _=>cases hl
theorem clear_sound(S:Sim ψ w h){ts:Array TypeId}{t ty:TypeId}{d:AV}{dv:Value}{r:AV × Hp μ}(h0:ts[0]? = some t)(hl:clearAV P h t d=some r)(hd:VR ψ w d dv) :
  ∃u w' ψ',(Builtin.clear_ ts ty #[dv]).run P w=.ok u w'∧Ext ψ w ψ' w'∧Sim ψ' w' r.2∧VR ψ' w' r.1 u:=by
 have htup:VR ψ w (.tup []) (.tuple #[]):=.tup [] #[] rfl (fun i hi=>by simp at hi)
 unfold clearAV at hl
 split at hl
 case h_2=>cases hl
 rename_i e hu
 cases hsz:tsize P e with
 | none=>rw[hsz]at hl;cases hl
 | some sz=>
  cases hz:tzero P e with
  | none=>rw[hsz,hz]at hl;cases hl
  | some z=>
   rw[hsz,hz]at hl
   simp only[Option.bind_some]at hl
   cases hd with
   | nils=>cases hl;exact⟨_,w,ψ,by simp[Builtin.clear_,h0,underlying_run hu],Ext.refl _ _,S,htup⟩
   | esl a cap=>cases hl;exact⟨_,w,ψ,by simp[Builtin.clear_,h0,underlying_run hu],Ext.refl _ _,S,htup⟩
   | rs o off sz' ag' n cap B ho hcap=>
    simp only at hl
    by_cases hsq:sz'≠sz∨z.cells.length≠sz∨z.cells.all AV.isCell=false∨sz=0
    ·rw[if_pos hsq]at hl;cases hl
    rw[if_neg hsq]at hl
    simp only[not_or,Decidable.not_not,Bool.not_eq_false]at hsq
    obtain⟨rfl,q1,q2,q3⟩:=hsq
    by_cases hn:n=0
    ·rw[if_pos hn]at hl;cases hl;subst hn
     exact⟨_,w,ψ,by simp[Builtin.clear_,h0,underlying_run hu],Ext.refl _ _,S,htup⟩
    rw[if_neg hn]at hl
    cases hro:Mp.get h.obj o with
    | none=>rw[hro]at hl;cases hl
    | some ob=>
     rw[hro]at hl
     cases ob with
     | mp | iter | siter | loop | dead=>cases hl
     | row cs=>
      simp only at hl
      by_cases hle:off+n*sz'≤cs.length
      ·rw[if_pos hle]at hl;cases hl
       obtain⟨zv,hzr,hze⟩:=tzero_run hz w
       have hzs:zv.cells.size=sz':=zero_size (by rw[←hze];exact q1)
       have hm:=made_rel (ψ:=ψ) (w:=w) (z:=z) (zv:=zv) (n:=sz') (len:=n) (m:=n*zv.cells.size) hze q2 q1 (by omega) (by rw[hzs];exact Nat.le_refl _)
       have hfl:=flat_length (sz:=sz') (els:=List.replicate n z) (fun e he=>by rw[List.eq_of_mem_replicate he];exact q1)
       rw[List.length_replicate]at hfl
       rw[←flat_repl]
       have hI:CellsI (flat (List.replicate n z)):=flat_I fun e he=>by rw[List.eq_of_mem_replicate he];exact q2
       have n3:(Builtin.zeroCells zv.cells n).toList.length=(flat (List.replicate n z)).length:=by rw[Array.length_toList,size_zeroCells,hzs,hfl]
       have n5:∀i (hi:i<(flat (List.replicate n z)).length),∃u,(Builtin.zeroCells zv.cells n).toList[i]? = some u∧VR ψ w ((flat (List.replicate n z))[i]) u:=fun i hi=>by
        obtain⟨u,a1,a2⟩:=hm.2 i hi
        exact⟨u,by rw[Array.getElem?_toList];exact a1,a2⟩
       obtain⟨w',r1,r2,r3⟩:=spliceRow_sound (P:=P) S (off:=off) (vs:=flat (List.replicate n z)) hro ho n3 n5 (oneCell_of n3 (fun a ha=>hI a ha) n5) hI (by rw[hfl];omega)
       refine⟨_,w',ψ,?_,r2,r3,.tup [] #[] rfl (fun i hi=>by simp at hi)⟩
       cases n with
       | zero=>exact absurd rfl hn
       | succ n=>simp[Builtin.clear_,h0,underlying_run hu,hzr,r1]
      ·rw[if_neg hle]at hl;cases hl
   | _=>cases hl
theorem checkAV_sound(em:Bool):∀(d:Nat) (t:TypeId) (v:AV) (vv:Value) (n:Nat),checkAV P d t v=true→VR ψ w v vv→d≤n→(Instr.checkKey em n t vv).run P w=.ok () w
 | 0,_,_,_,_,h,_,_=>by simp[checkAV]at h
 | d+1,t,v,vv,0,_,_,hn=>by omega
 | d+1,t,v,vv,n+1,hc,hv,hn=>by
  unfold checkAV at hc
  unfold Instr.checkKey
  simp only[Sem.run_bind]
  split at hc
  ·rename_i hu;simp only[underlying_run hu,Result.andThen_ok];rfl
  ·rename_i hu;simp only[underlying_run hu,Result.andThen_ok];rfl
  ·rename_i hu;simp only[underlying_run hu,Result.andThen_ok];rfl
  ·rename_i fields cs hu
   cases hv with
   | agg _ x hx ha=>
    simp only[underlying_run hu,Result.andThen_ok]
    rw[←Array.forIn_toList]
    generalize fields.toList=L at hc
    clear hu
    induction L with
    | nil=>simp
    | cons f L ih=>
     simp only[List.all_cons,Bool.and_eq_true,Bool.or_eq_true,beq_iff_eq]at hc
     obtain⟨h1,h2⟩:=hc
     have ih':=ih h2
     simp only[ne_eq,Sem.run_bind,Sem.run_pure]at ih' ⊢
     by_cases hnm : f.name = "_"
     ·simp only[List.forIn_cons,Sem.run_bind,hnm,ne_eq,not_true_eq_false,if_false,Result.andThen_ok,Sem.run_pure]
      simpa using ih'
     ·rcases h1 with h1 | h1
      ·exact absurd h1 hnm
      ·split at h1
       ·rename_i ag m hag hsz
        split at h1
        ·rename_i y hy
         obtain⟨u,u1,u2⟩:=part_sound (P:=P) (ψ:=ψ) (w:=w) hag hsz ⟨hx,ha⟩ hy
         have h3:=checkAV_sound em d f.type y u n h1 u2 (by omega)
         simp only[List.forIn_cons,Sem.run_bind,hnm,ne_eq,not_false_eq_true,if_true,u1,Result.andThen_ok,h3,Sem.run_pure]
         simpa using ih'
        ·cases h1
       ·cases h1
  ·cases hc
theorem findAV_sound{kt:TypeId}{k:AV}{kv:Value}(hk:VR ψ w k kv):∀(es:List (AV × AV × Nat)) (es':List MapEntry) (i:Nat) (r:Option (Nat × AV)),es.length=es'.length→(∀j (h1:j<es.length) (h2:j<es'.length),EntR ψ w es[j] es'[j])→findAV P kt k es i=some r →
  ∃r',(Instr.findAsking kt kv es' i).run P w=.ok r' w∧(∀d,P.underlying kt=some d→(d=.string∨d=.bool∨∃q,d=.int q)→Instr.findNow d kv es' i=some r') ∧
   (r=none→r'=none)∧(∀j v,r=some (j,v)→∃v',r'=some (j,v')∧VR ψ w v v'∧i≤j∧j<i+es.length)
 | [],[],i,r,_,_,h=>by
  cases h
  exact⟨none,rfl,fun d _ _=>rfl,fun _=>rfl,fun j v h=>by cases h⟩
 | [],_::_,i,r,hl,_,_=>by simp at hl
 | _::_,[],i,r,hl,_,_=>by simp at hl
 | (k',v,b)::es,e::es',i,r,hl,hE,h=>by
  obtain⟨e1,e2,e3⟩:=hE 0 (by simp) (by simp)
  simp only[List.getElem_cons_zero]at e1 e2 e3
  have now:∀(q:Bool),eqlAV P 20 kt k k'=some q→∀d,P.underlying kt=some d→(d=.string∨d=.bool∨∃q,d=.int q)→Instr.sameNow d kv e.key=some q:=by
   intro q hq d hd hk3
   unfold eqlAV at hq
   rw[hd]at hq
   rcases hk3 with rfl | rfl | ⟨kd,rfl⟩
   ·cases k <;> cases k' <;> simp only at hq <;> first | (cases hq;done) | skip
    cases hq
    generalize e.key=ek at e1
    cases hk;cases e1
    simp only[Instr.sameNow,eqB_eq]
    congr 1
    rw[Bool.eq_iff_iff,MapKept.bytes_beq,beq_iff_eq]
    simp
   ·cases k <;> cases k' <;> simp only at hq <;> first | (cases hq;done) | skip
    cases hq
    generalize e.key=ek at e1
    cases hk;cases e1
    rfl
   ·cases k <;> cases k' <;> simp only at hq <;> first | (cases hq;done) | skip
    split at hq
    ·rename_i hkk
     cases hq
     generalize e.key=ek at e1
     cases hk;cases e1
     simp only[Instr.sameNow,hkk,if_true,BEq.beq]
    ·cases hq
  simp only[findAV]at h
  cases he:eqlAV P 20 kt k k' with
  | none=>rw[he]at h;cases h
  | some q=>
   rw[he]at h
   have heq:=eqlAV_sound (P:=P) 20 kt k k' kv e.key q 10000 he hk e1 (by omega)
   cases q with
   | true=>
    simp only at h
    cases h
    refine⟨some (i,e.val),?_,fun d hd h3=>?_,fun h=>(by cases h),fun j v' h=>?_⟩
    ·simp only[Instr.findAsking,Sem.run_bind,Op.equal,Op.maxDepth,heq,Result.andThen_ok,if_true,Sem.run_pure]
    ·simp only[Instr.findNow,now true he d hd h3]
    ·cases h;exact⟨e.val,rfl,e2,Nat.le_refl _,by simp⟩
   | false=>
    simp only at h
    obtain⟨r',q1,q2,q3,q4⟩:=findAV_sound hk es es' (i+1) r (by simpa using hl) (fun j h1 h2=>by have:=hE (j+1) (by simpa using h1) (by simpa using h2);simpa only[List.getElem_cons_succ]using this) h
    refine⟨r',?_,fun d hd h3=>?_,q3,fun j v' hj=>?_⟩
    ·simp only[Instr.findAsking,Sem.run_bind,Op.equal,Op.maxDepth,heq,Result.andThen_ok,Bool.false_eq_true,if_false]
     exact q1
    ·simp only[Instr.findNow,now false he d hd h3]
     exact q2 d hd h3
    ·obtain⟨v'',a1,a2,a3,a4⟩:=q4 j v' hj
     exact⟨v'',a1,a2,by omega,by simp only[List.length_cons];omega⟩
theorem findKey_sound{kt:TypeId}{k:AV}{kv:Value}{d:TypeDesc}(hd:P.underlying kt=some d)(hk:VR ψ w k kv){es:List (AV × AV × Nat)}{es':Array MapEntry}{r:Option (Nat × AV)}(hl:es'.size=es.length)(hE:∀i (h:i<es.length),EntR ψ w es[i] (es'[i]'(hl▸h)))(h:findAV P kt k es 0=some r) :
  ∃r',(Instr.findKey kt kv es'.toList).run P w=.ok r' w∧(r=none→r'=none)∧(∀j v,r=some (j,v)→∃v',r'=some (j,v')∧VR ψ w v v'∧j<es.length):=by
 obtain⟨r',q1,q2,q3,q4⟩:=findAV_sound (P:=P) hk es es'.toList 0 r (by simp[hl]) (fun j h1 h2=>by simpa using hE j h1) h
 refine⟨r',?_,q3,fun j v hj=>by obtain⟨v',a1,a2,_,a4⟩:=q4 j v hj;exact⟨v',a1,a2,by omega⟩⟩
 by_cases h3:d=.string∨d=.bool∨∃q,d=.int q
 ·simp only[Instr.findKey,Sem.run_bind,underlying_run hd,Result.andThen_ok,q2 d hd h3,Sem.run_pure]
 ·have hnone:∀(l:List MapEntry),l≠[]→Instr.findNow d kv l 0=none:=by
   intro l hl
   cases l with
   | nil=>exact absurd rfl hl
   | cons e l=>
    simp only[not_or,not_exists]at h3
    obtain⟨n1,n2,n3⟩:=h3
    have:Instr.sameNow d kv e.key=none:=by
     cases d <;> first | rfl | exact absurd rfl n1 | exact absurd rfl n2 | exact absurd rfl (n3 _)
    simp only[Instr.findNow,this]
  by_cases he:es'.toList=[]
  ·rw[he]at q1 ⊢
   simp only[Instr.findKey,Sem.run_bind,underlying_run hd,Result.andThen_ok,Instr.findNow,Sem.run_pure]
   simpa[Instr.findAsking]using q1
  ·simp only[Instr.findKey,Sem.run_bind,underlying_run hd,Result.andThen_ok,hnone _ he]
   exact q1
theorem makeMap_sound(S:Sim ψ w h){t:TypeId}{r0:Option AV}{rv:Option Value}{r:AV × Hp μ}(hl:makeMapAV P h t r0=some r)(hv:VRo ψ w r0 rv):∃u w' ψ',(Instr.makeMap t rv).run P w=.ok u w'∧Ext ψ w ψ' w'∧Sim ψ' w' r.2∧VR ψ' w' r.1 u:=by
 unfold makeMapAV at hl
 cases hu:P.underlying t with
 | none=>rw[hu]at hl;cases hl
 | some d=>
  rw[hu]at hl
  cases d <;> try (cases hl;done)
  rename_i kt et
  simp only at hl
  obtain⟨ψ',E,S',o1⟩:=newObj_sound S (x:=.mp [] 0) (Pushed.alloc w (.map #[] 0)) fun ψ' E=>.mp [] 0 #[] (Pushed.alloc w _).new rfl fun i hi=>by simp at hi
  cases r0 with
  | none=>
   cases rv with
   | none=>
    simp only[if_true,Option.some.injEq]at hl
    subst hl
    exact⟨.map (some w.heap.size),_,ψ',by simp[Instr.makeMap],E,S',.mp h.no _ o1⟩
   | some _=>exact hv.elim
  | some x=>
   cases rv with
   | none=>exact hv.elim
   | some xv=>
    cases x <;> simp only[if_true,Bool.false_eq_true,if_false]at hl <;> try (cases hl;done)
    simp only[Option.some.injEq]at hl
    subst hl
    have hx:VR ψ w _ xv:=hv
    cases hx
    exact⟨.map (some w.heap.size),_,ψ',by simp[Instr.makeMap,underlying_run hu,asInt,asIntOf],E,S',.mp h.no _ o1⟩
theorem entries_sound(S:Sim ψ w h){x:AV}{xv:Value}{es:List (AV × AV × Nat)}(hl:entriesAV h x=some es)(hx:VR ψ w x xv) :
  (xv=.map none∧es=[])∨∃B es' clock,xv=.map (some B)∧w.heap[B]? = some (.map es' clock)∧∃hs:es'.size=es.length,∀i (h:i<es.length),EntR ψ w es[i] (es'[i]'(hs▸h)):=by
 unfold entriesAV at hl
 split at hl
 ·cases hl;cases hx;exact .inl ⟨rfl,rfl⟩
 ·rename_i o
  split at hl
  ·rename_i es0 clock ho
   cases hl
   cases hx with
   | mp o B hB=>
    obtain⟨B',h1,h2,h3⟩:=S.obj o _ ho rfl
    rw[h1]at hB;cases hB
    cases h3 with
    | mp _ _ es' q1 q2 q3=>exact .inr ⟨_,es',_,rfl,q1,q2,q3⟩
  ·cases hl
 ·cases hl
theorem lookup_sound(S:Sim ψ w h){t:TypeId}{x k:AV}{xv kv:Value}{ok:Bool}{r:AV}(hl:lookupAV P h t x k ok=some r)(hx:VR ψ w x xv)(hk:VR ψ w k kv):∃u,(Instr.lookup t xv kv ok).run P w=.ok u w∧VR ψ w r u:=by
 unfold lookupAV at hl
 split at hl
 case h_2=>cases hl
 rename_i kt et hu
 simp only[Option.bind_eq_some_iff]at hl
 obtain⟨es,hes,hl⟩:=hl
 by_cases hck:checkAV P 20 kt k=false
 ·rw[if_pos hck]at hl;cases hl
 rw[if_neg hck]at hl
 simp only[Bool.not_eq_false]at hck
 simp only[Option.bind_eq_some_iff]at hl
 obtain⟨fr,hf,hl⟩:=hl
 have hd:∃d,P.underlying kt=some d:=by
  cases hq:P.underlying kt with
  | none=>simp[checkAV,hq]at hck
  | some d=>exact⟨d,rfl⟩
 obtain⟨d,hd⟩:=hd
 have two:∀(v:AV) (u:Value) (b:Bool),VR ψ w v u→VR ψ w (if ok then .tup [v,.bool b]else v) (if ok then .tuple #[u,.bool b]else u):=fun v u b hv=>by
  cases ok with
  | false=>simpa using hv
  | true=>
   simp only[if_true]
   refine .tup _ _ rfl fun i hi=>?_
   simp at hi
   match i,hi with
   | 0,_=>exact hv
   | 1,_=>exact .bool b
 have hc:=fun em=>checkAV_sound (P:=P) (ψ:=ψ) (w:=w) em 20 kt k kv 10000 hck hk (by omega)
 have fin:∀(es':Array MapEntry) (hs:es'.size=es.length),(∀i (h:i<es.length),EntR ψ w es[i] (es'[i]'(hs▸h))) →
   (∃z zv,fr=none∧r=(if ok then .tup [z,.bool false]else z)∧(Instr.findKey kt kv es'.toList).run P w=.ok none w∧(zeroValue et).run P w=.ok zv w∧VR ψ w z zv) ∨
   (∃j v v',r=(if ok then .tup [v,.bool true]else v)∧(Instr.findKey kt kv es'.toList).run P w=.ok (some (j,v')) w∧VR ψ w v v'):=by
  intro es' hs hE
  obtain⟨r',f1,f2,f3⟩:=findKey_sound (P:=P) hd hk hs hE hf
  cases fr with
  | none=>
   simp only[Option.map_eq_some_iff]at hl
   obtain⟨z,hz,rfl⟩:=hl
   obtain⟨zv,z1,z2⟩:=tzero_run hz w
   rw[f2 rfl]at f1
   exact .inl ⟨z,zv,rfl,rfl,f1,z1,z2▸VR_ofVal zv⟩
  | some q=>
   obtain⟨j,v⟩:=q
   simp only[Option.some.injEq]at hl
   subst hl
   obtain⟨v',g1,g2,_⟩:=f3 j v rfl
   rw[g1]at f1
   exact .inr ⟨j,v,v',rfl,f1,g2⟩
 rcases entries_sound S hes hx with⟨rfl,rfl⟩ | ⟨B,es',clock,rfl,hB,hs,hE⟩
 ·rcases fin #[] rfl (fun i hi=>by simp at hi)with⟨z,zv,_,rfl,f1,z1,z2⟩ | ⟨j,v,v',rfl,f1,f2⟩
  ·refine⟨_,?_,two z zv false z2⟩
   simp only[Instr.lookup,Sem.run_bind,underlying_run hu,Result.andThen_ok,Sem.run_pure,hc,f1,z1]
  ·refine⟨_,?_,two v v' true f2⟩
   simp only[Instr.lookup,Sem.run_bind,underlying_run hu,Result.andThen_ok,Sem.run_pure,hc,f1]
 ·have hg:(getObj B).run P w=.ok (.map es' clock) w:=by simp[getObj,Sem.run,hB]
  rcases fin es' hs hE with⟨z,zv,_,rfl,f1,z1,z2⟩ | ⟨j,v,v',rfl,f1,f2⟩
  ·refine⟨_,?_,two z zv false z2⟩
   simp only[Instr.lookup,Sem.run_bind,underlying_run hu,Result.andThen_ok,Sem.run_pure,hg,hc,f1,z1]
  ·refine⟨_,?_,two v v' true f2⟩
   simp only[Instr.lookup,Sem.run_bind,underlying_run hu,Result.andThen_ok,Sem.run_pure,hg,hc,f1]
theorem beqS_sound{a b:AV}{u v:Value}(h:beqS a b=true)(ha:VR ψ w a u)(hb:VR ψ w b v)(n:Nat):Instr.sameBits n u v=true:=by
 unfold beqS at h
 split at h
 ·cases ha;cases hb;cases n <;> simpa[Instr.sameBits]using h
 ·cases ha;cases hb
  simp only[Bool.and_eq_true,decide_eq_true_eq]at h
  cases n <;> simp[Instr.sameBits,h.1,h.2]
 ·cases ha;cases hb
  rw[eqB_eq,beq_iff_eq]at h
  subst h
  cases n <;> simp[Instr.sameBits,MapKept.bytes_beq]
 ·cases h
theorem beqSs_sound:∀{a b:List AV} {u v:List Value} (_:beqSs a b=true) (_:a.length=u.length) (_:b.length=v.length) (_:∀i (h1:i<a.length) (h2:i<u.length),VR ψ w a[i] u[i]) (_:∀i (h1:i<b.length) (h2:i<v.length),VR ψ w b[i] v[i]) (n:Nat),
  u.length=v.length∧((u.zip v).all fun(x,y)=>Instr.sameBits n x y)=true
 | [],[],[],[],_,_,_,_,_,n=>⟨rfl,rfl⟩
 | a::as,b::bs,x::xs,y::ys,h,h1,h2,h3,h4,n=>by
  simp only[beqSs,Bool.and_eq_true]at h
  obtain⟨r1,r2⟩:=beqSs_sound h.2 (by simpa using h1) (by simpa using h2) (fun i k1 k2=>by have:=h3 (i+1) (by simpa using k1) (by simpa using k2);simpa only[List.getElem_cons_succ]using this)
   (fun i k1 k2=>by have:=h4 (i+1) (by simpa using k1) (by simpa using k2);simpa only[List.getElem_cons_succ]using this) n
  exact⟨by simp[r1],by simp only[List.zip_cons_cons,List.all_cons,r2,Bool.and_true];exact beqS_sound h.1 (h3 0 (by simp) (by simp)) (h4 0 (by simp) (by simp)) n⟩
 | [],_::_,_,_,h,_,_,_,_,_=>by simp[beqSs]at h
 | _::_,[],_,_,h,_,_,_,_,_=>by simp[beqSs]at h
 | [],[],_::_,_,_,h,_,_,_,_=>by simp at h
 | [],[],[],_::_,_,_,h,_,_,_=>by simp at h
 | _::_,_::_,[],_,_,h,_,_,_,_=>by simp at h
 | _::_,_::_,_::_,[],_,_,h,_,_,_=>by simp at h
theorem beqK_sound{a b:AV}{u v:Value}(h:beqK a b=true)(ha:VR ψ w a u)(hb:VR ψ w b v):Instr.sameBits 10000 u v=true:=by
 unfold beqK at h
 split at h
 ·cases ha with
  | agg _ x hx hxa=>
   cases hb with
   | agg _ y hy hyb=>
    obtain⟨r1,r2⟩:=beqSs_sound (ψ:=ψ) (w:=w) (u:=x.toList) (v:=y.toList) h (by simp[hx]) (by simp[hy]) (fun i h1 h2=>by simpa using hxa i h1) (fun i h1 h2=>by simpa using hyb i h1) 9999
    have:x.size=y.size:=by simpa using r1
    simp only[Instr.sameBits,this,beq_self_eq_true,Bool.true_and]
    exact r2
 ·exact beqS_sound h ha hb _
theorem mapUpdate_sound(S:Sim ψ w h){t:TypeId}{m k v:AV}{mv kv vv:Value}{h':Hp μ}(hl:mapUpdateAV P h t m k v=some h')(hm:VR ψ w m mv)(hk:VR ψ w k kv)(hv:VR ψ w v vv) :
  ∃w',(Instr.mapUpdate t mv kv vv).run P w=.ok () w'∧Ext ψ w ψ w'∧Sim ψ w' h':=by
 unfold mapUpdateAV at hl
 split at hl
 case h_2=>cases hl
 rename_i kt et o hu
 split at hl
 case h_2=>cases hl
 rename_i es clock ho
 by_cases hck:checkAV P 20 kt k=false
 ·rw[if_pos hck]at hl;cases hl
 rw[if_neg hck]at hl
 simp only[Bool.not_eq_false]at hck
 simp only[Option.bind_eq_some_iff]at hl
 obtain⟨fr,hf,hl⟩:=hl
 have hd:∃d,P.underlying kt=some d:=by
  cases hq:P.underlying kt with
  | none=>simp[checkAV,hq]at hck
  | some d=>exact⟨d,rfl⟩
 obtain⟨d,hd⟩:=hd
 have hc:=fun em=>checkAV_sound (P:=P) (ψ:=ψ) (w:=w) em 20 kt k kv 10000 hck hk (by omega)
 cases hm with
 | mp _ B hB=>
  obtain⟨B',h1,h2,h3⟩:=S.obj o _ ho rfl
  have hBB:B'=B:=by rw[h1]at hB;exact Option.some.inj hB
  subst hBB
  cases h3 with
  | mp _ _ es' q1 q2 q3=>
   have hg:(getObj B').run P w=.ok (.map es' clock) w:=by simp[getObj,Sem.run,q1]
   have hs:∀ob,(setObj B' ob).run P w=.ok () { w with heap:=w.heap.setIfInBounds B' ob }:=fun ob=>by simp[setObj,Sem.run,q1]
   obtain⟨r',f1,f2,f3⟩:=findKey_sound (P:=P) hd hk q2 q3 hf
   have hnd:w.heap[B']? ≠ some (.deferred (some [])):=by rw[q1];intro h;cases h
   cases fr with
   | none=>
    cases hl
    rw[f2 rfl]at f1
    let es2:=es'.push { key:=kv,val:=vv,born:=clock }
    have hsz:es2.size=(es++[(k,v,clock)]).length:=by simp[es2,q2]
    obtain⟨E4,S4⟩:=setObj_sound S (x:=.mp (es++[(k,v,clock)]) (clock+1)) h1 h2 hnd (OnlyAt.setObj w B' (.map es2 (clock+1))) fun E=>.mp _ _ es2 (set_at q1) hsz fun i hi=>by
     by_cases hlt:i<es.length
     ·obtain⟨a,b,c⟩:=q3 i hlt
      have e1:(es++[(k,v,clock)])[i]=es[i]:=List.getElem_append_left hlt
      have e2:es2[i]'(hsz▸hi)=es'[i]'(by omega):=by simp only[es2];exact Array.getElem_push_lt (by omega)
      rw[e1,e2]
      exact⟨a.mono E,b.mono E,c⟩
     ·have hi':i=es.length:=by simp at hi;omega
      subst hi'
      have e1:(es++[(k,v,clock)])[es.length]=(k,v,clock):=by simp
      have e2:es2[es.length]'(hsz▸hi)={ key:=kv,val:=vv,born:=clock }:=by simp only[es2,←q2];exact Array.getElem_push_eq
      rw[e1,e2]
      exact⟨hk.mono E,hv.mono E,rfl⟩
    refine⟨_,?_,E4,S4⟩
    simp only[Instr.mapUpdate,Sem.run_bind,underlying_run hu,Result.andThen_ok,hg,hc,f1,hs]
    rfl
   | some q=>
    obtain⟨j,v0⟩:=q
    simp only at hl
    obtain⟨v',g1,g2,g3⟩:=f3 j v0 rfl
    rw[g1]at f1
    rw[List.getElem?_eq_getElem g3]at hl
    simp only at hl
    by_cases hbk:beqK es[j].1 k=true
    ·rw[if_pos hbk]at hl
     cases hl
     have hj':j<es'.size:=by omega
     have hsame:=beqK_sound (ψ:=ψ) (w:=w) hbk (q3 j g3).1 hk
     let es2:=es'.modify j fun e=>{ e with key:=kv,val:=vv }
     have hsz:es2.size=(es.set j (k,v,es[j].2.2)).length:=by simp[es2,q2]
     obtain⟨E4,S4⟩:=setObj_sound S (x:=.mp (es.set j (k,v,es[j].2.2)) clock) h1 h2 hnd (OnlyAt.setObj w B' (.map es2 clock)) fun E=>.mp _ _ es2 (set_at q1) hsz fun i hi=>by
      have hi':i<es.length:=by simpa using hi
      obtain⟨a,b,c⟩:=q3 i hi'
      by_cases hij:i=j
      ·subst hij
       have e1:(es.set i (k,v,es[i].2.2))[i]'(by simpa using hi')=(k,v,es[i].2.2):=by simp
       have e2:es2[i]'(hsz▸hi)={ (es'[i]'(by omega))with key:=kv,val:=vv }:=by simp[es2,Array.getElem_modify]
       rw[e1,e2]
       exact⟨hk.mono E,hv.mono E,c⟩
      ·have e1:(es.set j (k,v,es[j].2.2))[i]'(by simpa using hi')=es[i]:=List.getElem_set_ne (fun h=>hij h.symm) _
       have e2:es2[i]'(hsz▸hi)=es'[i]'(by omega):=by
        have hji:¬j=i:=fun h=>hij h.symm
        simp[es2,Array.getElem_modify,hji]
       rw[e1,e2]
       exact⟨a.mono E,b.mono E,c⟩
     refine⟨_,?_,E4,S4⟩
     have hkk:((es'[j]?).map (·.key)).getD kv=es'[j].key:=by rw[Array.getElem?_eq_getElem hj'];rfl
     simp only[Instr.mapUpdate,Sem.run_bind,underlying_run hu,Result.andThen_ok,hg,hc,f1,hkk,Instr.keyThatStays,hsame,if_true,Sem.run_pure,hs]
     rfl
    ·rw[if_neg hbk]at hl;cases hl
theorem delete_sound(S:Sim ψ w h){ts:Array TypeId}{t ty:TypeId}{m k:AV}{mv kv:Value}{r:AV × Hp μ}(h0:ts[0]? = some t)(hl:deleteAV P h t m k=some r)(hm:VR ψ w m mv)(hk:VR ψ w k kv) :
  ∃u w' ψ',(Builtin.delete_ ts ty #[mv,kv]).run P w=.ok u w'∧Ext ψ w ψ' w'∧Sim ψ' w' r.2∧VR ψ' w' r.1 u:=by
 have htup:∀w',VR ψ w' (.tup []) (.tuple #[]):=fun w'=>.tup [] #[] rfl (fun i hi=>by simp at hi)
 unfold deleteAV at hl
 split at hl
 ·rename_i kt et hu
  by_cases hck:checkAV P 20 kt k=false
  ·rw[if_pos hck]at hl;cases hl
  rw[if_neg hck]at hl
  simp only[Bool.not_eq_false]at hck
  cases hl
  cases hm
  have hc:=fun em=>checkAV_sound (P:=P) (ψ:=ψ) (w:=w) em 20 kt k kv 10000 hck hk (by omega)
  exact⟨_,w,ψ,by simp[Builtin.delete_,h0,underlying_run hu,hc],Ext.refl _ _,S,htup w⟩
 ·rename_i kt et o hu
  split at hl
  case h_2=>cases hl
  rename_i es clock ho
  by_cases hck:checkAV P 20 kt k=false
  ·rw[if_pos hck]at hl;cases hl
  rw[if_neg hck]at hl
  simp only[Bool.not_eq_false]at hck
  simp only[Option.bind_eq_some_iff]at hl
  obtain⟨fr,hf,hl⟩:=hl
  have hd:∃d,P.underlying kt=some d:=by
   cases hq:P.underlying kt with
   | none=>simp[checkAV,hq]at hck
   | some d=>exact⟨d,rfl⟩
  obtain⟨d,hd⟩:=hd
  have hc:=fun em=>checkAV_sound (P:=P) (ψ:=ψ) (w:=w) em 20 kt k kv 10000 hck hk (by omega)
  cases hm with
  | mp _ B hB=>
   obtain⟨B',h1,h2,h3⟩:=S.obj o _ ho rfl
   have hBB:B'=B:=by rw[h1]at hB;exact Option.some.inj hB
   subst hBB
   cases h3 with
   | mp _ _ es' q1 q2 q3=>
    have hg:(getObj B').run P w=.ok (.map es' clock) w:=by simp[getObj,Sem.run,q1]
    have hs:∀ob,(setObj B' ob).run P w=.ok () { w with heap:=w.heap.setIfInBounds B' ob }:=fun ob=>by simp[setObj,Sem.run,q1]
    obtain⟨r',f1,f2,f3⟩:=findKey_sound (P:=P) hd hk q2 q3 hf
    have hnd:w.heap[B']? ≠ some (.deferred (some [])):=by rw[q1];intro h;cases h
    cases fr with
    | none=>
     cases hl
     rw[f2 rfl]at f1
     have hself:({ h with obj:=Mp.set h.obj o (.mp es clock) }:Hp μ)={ h with obj:=Mp.set h.obj o (.mp es clock) }:=rfl
     obtain⟨E4,S4⟩:=setObj_sound S (x:=.mp es clock) h1 h2 hnd (OnlyAt.setObj w B' (.map es' clock)) fun E=>.mp _ _ es' (set_at q1) q2 fun i hi=>let⟨a,b,c⟩:=q3 i hi;⟨a.mono E,b.mono E,c⟩
     refine⟨.tuple #[],{ w with heap:=w.heap.setIfInBounds B' (.map es' clock) },ψ,by simp[Builtin.delete_,h0,underlying_run hu,hg,hc,f1,hs],E4,?_,htup _⟩
     refine⟨fun o' y hy ha=>S4.obj o' y ?_ ha,S4.own,fun o' ho'=>?_,S4.grp,S4.len,S4.zero,S4.neq,S4.ng,S4.blk,S4.gblk,S4.tape,S4.drawn⟩
     ·simp only[Mp.get_set]
      split
      ·rename_i he;subst he;rw[←hy];exact ho.symm
      ·exact hy
     ·exact S.no o' ho'
    | some q=>
     obtain⟨j,v0⟩:=q
     simp only[Option.some.injEq]at hl
     subst hl
     obtain⟨v',g1,g2,g3⟩:=f3 j v0 rfl
     rw[g1]at f1
     have hj':j<es'.size:=by omega
     let es2:=es'.eraseIdxIfInBounds j
     have he2:es2.toList=es'.toList.eraseIdx j:=by simp[es2,Array.eraseIdxIfInBounds,hj']
     have hsz:es2.size=(es.eraseIdx j).length:=by
      rw[←Array.length_toList,he2,List.length_eraseIdx,List.length_eraseIdx];simp[q2,g3]
     obtain⟨E4,S4⟩:=setObj_sound S (x:=.mp (es.eraseIdx j) clock) h1 h2 hnd (OnlyAt.setObj w B' (.map es2 clock)) fun E=>.mp _ _ es2 (set_at q1) hsz fun i hi=>by
      have e2:es2[i]'(hsz▸hi)=(es'.toList.eraseIdx j)[i]'(by rw[←he2];simpa using hsz▸hi):=by
       have:es2[i]'(hsz▸hi)=es2.toList[i]'(by simpa using hsz▸hi):=by simp
       rw[this];congr 1
      rw[e2,List.getElem_eraseIdx,List.getElem_eraseIdx]
      have hle:(es.eraseIdx j).length+1=es.length:=by rw[List.length_eraseIdx];simp[g3];omega
      split
      ·obtain⟨a,b,c⟩:=q3 i (by omega)
       simp only[Array.getElem_toList]
       exact⟨a.mono E,b.mono E,c⟩
      ·obtain⟨a,b,c⟩:=q3 (i+1) (by omega)
       simp only[Array.getElem_toList]
       exact⟨a.mono E,b.mono E,c⟩
     exact⟨.tuple #[],{ w with heap:=w.heap.setIfInBounds B' (.map es2 clock) },ψ,by simp[Builtin.delete_,h0,underlying_run hu,hg,hc,f1,hs,es2],E4,S4,htup _⟩
 ·cases hl
theorem range_map_sound(S:Sim ψ w h){t:TypeId}{x:AV}{xv:Value}{r:AV × Hp μ}(hl:rangeAV P h t x=some r)(hx:VR ψ w x xv):∃u w' ψ',(Instr.range t xv).run P w=.ok u w'∧Ext ψ w ψ' w'∧Sim ψ' w' r.2∧VR ψ' w' r.1 u:=by
 unfold rangeAV at hl
 split at hl
 ·rename_i kt et hu
  cases hl;cases hx
  obtain⟨ψ',E,S',o1⟩:=newObj_sound S (x:=.iter none 0 [] 0) (Pushed.alloc w (.mapIter none 0 #[] 0)) fun ψ' E=>.iter none 0 [] 0 none (Pushed.alloc w _).new (fun o h=>by cases h) (fun _=>rfl)
  exact⟨.pointer (some ⟨w.heap.size,0,none⟩),_,ψ',by simp[Instr.range,underlying_run hu],E,S',.ptr h.no 0 _ o1⟩
 ·rename_i kt et o hu
  split at hl
  case h_2=>cases hl
  rename_i es clock ho
  cases hl
  cases hx with
  | mp _ B hB=>
   obtain⟨B',h1,h2,h3⟩:=S.obj o _ ho rfl
   have hBB:B'=B:=by rw[h1]at hB;exact Option.some.inj hB
   subst hBB
   cases h3 with
   | mp _ _ es' q1 q2 q3=>
    have hg:(getObj B').run P w=.ok (.map es' clock) w:=by simp[getObj,Sem.run,q1]
    obtain⟨ψ',E,S',o1⟩:=newObj_sound S (x:=.iter (some o) clock [] clock) (Pushed.alloc w (.mapIter (some B') clock #[] clock)) fun ψ' E=>.iter (some o) clock [] clock (some B') (Pushed.alloc w _).new (fun o' h=>by cases h;exact⟨_,rfl,E.obj _ _ h1⟩) (fun h=>by cases h)
    exact⟨.pointer (some ⟨w.heap.size,0,none⟩),_,ψ',by simp[Instr.range,underlying_run hu,hg],E,S',.ptr h.no 0 _ o1⟩
 ·cases hl
theorem pick_sound(S:Sim ψ w h)(n:Nat)(hn:0<n):∃w',(choose (.mapNext n)).run P w=.ok (h.pick n).1 w'∧Ext ψ w ψ w'∧Sim ψ w' (h.pick n).2∧w'.heap=w.heap:=by
 unfold Hp.pick
 by_cases h1:n≤1
 ·rw[if_pos h1]
  exact⟨w,by simp[Question.forced,h1],Ext.refl _ _,S,rfl⟩
 ·rw[if_neg h1]
  refine⟨w.drew,?_,Ext.drew ψ w,S.drew,rfl⟩
  simp only[run_choose,Question.forced,h1,decide_false,Bool.false_eq_true,if_false,Question.cut,S.tape,S.drawn]
  rfl
theorem ents_filter{es:List (AV × AV × Nat)}{es':List MapEntry}(hl:es.length=es'.length)(hE:∀i (h1:i<es.length) (h2:i<es'.length),EntR ψ w es[i] es'[i])(p:Nat→Bool) :
  (es.filter fun e=>p e.2.2).length=(es'.filter fun e=>p e.born).length∧∀i (h1:i<(es.filter fun e=>p e.2.2).length) (h2:i<(es'.filter fun e=>p e.born).length),EntR ψ w ((es.filter fun e=>p e.2.2)[i]) ((es'.filter fun e=>p e.born)[i]):=by
 induction es generalizing es' with
 | nil=>
  cases es' with
  | nil=>exact⟨rfl,fun i h1=>by simp at h1⟩
  | cons _ _=>simp at hl
 | cons e es ih=>
  cases es' with
  | nil=>simp at hl
  | cons e' es'=>
   have h0:=hE 0 (by simp) (by simp)
   simp only[List.getElem_cons_zero]at h0
   obtain⟨r1,r2⟩:=ih (es':=es') (by simpa using hl) (fun i h1 h2=>by have:=hE (i+1) (by simpa using h1) (by simpa using h2);simpa only[List.getElem_cons_succ]using this)
   have hb:e'.born=e.2.2:=h0.2.2
   by_cases hp:p e.2.2=true
   ·have hp':p e'.born=true:=by rw[hb];exact hp
    simp only[List.filter_cons,hp,hp',if_true]
    refine⟨by simp[r1],fun i h1 h2=>?_⟩
    cases i with
    | zero=>exact h0
    | succ i=>simp only[List.getElem_cons_succ];exact r2 i (by simpa using h1) (by simpa using h2)
   ·have hp':¬p e'.born=true:=by rw[hb];exact hp
    simp only[List.filter_cons,hp,hp',Bool.false_eq_true,if_false]
    exact⟨r1,r2⟩
def candsV(es:Array MapEntry)(since:Nat)(seen:Array Nat):Array (Option MapEntry):=
 let left:=es.filter fun e => !seen.contains e.born
 let old:=left.filter (·.born<since)
 let new:=left.filter (·.born≥since)
 (if old.isEmpty then #[none]else #[])++(old++new).map some
theorem cands_core{O N:List (AV × AV × Nat)}{O' N':List MapEntry}(o1:O.length=O'.length)(o2:∀i (h1:i<O.length) (h2:i<O'.length),EntR ψ w O[i] O'[i])(n1:N.length=N'.length)
  (n2:∀i (h1:i<N.length) (h2:i<N'.length),EntR ψ w N[i] N'[i]) (i:Nat) (hi:i<((if O.isEmpty then [none]else [])++(O++N).map some).length) :
  match ((if O.isEmpty then [none]else [])++(O++N).map some)[i],((if O.isEmpty then [none]else [])++(O'++N').map some)[i]? with
   | some a,some (some b)=>EntR ψ w a b
   | none,some none=>True
   | _,_=>False:=by
 have two:∀j (h1:j<(O++N).length),∃b,(O'++N')[j]? = some b∧EntR ψ w (O++N)[j] b:=fun j h1=>by
  by_cases hj:j<O.length
  ·exact⟨O'[j]'(by omega),by rw[List.getElem?_append_left (by omega),List.getElem?_eq_getElem],by rw[List.getElem_append_left hj];exact o2 j hj (by omega)⟩
  ·rw[List.length_append]at h1
   exact⟨N'[j-O'.length]'(by omega),by rw[List.getElem?_append_right (by omega),List.getElem?_eq_getElem],by
    rw[List.getElem_append_right (by omega)]
    have:=n2 (j-O.length) (by omega) (by omega)
    simpa only[o1]using this⟩
 by_cases hE:O.isEmpty=true
 ·simp only[hE,if_true,List.singleton_append]at hi ⊢
  cases i with
  | zero=>simp
  | succ j=>
   simp only[List.length_cons,List.length_map]at hi
   obtain⟨b,b1,b2⟩:=two j (by omega)
   simp only[List.getElem_cons_succ,List.getElem?_cons_succ,List.getElem_map,List.getElem?_map,b1,Option.map_some]
   exact b2
 ·simp only[hE,Bool.false_eq_true,if_false,List.nil_append,List.length_map]at hi ⊢
  obtain⟨b,b1,b2⟩:=two i (by omega)
  simp only[List.getElem_map,List.getElem?_map,b1,Option.map_some]
  exact b2
theorem cands_rel{es:List (AV × AV × Nat)}{es':Array MapEntry}(hl:es'.size=es.length)(hE:∀i (h:i<es.length),EntR ψ w es[i] (es'[i]'(hl▸h)))(since:Nat)(seen:List Nat) :
  (candsV es' since seen.toArray).size=(candsAV es since seen).length∧∀i (h:i<(candsAV es since seen).length),match (candsAV es since seen)[i],(candsV es' since seen.toArray)[i]? with
   | some a,some (some b)=>EntR ψ w a b
   | none,some none=>True
   | _,_=>False:=by
 have f0:=ents_filter (ψ:=ψ) (w:=w) (es:=es) (es':=es'.toList) (by simp[hl]) (fun i h1 h2=>by simpa using hE i h1)
 obtain⟨l1,l2⟩:=f0 (fun n => !seen.contains n)
 have e1:(es'.filter fun e => !seen.toArray.contains e.born).toList=es'.toList.filter fun e => !seen.contains e.born:=by simp
 obtain⟨o1,o2⟩:=ents_filter (ψ:=ψ) (w:=w) l1 l2 (fun n=>decide (n<since))
 obtain⟨n1,n2⟩:=ents_filter (ψ:=ψ) (w:=w) l1 l2 (fun n=>decide (since≤n))
 have eo:((es'.filter fun e => !seen.toArray.contains e.born).filter (fun e=>decide (e.born<since))).toList=(es'.toList.filter fun e => !seen.contains e.born).filter fun e=>decide (e.born<since):=by rw[Array.toList_filter,e1]
 have en:((es'.filter fun e => !seen.toArray.contains e.born).filter (fun e=>decide (e.born≥since))).toList=(es'.toList.filter fun e => !seen.contains e.born).filter fun e=>decide (since≤e.born):=by rw[Array.toList_filter,e1]
 have eall:(candsV es' since seen.toArray).toList=(if ((es'.toList.filter fun e => !seen.contains e.born).filter fun e=>decide (e.born<since)).isEmpty then [none]else [])++(((es'.toList.filter fun e => !seen.contains e.born).filter fun e=>decide (e.born<since))++((es'.toList.filter fun e => !seen.contains e.born).filter fun e=>decide (since≤e.born))).map some:=by
  have hemp:((es'.filter fun e => !seen.toArray.contains e.born).filter (fun e=>decide (e.born<since))).isEmpty=((es'.toList.filter fun e => !seen.contains e.born).filter fun e=>decide (e.born<since)).isEmpty:=by
   rw[←eo,Array.isEmpty_toList]
  simp only[candsV]
  rw[Array.toList_append,Array.toList_map,Array.toList_append,eo,en,hemp]
  split <;> rfl
 have hsz:(candsV es' since seen.toArray).size=(candsAV es since seen).length:=by
  rw[←Array.length_toList,eall]
  simp only[candsAV,List.length_append,List.length_map,n1,o1]
  congr 1
  have:((es.filter fun e => !seen.contains e.2.2).filter fun e=>decide (e.2.2<since)).isEmpty=((es'.toList.filter fun e => !seen.contains e.born).filter fun e=>decide (e.born<since)).isEmpty:=by
   rw[Bool.eq_iff_iff,List.isEmpty_iff_length_eq_zero,List.isEmpty_iff_length_eq_zero,o1]
  rw[this]
  split <;> rfl
 refine⟨hsz,fun i hi=>?_⟩
 have hget:(candsV es' since seen.toArray)[i]? = (candsV es' since seen.toArray).toList[i]? := by simp
 rw[hget,eall]
 have hemp:((es.filter fun e => !seen.contains e.2.2).filter fun e=>decide (e.2.2<since)).isEmpty=((es'.toList.filter fun e => !seen.contains e.born).filter fun e=>decide (e.born<since)).isEmpty:=by
  rw[Bool.eq_iff_iff,List.isEmpty_iff_length_eq_zero,List.isEmpty_iff_length_eq_zero,o1]
 simp only[candsAV]at hi ⊢
 rw[←hemp]
 exact cands_core o1 o2 n1 n2 i hi
theorem next_sound(S:Sim ψ w h){it:AV}{iv:Value}{b:Bool}{ty:TypeId}{r:AV × Hp μ}(hl:nextAV h it b=some r)(hi:VR ψ w it iv):∃u w' ψ',(Instr.next iv b ty).run P w=.ok u w'∧Ext ψ w ψ' w'∧Sim ψ' w' r.2∧VR ψ' w' r.1 u:=by
 have tup1:∀(ψ:Gh) (w:World),VR ψ w (.tup [.bool false]) (.tuple #[.bool false]):=fun ψ w=>.tup _ _ rfl fun i hi=>by simp at hi;subst hi;exact .bool false
 unfold nextAV at hl
 split at hl
 case h_2=>cases hl
 rename_i r0
 cases hi with
 | ptr _ _ B hB=>
  split at hl
  ·rename_i since0 seen0 last0 ho
   cases hl
   obtain⟨B',h1,h2,h3⟩:=S.obj r0 _ ho rfl
   have hBB:B'=B:=by rw[h1]at hB;exact Option.some.inj hB
   subst hBB
   cases h3 with
   | iter _ _ _ _ m' q1 q2 q3=>
    rw[q3 rfl]at q1
    have hg:(getObj B').run P w=.ok (.mapIter none since0 seen0.toArray last0) w:=by simp[getObj,Sem.run,q1]
    exact⟨_,w,ψ,by simp[Instr.next,hg],Ext.refl _ _,S,tup1 _ _⟩
  ·rename_i m since seen last ho
   split at hl
   case h_2=>cases hl
   rename_i es clock hm
   split at hl
   ·cases hl
   rename_i hne
   dsimp only at hl
   obtain⟨B',h1,h2,h3⟩:=S.obj r0 _ ho rfl
   have hBB:B'=B:=by rw[h1]at hB;exact Option.some.inj hB
   subst hBB
   cases h3 with
   | iter _ _ _ _ m' q1 q2 q3=>
    obtain⟨C,hC1,hC2⟩:=q2 m rfl
    subst hC1
    obtain⟨C',k1,k2,k3⟩:=S.obj m _ hm rfl
    have hCC:C'=C:=by rw[k1]at hC2;exact Option.some.inj hC2
    subst hCC
    cases k3 with
    | mp _ _ es' p1 p2 p3=>
     have hg:(getObj B').run P w=.ok (.mapIter (some C') since seen.toArray last) w:=by simp[getObj,Sem.run,q1]
     have hgm:(getObj C').run P w=.ok (.map es' clock) w:=by simp[getObj,Sem.run,p1]
     have hne':¬((!seen.toArray.isEmpty && !es'.isEmpty&&es'.all (·.born≥last))=true):=by
      intro hh
      apply hne
      simp only[Bool.and_eq_true,Bool.not_eq_true',List.isEmpty_toArray]at hh ⊢
      obtain⟨⟨a1,a2⟩,a3⟩:=hh
      refine⟨⟨a1,?_⟩,?_⟩
      ·cases es with
       | nil=>simp at p2;rw[Array.isEmpty_iff_size_eq_zero.2 (by omega)]at a2;cases a2
       | cons _ _=>rfl
      ·rw[List.all_eq_true]
       intro x hx
       obtain⟨i,hi,rfl⟩:=List.getElem_of_mem hx
       have:=(p3 i hi).2.2
       rw[Array.all_eq_true]at a3
       have:=a3 i (by omega)
       simp only[decide_eq_true_eq]at this ⊢
       omega
     obtain⟨c1,c2⟩:=cands_rel (ψ:=ψ) (w:=w) p2 p3 since seen
     have hpos:0<(candsAV es since seen).length:=by
      rcases Nat.eq_zero_or_pos (candsAV es since seen).length with h0 | h0
      ·rw[List.getElem?_eq_none (by omega)]at hl;cases hl
      ·exact h0
     obtain⟨w1,d1,d2,d3,d4⟩:=pick_sound (P:=P) S (candsAV es since seen).length hpos
     rw[←c1]at d1
     have hrun:(Instr.next (.pointer (some ⟨B',0,none⟩)) false ty).run P w=(Sem.run P (match (candsV es' since seen.toArray)[(h.pick (candsAV es since seen).length).1]? with
       | some (some e)=>do
        setObj B' (.mapIter (some C') since (seen.toArray.push e.born) clock)
        pure (.tuple #[.bool true,e.key,e.val])
       | some none=>pure (.tuple #[.bool false])
       | none => stuck "Next: no such candidate" : Sem Value) w1) := by
      simp only[Instr.next,Sem.run_bind,hg,Result.andThen_ok,hgm,hne',if_false,Bool.false_eq_true,Sem.run_pure]
      show((choose (.mapNext (candsV es' since seen.toArray).size)).run P w).andThen _=_
      rw[d1,Result.andThen_ok]
      show Sem.run P (match (candsV es' since seen.toArray)[(h.pick (candsV es' since seen.toArray).size).1]? with | some (some e)=>_ | some none=>_ | none=>_) w1=_
      rw[c1]
     generalize hn:(h.pick (candsAV es since seen).length).1=n at hl hrun
     cases hcn:(candsAV es since seen)[n]? with
     | none=>rw[hcn]at hl;cases hl
     | some ce=>
      have hlt:n<(candsAV es since seen).length:=by
       rcases Nat.lt_or_ge n (candsAV es since seen).length with h0 | h0
       ·exact h0
       ·rw[List.getElem?_eq_none h0]at hcn;cases hcn
      have hrel:=c2 n hlt
      rw[List.getElem?_eq_getElem hlt]at hcn
      rw[Option.some.inj hcn]at hrel
      rw[List.getElem?_eq_getElem hlt,Option.some.inj hcn]at hl
      cases ce with
      | none=>
       simp only at hl hrel
       cases hl
       split at hrel
       ·rename_i h0 _;cases h0
       ·rename_i hq
        rw[hq]at hrun
        exact⟨_,w1,ψ,by rw[hrun];rfl,d2,d3,tup1 _ _⟩
       ·exact hrel.elim
      | some e=>
       simp only at hl hrel
       cases hl
       split at hrel
       ·rename_i a b h0 hq
        cases h0
        rw[hq]at hrun
        have q1':w1.heap[B']? = some (.mapIter (some C') since seen.toArray last):=by rw[d4];exact q1
        obtain⟨E4,S4⟩:=setObj_sound d3 (x:=.iter (some m) since (seen++[e.2.2]) clock) h1 h2 (by rw[q1'];intro h;cases h) (OnlyAt.setObj w1 B' (.mapIter (some C') since (seen.toArray.push b.born) clock))
         fun E=>.iter (some m) since (seen++[e.2.2]) clock (some C') (by rw[set_at q1'];rw[hrel.2.2];simp) (fun o h=>by cases h;exact⟨_,rfl,k1⟩) (fun h=>by cases h)
        have E:=d2.trans E4
        refine⟨.tuple #[.bool true,b.key,b.val],_,ψ,?_,E,S4,.tup _ _ rfl fun i hi=>?_⟩
        ·rw[hrun]
         simp[setObj,Sem.run,q1']
        ·simp at hi
         match i,hi with
         | 0,_=>exact .bool true
         | 1,_=>exact hrel.1.mono E
         | 2,_=>exact hrel.2.1.mono E
       ·rename_i h0 _;cases h0
       ·exact hrel.elim
  ·cases hl
theorem entry_sound(S:Sim ψ w h){it:AV}{iv:Value}{r:AV}(hl:entryAV h it=some r)(hi:VR ψ w it iv):∃u,(Instr.entry iv).run P w=.ok u w∧VR ψ w r u:=by
 unfold entryAV at hl
 split at hl
 case h_2=>cases hl
 rename_i r0
 cases hi with
 | ptr _ _ B hB=>
  split at hl
  case h_2=>cases hl
  rename_i m since seen stepped ho
  simp only[Option.bind_eq_some_iff]at hl
  obtain⟨stamp,hst,hl⟩:=hl
  split at hl
  case h_2=>cases hl
  rename_i es clock hm
  split at hl
  case isFalse=>cases hl
  rename_i hck
  simp only[Option.map_eq_some_iff]at hl
  obtain⟨e,he,rfl⟩:=hl
  obtain⟨B',h1,h2,h3⟩:=S.obj r0 _ ho rfl
  have hBB:B'=B:=by rw[h1]at hB;exact Option.some.inj hB
  subst hBB
  cases h3 with
  | iter _ _ _ _ m' q1 q2 q3=>
   obtain⟨C,hC1,hC2⟩:=q2 m rfl
   subst hC1
   obtain⟨C',k1,k2,k3⟩:=S.obj m _ hm rfl
   have hCC:C'=C:=by rw[k1]at hC2;exact Option.some.inj hC2
   subst hCC
   cases k3 with
   | mp _ _ es' p1 p2 p3=>
    have hg:(getObj B').run P w=.ok (.mapIter (some C') since seen.toArray stepped) w:=by simp[getObj,Sem.run,q1]
    have hgm:(getObj C').run P w=.ok (.map es' clock) w:=by simp[getObj,Sem.run,p1]
    have hfind:∃e',es'.find? (·.born == stamp)=some e'∧EntR ψ w e e':=by
     rw[←Array.find?_toList]
     have hl':es.length=es'.toList.length:=by simp[p2]
     have hE':∀i (h1:i<es.length) (h2:i<es'.toList.length),EntR ψ w es[i] es'.toList[i]:=fun i h1 h2=>by simpa using p3 i h1
     generalize es'.toList=L at hl' hE'
     clear p1 p2 p3 hm hgm k1 k2 hC2 q2
     induction es generalizing L with
     | nil=>simp at he
     | cons a es ih=>
      cases L with
      | nil=>simp at hl'
      | cons b L=>
       have h0:=hE' 0 (by simp) (by simp)
       simp only[List.getElem_cons_zero]at h0
       have hb:b.born=a.2.2:=h0.2.2
       by_cases hp:a.2.2=stamp
       ·simp only[List.find?_cons,hp,decide_true]at he
        cases he
        exact⟨b,by simp[List.find?_cons,hb,hp],h0⟩
       ·simp only[List.find?_cons,hp,decide_false]at he
        obtain⟨e',e1,e2⟩:=ih he L (by simpa using hl') (fun i k1 k2=>by have:=hE' (i+1) (by simpa using k1) (by simpa using k2);simpa only[List.getElem_cons_succ]using this)
        refine⟨e',?_,e2⟩
        have:(b.born == stamp)=false:=by rw[hb];simpa using hp
        simp only[List.find?_cons,this]
        exact e1
    obtain⟨e',e1,e2⟩:=hfind
    have hback:seen.toArray.back? = some stamp:=by rw[List.back?_toArray];exact hst
    refine⟨.tuple #[e'.key,e'.val],?_,.tup _ _ rfl fun i hi=>?_⟩
    ·simp[Instr.entry,hg,hback,hgm,hck,e1]
    ·simp at hi
     match i,hi with
     | 0,_=>exact e2.1
     | 1,_=>exact e2.2.1
theorem lenMap_sound(S:Sim ψ w h){ts:Array TypeId}{t ty:TypeId}{o:Nat}{xv:Value}{r:AV}(h0:ts[0]? = some t)(hl:lenMapAV P h t o=some r)(hx:VR ψ w (.mp o) xv):∃u,(Builtin.len_ ts ty #[xv]).run P w=.ok u w∧VR ψ w r u:=by
 unfold lenMapAV at hl
 split at hl
 case h_2=>cases hl
 rename_i kt et es clock hu ho
 cases hl
 cases hx with
 | mp _ B hB=>
  obtain⟨B',h1,h2,h3⟩:=S.obj o _ ho rfl
  have hBB:B'=B:=by rw[h1]at hB;exact Option.some.inj hB
  subst hBB
  cases h3 with
  | mp _ _ es' p1 p2 p3=>
   have hgm:(getObj B').run P w=.ok (.map es' clock) w:=by simp[getObj,Sem.run,p1]
   refine⟨goInt es'.size,by simp[Builtin.len_,h0,underlying_run hu,hgm],?_⟩
   rw[p2];exact .int _ _
theorem row1 : Extern.allNextRows.lookup "internal/bytealg.IndexByteString" = none := by kernel_rfl
theorem row2 : Extern.allGenericRows.lookup "internal/bytealg.IndexByteString" = none := by kernel_rfl
theorem row3 : Extern.allTypedRows.lookup "internal/bytealg.IndexByteString" = none := by kernel_rfl
theorem row4 : Extern.allRows.lookup "internal/bytealg.IndexByteString" = some Extern.BytealgIndexByte.indexByte := by kernel_rfl
theorem row5 : Extern.allNextRows.lookup "slices.overlaps" = none := by kernel_rfl
theorem row6 : Extern.allGenericRows.lookup "slices.overlaps" = none := by kernel_rfl
theorem row7 : Extern.allTypedRows.lookup "slices.overlaps" = some Extern.SlicesOverlaps.overlaps := by kernel_rfl
theorem idxByte_eq(c:UInt8):∀s:List UInt8,idxByte s c=Lib.indexByte s c
 | []=>rfl
 | a::s=>by
  have ih:=idxByte_eq c s
  unfold idxByte at ih ⊢
  rw[List.findIdx?_cons,Lib.indexByte,←ih]
  by_cases h:(a == c)=true
  ·simp[h]
  ·simp only[h,Bool.false_eq_true,if_false]
   cases s.findIdx? (· == c)with
   | none=>rfl
   | some i=>simp
theorem overlaps_eq(params results:Array TypeId)(a b:Option Addr)(la ca lb cb:Nat):Extern.SlicesOverlaps.overlaps params results #[.slice a la ca,.slice b lb cb]=(do
  let some t := params[0]? | stuck "slices.overlaps: no parameter types"
  let .slice elem ← underlying t | stuck "slices.overlaps: slice type expected"
  let size ←sizeOf elem
  match a,b with
  | some a,some b=>
   if la=0∨lb=0∨size=0 then pure (Value.bool false)
   else if a.block != b.block&&(←frozen a)&&(←frozen b)then unsupported .addressObserved
   else do
    if a.block != b.block then do
     Go.noView a;Go.noView b
     if ← mayBeOne a b then return Value.bool ((← choose (.extern "sameAddr.stringBytes" 2)) == 1)
    pure (Value.bool (a.block == b.block&&a.off<b.off+lb*size&&b.off<a.off+la*size))
  | _,_=>pure (Value.bool false)):=rfl
theorem overlaps_sound(S:Sim ψ w h){params results:Array TypeId}{t e:TypeId}{sz:Nat}(hp:params[0]? = some t)(hu:P.underlying t=some (.slice e))(hs:tsize P e=some sz){a b:AV}{av bv:Value}{r:Bool}(hl:overlapsAV h a b=some r)
  (hsz:∀o off sz' ag n c,a=.rs o off sz' ag n c→sz'=sz) (ha:VR ψ w a av) (hb:VR ψ w b bv):(Extern.SlicesOverlaps.overlaps params results #[av,bv]).run P w=.ok (.bool r) w:=by
 unfold overlapsAV at hl
 split at hl
 ·cases hl;cases ha;cases hb;simp[overlaps_eq,hp,underlying_run hu,tsize_run hs]
 ·cases hl;cases ha;cases hb;simp[overlaps_eq,hp,underlying_run hu,tsize_run hs]
 ·cases hl;cases ha;cases hb;simp[overlaps_eq,hp,underlying_run hu,tsize_run hs]
 ·rename_i o off sz1 ag n c o' off' sz2 ag' n' c'
  have h1:=hsz o off sz1 ag n c rfl
  subst h1
  cases ha with
  | rs _ _ _ _ _ _ B hB hn=>
   cases hb with
   | rs _ _ _ _ _ _ B' hB' hn'=>
    by_cases h0:n=0∨n'=0
    ·rw[if_pos h0]at hl;cases hl
     have h0':n=0∨n'=0∨sz1=0:=by omega
     simp[overlaps_eq,hp,underlying_run hu,tsize_run hs,h0']
    rw[if_neg h0]at hl
    by_cases h2:sz1≠sz2∨sz1=0
    ·rw[if_pos h2]at hl;cases hl
    rw[if_neg h2]at hl
    simp only[not_or,Decidable.not_not]at h2
    obtain⟨rfl,h3⟩:=h2
    have h0':¬(n=0∨n'=0∨sz1=0):=by omega
    by_cases ho:o=o'
    ·rw[if_pos ho]at hl
     subst ho
     rw[hB]at hB';cases hB'
     cases hl
     simp[overlaps_eq,hp,underlying_run hu,tsize_run hs,h0']
    ·rw[if_neg ho]at hl
     split at hl
     ·rename_i cs cs' hc hc'
      split at hl
      ·cases hl
      rename_i hne
      cases hl
      obtain⟨C,c1,t1,q1,q2,q3,q4⟩:=S.rowp o cs hc
      obtain⟨C',c2,t2,p1,p2,p3,p4⟩:=S.rowp o' cs' hc'
      rw[q1]at hB;cases hB
      rw[p1]at hB';cases hB'
      have hBB:B≠B':=fun he=>by rw[he,p2]at q2;cases q2;exact ho rfl
      have hnb:(B != B')=true:=by simpa using hBB
      have hnb':(B == B')=false:=by simpa using hBB
      have f1:w.frozen? ⟨B,off,none⟩=false:=by simp[World.frozen?,q3]
      have f2:w.frozen? ⟨B,c1.size,none⟩=false:=by simp[World.frozen?,q3]
      have s1:w.shape? B=some (t1,c1.size):=by simp[World.shape?,q3]
      have s2:w.shape? B'=some (t2,c2.size):=by simp[World.shape?,p3]
      have hc2:c2.size≠0:=by omega
      obtain⟨k,hk⟩:=Nat.exists_eq_succ_of_ne_zero hc2
      rw[hk]at s2
      simp[overlaps_eq,hp,underlying_run hu,tsize_run hs,h0',hnb,hnb',frozen,Go.noView,viewAt,mayBeOne,stringish,shape,Sem.run,s1,s2,f1,f2]
     ·cases hl
 ·cases hl
theorem extern_sound(S:Sim ψ w h){g:Nat}{args:List AV}{av:Array Value}{r:AV}(hl:externAV P h g args=some r)(ha:VRs ψ w args av):∃u,(callFunc g av).run P w=.ok (.value u) w∧VR ψ w r u:=by
 unfold externAV at hl
 cases hf:P.funcs[g]? with
 | none=>rw[hf]at hl;cases hl
 | some fn=>
  rw[hf]at hl
  simp only at hl
  split at hl
  ·cases hl
  rename_i hnb
  simp only[Bool.or_eq_true,not_or,Bool.not_eq_true]at hnb
  obtain⟨n1,n2⟩:=hnb
  have hbn:fn.body.isNone=true:=by cases hb:fn.body <;> simp[hb]at n1 ⊢
  obtain⟨hs,hv⟩:=ha
  have run:∀(e:Array Value→Sem Value),Extern.findNext fn=none→Extern.find fn=some e→∀u,(e av).run P w=.ok u w→(callFunc g av).run P w=.ok (.value u) w:=fun e h1 h2 u h3=>by
   simp only[callFunc,Sem.run_bind,run_program,Result.andThen_ok,hf,n2,hbn,Bool.false_eq_true,if_false,if_true,h1,h2]
   simp[mark,Sem.run,h3]
  split at hl
  ·rename_i hname
   split at hl
   ·cases hl
   rename_i hor
   have hor':Extern.allNextRows.lookup fn.origin=none:=by
    cases hq:Extern.allNextRows.lookup fn.origin with
    | none=>rfl
    | some _=>rw[hq]at hor;simp at hor
   split at hl
   ·rename_i s c
    cases hl
    obtain⟨av⟩:=av
    match av,hs with
    | [xv,yv],_=>
     have h0:=hv 0 (by simp)
     have h1:=hv 1 (by simp)
     simp only[List.getElem_cons_zero,List.getElem_cons_succ,List.getElem_toArray]at h0 h1
     cases h0;cases h1
     refine⟨_,run Extern.BytealgIndexByte.indexByte ?_ ?_ _ (Lib.run_indexByteString _ _ _),?_⟩
     ·simp only[Extern.findNext,hname,row1,hor'];rfl
     ·simp only[Extern.find,hname,row2,row3,row4];rfl
     ·rw[idxByte_eq]
      exact .int _ _
   ·cases hl
  ·rename_i hname
   split at hl
   ·rename_i hov
    obtain⟨ho,hrow⟩:=hov
    simp only[noRow,Bool.and_eq_true,Option.isNone_iff_eq_none]at hrow
    obtain⟨⟨⟨w1,w2⟩,w3⟩,w4⟩:=hrow
    split at hl
    ·rename_i a b t hpar
     split at hl
     ·rename_i e hu
      cases hsz:tsize P e with
      | none=>rw[hsz]at hl;cases hl
      | some sz=>
       rw[hsz]at hl
       simp only[Option.bind_some]at hl
       obtain⟨av⟩:=av
       match av,hs with
       | [xv,yv],_=>
        have h0:=hv 0 (by simp)
        have h1:=hv 1 (by simp)
        simp only[List.getElem_cons_zero,List.getElem_cons_succ,List.getElem_toArray]at h0 h1
        have fin:∀q,overlapsAV h a b=some q→(∀o off sz' ag n c,a=.rs o off sz' ag n c→sz'=sz)→r=.bool q→∃u,(callFunc g #[xv,yv]).run P w=.ok (.value u) w∧VR ψ w r u:=by
         rintro q hq hs' rfl
         refine⟨.bool q,run (Extern.SlicesOverlaps.overlaps fn.params fn.resultTypes) ?_ ?_ _ (overlaps_sound S hpar hu hsz hq hs' h0 h1),.bool q⟩
         ·simp only[Extern.findNext,ho,w4,row5];rfl
         ·simp only[Extern.find,ho,w1,w2,w3,row6,row7];rfl
        split at hl
        ·cases hl
        ·rename_i hcond
         simp only[Option.map_eq_some_iff]at hl
         obtain⟨q,hq,rfl⟩:=hl
         refine fin q hq (fun o off sz' ag n c he=>?_) rfl
         subst he
         simpa[rsSz]using hcond
     ·cases hl
    ·cases hl
   ·cases hl
end
end Go.Vn

/- The value machine: every operation that it does, the model does. No condition. -/
namespace Go.Vn
section
variable {μ:Type→Type} [Mp μ] {P:Program}
variable {ψ:Gh} {w:World} {h:Hp μ}
def EffR(P:Program)(ψ:Gh)(w:World):Eff μ→Result Next→Prop
 | .val v h',r=>∃u w' ψ',r=.ok (.value u) w'∧Ext ψ w ψ' w'∧Sim ψ' w' h'∧VR ψ' w' v u
 | .skip h',r=>∃w' ψ',r=.ok .skip w'∧Ext ψ w ψ' w'∧Sim ψ' w' h'
 | .enter (.func f) args h',r=>∃vs,r=.ok (.enter f vs) w∧Sim ψ w h'∧VRs ψ w args vs∧hasBody P f=true
 | .enter (.yield o) args h',r=>∃vs B,r=(Instr.yield B vs).run P w∧ψ.obj o=some B∧Sim ψ w h'∧VRs ψ w args vs
theorem VRs_map{ρ:Operand→AV}{ρ':Operand→Value}{xs:Array Operand}(hv:∀x∈xs,VR ψ w (ρ x) (ρ' x)):VRs ψ w (xs.toList.map ρ) (xs.map ρ'):=
 ⟨by simp,fun i hi=>by
  simp only[List.getElem_map,Array.getElem_toList,Array.getElem_map]
  exact hv _ (Array.getElem_mem _)⟩
theorem VRs_append{a b:List AV}{x y:Array Value}(ha:VRs ψ w a x)(hb:VRs ψ w b y):VRs ψ w (a++b) (x++y):=by
 obtain⟨h1,h2⟩:=ha
 obtain⟨h3,h4⟩:=hb
 refine⟨by simp[h1,h3],fun i hi=>?_⟩
 rw[List.length_append]at hi
 by_cases hlt:i<a.length
 ·rw[List.getElem_append_left hlt,Array.getElem_append_left (by omega)]
  exact h2 i hlt
 ·rw[List.getElem_append_right (by omega),Array.getElem_append_right (by omega)]
  simp only[h1]
  exact h4 _ (by omega)
omit [Mp μ]in
theorem vals_inv{v:Option AV}{e:Eff μ}(hl:vals h v=some e):∃r,v=some r∧e=.val r h:=by
 cases v with
 | none=>cases hl
 | some r=>cases hl;exact⟨r,rfl,rfl⟩
omit [Mp μ]in
theorem valh_inv{v:Option (AV × Hp μ)}{e:Eff μ}(hl:valh v=some e):∃r,v=some r∧e=.val r.1 r.2:=by
 cases v with
 | none=>cases hl
 | some r=>cases hl;exact⟨r,rfl,rfl⟩
theorem eff_pure(S:Sim ψ w h){r:AV}{s:Sem Value}(hs:∃u,s.run P w=.ok u w∧VR ψ w r u):EffR P ψ w (.val r h) ((do pure (.value (←s)):Sem Next).run P w):=by
 obtain⟨u,h1,h2⟩:=hs
 exact⟨u,w,ψ,by simp only[Sem.run_bind,h1,Result.andThen_ok,Sem.run_pure],Ext.refl _ _,S,h2⟩
theorem eff_heap{r:AV × Hp μ}{s:Sem Value}(hs:∃u w' ψ',s.run P w=.ok u w'∧Ext ψ w ψ' w'∧Sim ψ' w' r.2∧VR ψ' w' r.1 u):EffR P ψ w (.val r.1 r.2) ((do pure (.value (←s)):Sem Next).run P w):=by
 obtain⟨u,w',ψ',h1,h2,h3,h4⟩:=hs
 exact⟨u,w',ψ',by simp only[Sem.run_bind,h1,Result.andThen_ok,Sem.run_pure],h2,h3,h4⟩
theorem callFunc_run{f:Nat}(hb:hasBody P f=true)(args:Array Value)(w:World):(callFunc f args).run P w=.ok (.enter f args) w:=by
 unfold hasBody at hb
 cases hf:P.funcs[f]? with
 | none=>rw[hf]at hb;cases hb
 | some fn=>
  rw[hf]at hb
  simp only[Bool.and_eq_true,bne_iff_ne]at hb
  have h1 : (fn.name == "runtime.NumGoroutine") = false := by simpa using hb.2
  have h2:fn.body.isNone=false:=by
   cases hbd:fn.body with
   | none=>rw[hbd]at hb;simp at hb
   | some c=>rfl
  simp only[callFunc,Sem.run_bind,run_program,Result.andThen_ok,hf,h1,h2,Bool.false_eq_true,if_false,Sem.run_pure]
theorem enter_sound(S:Sim ψ w h){f:AV}{fv:Value}{args:List AV}{av:Array Value}{e:Eff μ}(hl:enterFn P h f args=some e)(hf:VR ψ w f fv)(ha:VRs ψ w args av) :
  EffR P ψ w e ((do let d ←Deferred.ofValue fv av;invoke d.target d.args:Sem Next).run P w):=by
 unfold enterFn at hl
 split at hl
 ·rename_i g first cap
  split at hl
  ·rename_i hb
   cases hl
   cases hf with
   | fn f a b x y hx hy hxa hyb=>
    refine⟨x++av++y,?_,S,VRs_append (VRs_append ⟨hx,hxa⟩ ha) ⟨hy,hyb⟩,hb⟩
    simp only[Deferred.ofValue,Sem.run_bind,Sem.run_pure,Result.andThen_ok,invoke]
    exact callFunc_run hb _ _
  ·simp only[Option.map_eq_some_iff]at hl
   obtain⟨r,hr,rfl⟩:=hl
   cases hf with
   | fn f a b x y hx hy hxa hyb=>
    obtain⟨u,u1,u2⟩:=extern_sound S hr (VRs_append (VRs_append ⟨hx,hxa⟩ ha) ⟨hy,hyb⟩)
    refine⟨u,w,ψ,?_,Ext.refl _ _,S,u2⟩
    simp only[Deferred.ofValue,Sem.run_bind,Sem.run_pure,Result.andThen_ok,invoke]
    exact u1
 ·cases hl
  cases hf with
  | yl o B ho=>
   refine⟨av,B,?_,ho,S,ha⟩
   simp only[Deferred.ofValue,Sem.run_bind,Sem.run_pure,Result.andThen_ok,invoke,Array.empty_append]
 ·cases hl
theorem method_sound{t:TypeId}{v:AV}{vv:Value}{name:String}{f:Nat}{r:AV}(hl:methodAV P t v name=some (f,r))(hv:VR ψ w v vv)(n:Nat):(method (n+1) t vv name).run P w=.ok (f,vv) w∧VR ψ w r vv:=by
 unfold methodAV at hl
 cases hi:P.info? t with
 | none=>rw[hi]at hl;cases hl
 | some i=>
  rw[hi]at hl
  simp only[Option.bind_some]at hl
  cases hm:i.methods.find? (·.name == name)with
  | none=>rw[hm]at hl;cases hl
  | some m=>
   rw[hm]at hl
   simp only[Option.bind_some]at hl
   by_cases hp:m.path.isEmpty=true
   ·rw[if_pos hp]at hl
    have hp':m.path.toList=[]:=by simpa using hp
    cases hfn:m.func with
    | none=>rw[hfn]at hl;cases hl
    | some q=>
     obtain⟨g,pr⟩:=q
     rw[hfn]at hl
     simp only[Option.bind_some]at hl
     have base : ∀ R : Sem Value, R.run P w = .ok vv w → receiverAt t (.val vv) pr (some ((name.splitOn ".").getLastD name)) = R → (method (n + 1) t vv name).run P w = .ok (g, vv) w := fun R h1 h2 => by
      simp only[method,Sem.run_bind,typeInfo_run hi,Result.andThen_ok,hm,hp',follow,Sem.run_pure,hfn,hp,if_true,h2,h1]
     cases hu:P.underlying t with
     | none=>rw[hu]at hl;cases hl
     | some d=>
      rw[hu]at hl
      have hrun : ∀ (hok : (∃ e, d = .pointer e) → pr = true) (hok2 : pr = true → ∃ e, d = .pointer e), (receiverAt t (.val vv) pr (some ((name.splitOn ".").getLastD name))).run P w = .ok vv w := fun hok hok2 => by
       cases pr with
       | true=>
        obtain⟨e,rfl⟩:=hok2 rfl
        simp only[receiverAt,Sem.run_bind,underlying_run hu,Result.andThen_ok,Place.get,Sem.run_pure]
       | false=>
        cases d <;> first | (exact absurd (hok ⟨_,rfl⟩) (by decide)) | simp only[receiverAt,Sem.run_bind,underlying_run hu,Result.andThen_ok,Place.get,Sem.run_pure]
      have fin:(g,v)=(f,r)→((∃e,d=.pointer e)→pr=true)→(pr=true→∃e,d=.pointer e)→(method (n+1) t vv name).run P w=.ok (f,vv) w∧VR ψ w r vv:=fun he h1 h2=>by
       cases he
       exact⟨base _ (hrun h1 h2) rfl,hv⟩
      cases pr with
      | true=>
       cases d <;> simp only at hl <;> first | (cases hl;done) | skip
       rename_i e
       exact fin (Option.some.inj hl) (fun _=>rfl) (fun _=>⟨e,rfl⟩)
      | false=>
       cases d <;> simp only at hl <;> first | (cases hl;done) | exact fin (Option.some.inj hl) (fun⟨e,h⟩=>by cases h) (fun h=>by cases h)
   ·rw[if_neg hp]at hl;cases hl
theorem invoke_sound(S:Sim ψ w h){x:AV}{xv:Value}{name:String}{args:List AV}{av:Array Value}{e:Eff μ}(hl:invokeFn P h x name args=some e)(hx:VR ψ w x xv)(ha:VRs ψ w args av) :
  EffR P ψ w e ((invoke (.fn (.method name) #[]) (#[xv]++av)).run P w):=by
 unfold invokeFn at hl
 split at hl
 ·rename_i t v
  cases hx with
  | ifc t v vv hv=>
   cases hm:methodAV P t v name with
   | none=>rw[hm]at hl;cases hl
   | some q=>
    rw[hm]at hl
    simp only[Option.bind_some]at hl
    split at hl
    ·rename_i hb
     cases hl
     obtain⟨f,r⟩:=q
     obtain⟨m1,m2⟩:=method_sound (P:=P) (w:=w) hm hv (P.types.size+99)
     refine⟨#[vv]++av,?_,S,?_,hb⟩
     ·have e0:(#[Value.iface t vv]++av)[0]? = some (.iface t vv):=by rw[Array.getElem?_append_left (by simp)];rfl
      have e1:(#[Value.iface t vv]++av).extract 1 (#[Value.iface t vv]++av).size=av:=by
       first | (simp;done) | (apply Array.toList_inj.1;simp[Array.toList_extract];done) | (obtain⟨l⟩:=av;simp;done)| (obtain⟨l⟩:=av;apply Array.toList_inj.1;simp[Array.toList_extract];done)
      simp only[invoke,e0,e1,callMethod,Sem.run_bind,run_program,Result.andThen_ok,Sem.run_pure]
      rw[show P.types.size+Made.depth=P.types.size+99+1 from rfl,m1]
      simp only[Result.andThen_ok]
      exact callFunc_run hb _ _
     ·exact VRs_append (a:=[r]) (x := #[vv]) ⟨rfl,fun i hi=>by simp at hi;subst hi;exact m2⟩ ha
    ·cases hl
 ·cases hl
theorem optmap_VRo{ρ:Operand→AV}{ρ':Operand→Value}{x:Option Operand}(hv:∀q,x=some q→VR ψ w (ρ q) (ρ' q)):VRo ψ w (x.map ρ) (x.map ρ'):=by
 cases x with
 | none=>trivial
 | some q=>exact hv q rfl
theorem op_sound(S:Sim ψ w h){ρ:Operand→AV}{ρ':Operand→Value}{o:Oper}{e:Eff μ}(hl:opEff P ρ h o=some e)(hv:∀x∈o.op.operands,VR ψ w (ρ x) (ρ' x)):EffR P ψ w e ((execOp ρ' o).run P w):=by
 unfold opEff at hl
 unfold execOp
 split at hl <;> (try (cases hl;done)) <;> rename_i heq <;> rw[heq]at hv ⊢ <;> simp only[Op.operands]at hv <;> simp only
 ·cases hl;exact⟨_,w,ψ,rfl,Ext.refl _ _,S,hv _ (by simp)⟩
 ·cases hl;exact⟨_,w,ψ,rfl,Ext.refl _ _,S,hv _ (by simp)⟩
 ·rename_i c a b
  split at hl
  ·rename_i q hq
   cases hl
   have hc:=hv c (by simp)
   rw[hq]at hc
   generalize hcv:ρ' c=cv at hc
   cases hc
   refine⟨if q then ρ' a else ρ' b,w,ψ,by simp[asBool],Ext.refl _ _,S,?_⟩
   cases q
   ·exact hv b (by simp)
   ·exact hv a (by simp)
  ·cases hl
 ·rename_i t
  cases hz:tzero P t with
  | none=>rw[hz]at hl;cases hl
  | some z=>
   rw[hz]at hl
   simp only[Option.bind_some]at hl
   split at hl
   ·rename_i hc
    obtain⟨r,hr,rfl⟩:=valh_inv hl
    cases hr
    obtain⟨zv,hzr,hze⟩:=tzero_run hz w
    have hzz:VRs ψ w z.cells zv.cells:=VR_zero hze hc
    obtain⟨ψ',E,S',V⟩:=newRow_sound S (cs:=z.cells) (c:=zv.cells) (e:=t) ⟨by rw[hzz.1];exact Nat.le_refl _,fun i hi=>⟨zv.cells[i]'(by rw[hzz.1];exact hi),by rw[Array.getElem?_eq_getElem],hzz.2 i hi⟩⟩ (fun x hx=>List.all_eq_true.1 hc x hx) (Pushed.alloc w _)
    refine eff_heap ⟨_,_,ψ',?_,E,S',V⟩
    simp only[Instr.alloc,Sem.run_bind,hzr,Result.andThen_ok,newVar,newRow,run_newObj,Sem.run_pure]
    rfl
   ·cases hl
 ·rename_i t x
  split at hl
  ·rename_i hc
   obtain⟨r,hr,rfl⟩:=valh_inv hl
   cases hr
   have hzz:=(cells_rel (hv x (by simp)) hc).1
   obtain⟨ψ',E,S',V⟩:=newRow_sound S (cs:=(ρ x).cells) (c:=(ρ' x).cells) (e:=t) ⟨by rw[hzz.1];exact Nat.le_refl _,fun i hi=>⟨(ρ' x).cells[i]'(by rw[hzz.1];exact hi),by rw[Array.getElem?_eq_getElem],hzz.2 i hi⟩⟩ (fun x hx=>List.all_eq_true.1 hc x hx) (Pushed.alloc w _)
   refine eff_heap ⟨_,_,ψ',?_,E,S',V⟩
   simp only[Instr.box,Sem.run_bind,newVar,newRow,run_newObj,Result.andThen_ok,Sem.run_pure]
   rfl
  ·cases hl
 ·rename_i t parts
  obtain⟨r,hr,rfl⟩:=vals_inv hl
  obtain⟨h1,h2⟩:=parts_rel (ψ:=ψ) (w:=w) (ρ:=ρ) (ρ':=ρ') parts (fun x hx=>hv x (by simpa using hx))
  exact eff_pure S (build_sound (lv:=parts.map fun(q:Nat × Operand)=>(q.1,ρ' q.2)) hr h1 h2)
 ·rename_i t len parts
  obtain⟨r,hr,rfl⟩:=valh_inv hl
  obtain⟨h1,h2⟩:=parts_rel (ψ:=ψ) (w:=w) (ρ:=ρ) (ρ':=ρ') parts (fun x hx=>hv x (by simpa using hx))
  exact eff_heap (buildSlice_sound S (lv:=parts.map fun(q:Nat × Operand)=>(q.1,ρ' q.2)) hr h1 h2)
 ·rename_i t a
  obtain⟨r,hr,rfl⟩:=vals_inv hl
  exact eff_pure S (load_sound S hr (hv a (by simp)))
 ·rename_i t a x
  cases hst:storeAV P h t (ρ a) (ρ x)with
  | none=>rw[hst]at hl;cases hl
  | some h'=>
   rw[hst]at hl;cases hl
   obtain⟨w',h1,h2,h3⟩:=store_sound S hst (hv a (by simp)) (hv x (by simp))
   exact⟨w',ψ,by simp only[Sem.run_bind,h1,Result.andThen_ok,Sem.run_pure],h2,h3⟩
 ·rename_i x
  have hx:=hv x (by simp)
  split at hl
  ·rename_i a b hq
   cases hl
   rw[hq]at hx
   generalize ρ' x=xv at hx
   cases hx
   rename_i B ho
   exact⟨_,w,ψ,rfl,Ext.refl _ _,S,.ptr _ _ B ho⟩
  ·rename_i a b hq
   cases hl
   rw[hq]at hx
   generalize ρ' x=xv at hx
   have hx0:=hx
   cases hx
   exact⟨_,w,ψ,rfl,Ext.refl _ _,S,hx0⟩
  ·rename_i f a b hq
   cases hl
   rw[hq]at hx
   generalize ρ' x=xv at hx
   have hx0:=hx
   cases hx
   exact⟨_,w,ψ,rfl,Ext.refl _ _,S,hx0⟩
  ·rename_i o hq
   cases hl
   rw[hq]at hx
   generalize ρ' x=xv at hx
   have hx0:=hx
   cases hx
   exact⟨_,w,ψ,rfl,Ext.refl _ _,S,hx0⟩
  ·rename_i t v hq
   cases hl
   rw[hq]at hx
   generalize ρ' x=xv at hx
   have hx0:=hx
   cases hx
   exact⟨_,w,ψ,rfl,Ext.refl _ _,S,hx0⟩
  ·cases hl
 ·rename_i op t x y yt
  obtain⟨r,hr,rfl⟩:=vals_inv hl
  exact eff_pure S (binH_sound S hr (hv x (by simp)) (hv y (by simp)))
 ·rename_i op t x
  obtain⟨r,hr,rfl⟩:=vals_inv hl
  exact eff_pure S (un_sound hr (hv x (by simp)))
 ·rename_i s d x
  obtain⟨r,hr,rfl⟩:=valh_inv hl
  exact eff_heap (conv_sound S hr (hv x (by simp)))
 ·rename_i t x
  split at hl
  ·cases hl
  ·rename_i d hd hu
   cases hl
   refine eff_pure S ⟨.iface t (ρ' x),?_,.ifc t _ _ (hv x (by simp))⟩
   simp only[Instr.makeInterface,Sem.run_bind,underlying_run hu,Result.andThen_ok]
   cases d <;> first | rfl | exact absurd rfl (hd _)
  ·cases hl
 ·rename_i f a b
  cases hl
  have ha:=VRs_map (ρ:=ρ) (ρ':=ρ') (xs:=a) (fun x hx=>hv x (by simp[hx]))
  have hb:=VRs_map (ρ:=ρ) (ρ':=ρ') (xs:=b) (fun x hx=>hv x (by simp[hx]))
  exact eff_pure S ⟨_,rfl,.fn f _ _ _ _ ha.1 hb.1 ha.2 hb.2⟩
 ·rename_i t l c
  obtain⟨r,hr,rfl⟩:=valh_inv hl
  exact eff_heap (makeSlice_sound S hr (hv l (by simp)) (hv c (by simp)))
 ·rename_i t x l u m
  obtain⟨r,hr,rfl⟩:=vals_inv hl
  exact eff_pure S (slice_sound hr (hv x (by simp)) (optmap_VRo fun q hq=>hv q (by subst hq;simp)) (optmap_VRo fun q hq=>hv q (by subst hq;simp)) (optmap_VRo fun q hq=>hv q (by subst hq;simp)))
 ·rename_i s x f
  obtain⟨r,hr,rfl⟩:=vals_inv hl
  exact eff_pure S (fieldAddr_sound hr (hv x (by simp)))
 ·rename_i s x f
  obtain⟨r,hr,rfl⟩:=vals_inv hl
  exact eff_pure S (field_sound hr (hv x (by simp)))
 ·rename_i t x i
  obtain⟨r,hr,rfl⟩:=vals_inv hl
  exact eff_pure S (indexAddr_sound hr (hv x (by simp)) (hv i (by simp)))
 ·rename_i t x i
  obtain⟨r,hr,rfl⟩:=vals_inv hl
  exact eff_pure S (index_sound hr (hv x (by simp)) (hv i (by simp)))
 ·rename_i x i
  obtain⟨r,hr,rfl⟩:=vals_inv hl
  refine eff_pure S ?_
  have hx:=hv x (by simp)
  generalize ρ' x=xv at hx
  unfold extractAV at hr
  split at hr
  ·rename_i vs hq
   rw[hq]at hx
   cases hx
   rename_i y hy hyv
   have hi:i<vs.length:=by
    rcases Nat.lt_or_ge i vs.length with h1 | h1
    ·exact h1
    ·rw[List.getElem?_eq_none h1]at hr;cases hr
   rw[List.getElem?_eq_getElem hi]at hr
   cases hr
   refine⟨y[i]'(by omega),?_,hyv i hi⟩
   simp only[Instr.extract]
   rw[Array.getElem?_eq_getElem (by omega)]
   rfl
  ·cases hr
 ·rename_i t r0
  obtain⟨r,hr,rfl⟩:=valh_inv hl
  exact eff_heap (makeMap_sound S hr (optmap_VRo fun q hq=>hv q (by subst hq;simp)))
 ·rename_i t x i ok
  obtain⟨r,hr,rfl⟩:=vals_inv hl
  exact eff_pure S (lookup_sound S hr (hv x (by simp)) (hv i (by simp)))
 ·rename_i t m k x
  cases hst:mapUpdateAV P h t (ρ m) (ρ k) (ρ x)with
  | none=>rw[hst]at hl;cases hl
  | some h'=>
   rw[hst]at hl;cases hl
   obtain⟨w',h1,h2,h3⟩:=mapUpdate_sound S hst (hv m (by simp)) (hv k (by simp)) (hv x (by simp))
   exact⟨w',ψ,by simp only[Sem.run_bind,h1,Result.andThen_ok,Sem.run_pure],h2,h3⟩
 ·rename_i t m k x
  cases hst:mapUpdateAV P h t (ρ m) (ρ k) (ρ x)with
  | none=>rw[hst]at hl;cases hl
  | some h'=>
   rw[hst]at hl;cases hl
   obtain⟨w',h1,h2,h3⟩:=mapUpdate_sound S hst (hv m (by simp)) (hv k (by simp)) (hv x (by simp))
   exact⟨w',ψ,by simp only[Sem.run_bind,h1,Result.andThen_ok,Sem.run_pure],h2,h3⟩
 ·rename_i t x
  obtain⟨r,hr,rfl⟩:=valh_inv hl
  exact eff_heap (range_map_sound S hr (hv x (by simp)))
 ·rename_i it s
  obtain⟨r,hr,rfl⟩:=valh_inv hl
  exact eff_heap (next_sound S hr (hv it (by simp)))
 ·rename_i it
  obtain⟨r,hr,rfl⟩:=vals_inv hl
  exact eff_pure S (entry_sound S hr (hv it (by simp)))
 ·rename_i c
  split at hl
  ·rename_i b hcal
   have hargs:=VRs_map (ψ:=ψ) (w:=w) (ρ:=ρ) (ρ':=ρ') (xs:=c.args) (fun x hx=>hv x (by simp[Call.operands,hcal,hx]))
   simp only[resolve,hcal,Sem.run_bind,Sem.run_pure,Result.andThen_ok,invoke]
   generalize c.args.toList.map ρ=l at hl hargs
   generalize c.args.map ρ'=lv at hargs
   obtain⟨hs,hvs⟩:=hargs
   unfold builtinAV at hl
   split at hl
   ·rename_i o
    cases ht:c.argTypes[0]? with
    | none=>rw[ht]at hl;cases hl
    | some t=>
     rw[ht]at hl
     obtain⟨r,hr,rfl⟩:=vals_inv hl
     obtain⟨lv⟩:=lv
     match lv,hs with
     | [xv],_=>exact eff_pure S (lenMap_sound S ht hr (by have:=hvs 0 (by simp);simpa using this))
   ·rename_i x
    cases ht:c.argTypes[0]? with
    | none=>rw[ht]at hl;cases hl
    | some t=>
     rw[ht]at hl
     obtain⟨r,hr,rfl⟩:=vals_inv hl
     obtain⟨lv⟩:=lv
     match lv,hs with
     | [xv],_=>exact eff_pure S (len_sound ht hr (by have:=hvs 0 (by simp);simpa using this))
   ·rename_i s x
    cases ht:c.argTypes[0]? with
    | none=>rw[ht]at hl;cases hl
    | some t1=>
     cases ht2:c.argTypes[1]? with
     | none=>rw[ht,ht2]at hl;cases hl
     | some t2=>
      rw[ht,ht2]at hl
      obtain⟨r,hr,rfl⟩:=valh_inv hl
      obtain⟨lv⟩:=lv
      match lv,hs with
      | [sv,xv],_=>exact eff_heap (append_sound S ht ht2 hr (by have:=hvs 0 (by simp);simpa using this) (by have:=hvs 1 (by simp);simpa using this))
   ·obtain⟨r,hr,rfl⟩:=vals_inv hl
    have:=minmax_sound (P:=P) (ts:=c.argTypes) (ty:=o.type) hr ⟨hs,hvs⟩
    exact eff_pure S this
   ·obtain⟨r,hr,rfl⟩:=vals_inv hl
    have:=minmax_sound (P:=P) (ts:=c.argTypes) (ty:=o.type) hr ⟨hs,hvs⟩
    exact eff_pure S this
   ·rename_i x
    cases ht:c.argTypes[0]? with
    | none=>rw[ht]at hl;cases hl
    | some t=>
     rw[ht]at hl
     obtain⟨r,hr,rfl⟩:=vals_inv hl
     obtain⟨lv⟩:=lv
     match lv,hs with
     | [xv],_=>exact eff_pure S (cap_sound ht hr (by have:=hvs 0 (by simp);simpa using this))
   ·rename_i d s
    cases ht:c.argTypes[0]? with
    | none=>rw[ht]at hl;cases hl
    | some t=>
     rw[ht]at hl
     obtain⟨r,hr,rfl⟩:=valh_inv hl
     obtain⟨lv⟩:=lv
     match lv,hs with
     | [dv,sv],_=>exact eff_heap (copy_sound S ht hr (by have:=hvs 0 (by simp);simpa using this) (by have:=hvs 1 (by simp);simpa using this))
   ·rename_i d
    cases ht:c.argTypes[0]? with
    | none=>rw[ht]at hl;cases hl
    | some t=>
     rw[ht]at hl
     obtain⟨r,hr,rfl⟩:=valh_inv hl
     obtain⟨lv⟩:=lv
     match lv,hs with
     | [dv],_=>exact eff_heap (clear_sound S ht hr (by have:=hvs 0 (by simp);simpa using this))
   ·rename_i d s
    cases ht:c.argTypes[0]? with
    | none=>rw[ht]at hl;cases hl
    | some t=>
     rw[ht]at hl
     obtain⟨r,hr,rfl⟩:=valh_inv hl
     obtain⟨lv⟩:=lv
     match lv,hs with
     | [dv,sv],_=>exact eff_heap (delete_sound S ht hr (by have:=hvs 0 (by simp);simpa using this) (by have:=hvs 1 (by simp);simpa using this))
   ·cases hl
  ·rename_i f hcal
   have hargs:=VRs_map (ψ:=ψ) (w:=w) (ρ:=ρ) (ρ':=ρ') (xs:=c.args) (fun x hx=>hv x (by simp[Call.operands,hcal,hx]))
   have hf:=hv f (by simp[Call.operands,hcal])
   have:=enter_sound S hl hf hargs
   simp only[resolve,hcal]
   exact this
  ·rename_i rc m hcal
   have hargs:=VRs_map (ψ:=ψ) (w:=w) (ρ:=ρ) (ρ':=ρ') (xs:=c.args) (fun x hx=>hv x (by simp[Call.operands,hcal,hx]))
   have hr:=hv rc (by simp[Call.operands,hcal])
   have:=invoke_sound S hl hr hargs
   simp only[resolve,hcal,Sem.run_bind,Sem.run_pure,Result.andThen_ok]
   exact this
end
end Go.Vn

/- The value machine: an object made now and known later. No condition. -/
namespace Go.Vn
section
variable {μ:Type→Type} [Mp μ] {P:Program}
variable {ψ:Gh} {w:World} {h:Hp μ}
def isA:Op→Bool
 | .alloc _ | .box .. | .buildSlice .. => true
 | _=>false
def Later(P:Program)(ρ:Operand→AV)(o:Oper)(μ:Type→Type)[Mp μ](B:Nat)(ob:Obj)(u:Value)(ψ:Gh)(w:World):Prop:=
 ∀ψ2 w2 (h2:Hp μ) e2,(∀a x,VR ψ w a x→VR ψ2 w2 a x)→Sim ψ2 w2 h2→w2.heap[B]? = some ob→ψ2.grp B=none→ψ2.own B=none→opEff P ρ h2 o=some e2 →
  ∃v2 h2' ψ3,e2=.val v2 h2'∧Ext0 ψ2 w2 ψ3 w2∧(∀C,C≠B→ψ3.grp C=ψ2.grp C∧ψ3.own C=ψ2.own C)∧Sim ψ3 w2 h2'∧VR ψ3 w2 v2 u
theorem Later.mono{ρ:Operand→AV}{o:Oper}{B:Nat}{ob:Obj}{u:Value}{ψ ψ':Gh}{w w':World}(E:Ext0 ψ w ψ' w')(k:Later P ρ o μ B ob u ψ w):Later P ρ o μ B ob u ψ' w':=
 fun ψ2 w2 h2 e2 hv=>k ψ2 w2 h2 e2 fun a x hx=>hv a x (hx.mono0 E)
theorem aop_sound{ρ:Operand→AV}{ρ':Operand→Value}{o:Oper}{e:Eff μ}(ha:isA o.op=true)(hl:opEff P ρ h o=some e)(hv:∀x∈o.op.operands,VR ψ w (ρ x) (ρ' x)) :
  ∃u ob,(execOp ρ' o).run P w=.ok (.value u) (w.alloc ob)∧Later P ρ o μ w.heap.size ob u ψ w:=by
 have row:∀(cs:List AV) (c:Array Value) (t:TypeId),CellsR ψ w cs c→CellsI cs→(∀h2:Hp μ,opEff P ρ h2 o=valh (some (newRowAV h2 cs)))→Later P ρ o μ w.heap.size (.cells c t) (.pointer (some ⟨w.heap.size,0,none⟩)) ψ w:=by
  intro cs c t hc hi hop ψ2 w2 h2 e2 hm S2 hB hg0 ho0 he
  rw[hop h2]at he
  cases he
  have hBs:=(Array.getElem?_eq_some_iff.1 hB).1
  obtain⟨ψ3,E,hC,S3,o1⟩:=adoptObj_sound S2 (x:=.row cs) hBs hg0 ho0 fun ψ' E=>.row cs c t hB hc.1 (fun i hi=>by obtain⟨v,a,b⟩:=hc.2 i hi;exact⟨v,a,(hm _ _ b).mono0 E⟩) hi
  exact⟨_,_,ψ3,rfl,E,hC,S3,.ptr _ 0 _ o1⟩
 cases hop:o.op <;> rw[hop]at ha <;> simp only[isA,Bool.false_eq_true]at ha
 ·rename_i t
  unfold opEff at hl
  rw[hop]at hl
  simp only at hl
  cases hz:tzero P t with
  | none=>rw[hz]at hl;cases hl
  | some z=>
   rw[hz]at hl
   simp only[Option.bind_some]at hl
   split at hl
   ·rename_i hc
    obtain⟨zv,hzr,hze⟩:=tzero_run hz w
    have hzz:VRs ψ w z.cells zv.cells:=VR_zero hze hc
    refine⟨.pointer (some ⟨w.heap.size,0,none⟩),.cells zv.cells t,?_,row z.cells zv.cells t ⟨by rw[hzz.1];exact Nat.le_refl _,fun i hi=>⟨zv.cells[i]'(by rw[hzz.1];exact hi),by rw[Array.getElem?_eq_getElem],hzz.2 i hi⟩⟩ (fun x hx=>List.all_eq_true.1 hc x hx) fun h2=>?_⟩
    ·simp only[execOp,hop,Instr.alloc,Sem.run_bind,hzr,Result.andThen_ok,newVar,newRow,run_newObj,Sem.run_pure]
     rfl
    ·unfold opEff
     rw[hop]
     simp only[hz,Option.bind_some,hc,if_true]
   ·cases hl
 ·rename_i t x
  unfold opEff at hl
  rw[hop]at hl
  simp only at hl
  split at hl
  ·rename_i hc
   have hzz:=(cells_rel (hv x (by rw[hop];simp[Op.operands])) hc).1
   refine⟨.pointer (some ⟨w.heap.size,0,none⟩),.cells (ρ' x).cells t,?_,row (ρ x).cells (ρ' x).cells t ⟨by rw[hzz.1];exact Nat.le_refl _,fun i hi=>⟨(ρ' x).cells[i]'(by rw[hzz.1];exact hi),by rw[Array.getElem?_eq_getElem],hzz.2 i hi⟩⟩ (fun x hx=>List.all_eq_true.1 hc x hx) fun h2=>?_⟩
   ·simp only[execOp,hop,Instr.box,Sem.run_bind,newVar,newRow,run_newObj,Result.andThen_ok,Sem.run_pure]
    rfl
   ·unfold opEff
    rw[hop]
    simp only[hc,if_true]
  ·cases hl
 ·rename_i t len parts
  unfold opEff at hl
  rw[hop]at hl
  obtain⟨r,hr,_⟩:=valh_inv hl
  obtain⟨h1,h2⟩:=parts_rel (ψ:=ψ) (w:=w) (ρ:=ρ) (ρ':=ρ') parts (fun x hx=>hv x (by rw[hop];simpa[Op.operands]using hx))
  obtain⟨els,n,ag,zc,e',y,b1,b2,b3,b4,b5,b6,b7,b8⟩:=buildSlice_content (μ:=μ) (w:=w) (lv:=parts.map fun(q:Nat × Operand)=>(q.1,ρ' q.2)) hr h1 h2
  refine⟨.slice (some ⟨w.heap.size,0,none⟩) len len,.cells y e',?_,?_⟩
  ·simp only[execOp,hop]
   simp only[Sem.run_bind,b8,Result.andThen_ok,Sem.run_pure]
  ·intro ψ2 w2 h2 e2 hm S2 hB hg0 ho0 he
   unfold opEff at he
   rw[hop]at he
   simp only[b1 h2]at he
   cases he
   obtain⟨ψ3,E,hC,S3,V⟩:=adoptSeq_sound S2 (e':=e') (sz:=n) (ag:=ag) (zc:=zc) (els:=els) (c:=y) (e:=e') b3 b4 ⟨b7.1,fun i hi=>by obtain⟨v,a,b⟩:=b7.2 i hi;exact⟨v,a,hm _ _ b⟩⟩ hB hg0 ho0
   rw[b2]at S3 V
   exact⟨_,_,ψ3,rfl,E,hC,S3,V⟩
end
end Go.Vn
