/- The value machine: stores, structs and slices that are written out, new slices. No condition. -/
import Derived.Test.YtplcehpejjfjoaaGreatVnB1
import Derived.Laws.AppendOwn
import Derived.Laws.MakeOwn
import Derived.Lib.AppendStr
import Derived.Laws.Strings
import Derived.Laws.StructEq
import Derived.Laws.BytesString
set_option linter.unusedSimpArgs false
set_option linter.unusedVariables false
namespace Go.Vn
section
variable {μ:Type→Type} [Mp μ] {P:Program}
variable {ψ:Gh} {w:World} {h:Hp μ}
theorem splice_length{cs vs:List AV}{off:Nat}(h:off+vs.length≤cs.length):(splice cs off vs).length=cs.length:=by
 simp only[splice,List.length_append,List.length_take,List.length_drop];omega
theorem splice_get{cs vs:List AV}{off:Nat}(h:off+vs.length≤cs.length)(j:Nat):(splice cs off vs)[j]? = if off≤j∧j<off+vs.length then vs[j-off]? else cs[j]? := by
 have h1:(cs.take off).length=off:=by rw[List.length_take];omega
 simp only[splice]
 by_cases ha:j<off
 ·rw[if_neg (by omega),List.append_assoc,List.getElem?_append_left (by omega),List.getElem?_take,if_pos ha]
 ·by_cases hb:j<off+vs.length
  ·rw[if_pos (by omega),List.getElem?_append_left (by rw[List.length_append];omega),List.getElem?_append_right (by omega),h1]
  ·rw[if_neg (by omega),List.getElem?_append_right (by rw[List.length_append];omega),List.length_append,h1,List.getElem?_drop]
   congr 1;omega
theorem splice_mem{cs vs:List AV}{off:Nat}{x:AV}(h:x∈splice cs off vs):x∈cs∨x∈vs:=by
 simp only[splice,List.mem_append]at h
 rcases h with (h | h) | h
 ·exact .inl (List.mem_of_mem_take h)
 ·exact .inr h
 ·exact .inl (List.mem_of_mem_drop h)
theorem spliceRow_sound(S:Sim ψ w h){o B off:Nat}{cs vs:List AV}{nc:List Value}(hro:Mp.get h.obj o=some (.row cs))(ho:ψ.obj o=some B)(hn:nc.length=vs.length)
  (hv:∀i (hi:i<vs.length),∃u,nc[i]? = some u∧VR ψ w vs[i] u) (hone:∀v∈nc,v.oneCell'=true) (hI:CellsI vs) (hle:off+vs.length≤cs.length) :
  ∃w',(storeCells ⟨B,off,none⟩ nc 0).run P w=.ok () w'∧Ext ψ w ψ w'∧Sim ψ w' { h with obj:=Mp.set h.obj o (.row (splice cs off vs)) }:=by
 obtain⟨B',h1,h2,hR⟩:=S.obj o _ hro rfl
 obtain⟨c,e,h3,h4,h6,h7⟩:∃c e,w.heap[B']? = some (.cells c e (0,0))∧cs.length≤c.size∧(∀i (h:i<cs.length),∃v,c[i]? = some v∧VR ψ w cs[i] v)∧∀x∈cs,x.isCell=true:=by
  cases hR with
  | row cs c e q1 q2 q4 q5=>exact⟨c,e,q1,q2,q4,q5⟩
 rw[h1]at ho;cases ho
 obtain⟨w',c',r1,r2,r3,r4,r5⟩:=storeCells_run (P:=P) nc off 0 w c h3 (by omega) (fun i _=>by simp[World.frozen?,h3]) hone
 have:=setRow_sound S (cs':=splice cs off vs) h1 h2 h3 r2 r3 r4 ⟨by rw[splice_length (by omega)];omega,fun i hi=>by
  rw[splice_length (by omega)]at hi
  have hg:=splice_get (cs:=cs) (vs:=vs) (off:=off) (by omega) i
  rw[List.getElem?_eq_getElem (by rw[splice_length (by omega)];exact hi)]at hg
  rw[r5 i]
  simp only[Nat.add_zero]
  by_cases hin:off≤i∧i<off+vs.length
  ·rw[if_pos hin,List.getElem?_eq_getElem (by omega)]at hg
   rw[if_pos (by omega)]
   obtain⟨u,q1,q2⟩:=hv (i-off) (by omega)
   exact⟨u,q1,by rw[Option.some.inj hg];exact q2⟩
  ·rw[if_neg hin,List.getElem?_eq_getElem hi]at hg
   rw[if_neg (by omega)]
   obtain⟨u,q1,q2⟩:=h6 i hi
   exact⟨u,q1,by rw[Option.some.inj hg];exact q2⟩⟩ (fun x hx=>(splice_mem hx).elim (h7 x) (hI x))
 exact⟨w',r1,this.1,this.2⟩
theorem store_sound(S:Sim ψ w h){t:TypeId}{a v:AV}{va vv:Value}{h':Hp μ}(hl:storeAV P h t a v=some h')(ha:VR ψ w a va)(hv:VR ψ w v vv) :
  ∃w',(Instr.storeAt t va vv).run P w=.ok () w'∧Ext ψ w ψ w'∧Sim ψ w' h':=by
 unfold storeAV at hl
 cases hn:tsize P t with
 | none=>rw[hn]at hl;cases hl
 | some n=>
  rw[hn]at hl
  simp only[Option.bind_some]at hl
  cases ha with
  | ptr o off B ho=>
   simp only at hl
   cases hro:Mp.get h.obj o with
   | none=>rw[hro]at hl;cases hl
   | some ob=>
    rw[hro]at hl
    cases ob with
    | mp | iter | siter | loop | dead=>cases hl
    | row cs=>
     simp only at hl
     by_cases hc:v.cells.length=n∧off+n≤cs.length∧v.cells.all AV.isCell=true
     ·rw[if_pos hc]at hl
      cases hl
      obtain⟨c1,c2,c3⟩:=hc
      obtain⟨⟨hs,hcv⟩,hone⟩:=cells_rel hv c3
      obtain⟨w',r1,r2,r3⟩:=spliceRow_sound (P:=P) S (off:=off) (vs:=v.cells) (nc:=vv.cells.toList) hro ho (by simp[hs]) (fun i hi=>⟨vv.cells[i]'(by omega),by simp,hcv i hi⟩) hone (fun x hx=>List.all_eq_true.1 c3 x hx) (by omega)
      refine⟨w',?_,r2,r3⟩
      simp only[Instr.storeAt,Instr.sureAddr,Sem.run_bind,Sem.run_pure,Result.andThen_ok,storeVar,tsize_run hn]
      rw[if_neg (by omega)]
      exact r1
     ·rw[if_neg hc]at hl;cases hl
  | _=>cases hl
theorem foldl_set(off:Nat):∀(l:List Value) (k:Nat) (cells:Array Value),off+k+l.length≤cells.size →
  ((l.zipIdx k).foldl (fun cs (x:Value × Nat)=>cs.setIfInBounds (off+x.2) x.1) cells).size=cells.size ∧
  ∀j,((l.zipIdx k).foldl (fun cs (x:Value × Nat)=>cs.setIfInBounds (off+x.2) x.1) cells)[j]? = if off+k≤j∧j<off+k+l.length then l[j-(off+k)]? else cells[j]?
 | [],k,cells,_=>⟨rfl,fun j=>by rw[if_neg (by simp only[List.length_nil];omega)];rfl⟩
 | v::l,k,cells,h=>by
  simp only[List.length_cons]at h
  obtain⟨h1,h2⟩:=foldl_set off l (k+1) (cells.setIfInBounds (off+k) v) (by simp;omega)
  simp only[List.zipIdx_cons,List.foldl_cons]
  refine⟨by rw[h1];simp,fun j=>?_⟩
  rw[h2 j]
  by_cases ha:off+(k+1)≤j∧j<off+(k+1)+l.length
  ·rw[if_pos ha,if_pos (by simp only[List.length_cons];omega),show j-(off+k)=(j-(off+(k+1)))+1 from by omega]
   simp
  ·rw[if_neg ha]
   by_cases hb:j=off+k
   ·subst hb
    rw[if_pos (by simp only[List.length_cons];omega)]
    simp[show off+k<cells.size by omega]
   ·rw[if_neg (by simp only[List.length_cons];omega),Array.getElem?_setIfInBounds_ne (by omega)]
theorem foldl_setA(off:Nat)(v:Array Value)(cells:Array Value)(h:off+v.size≤cells.size) :
  (v.zipIdx.foldl (fun cs (x:Value × Nat)=>cs.setIfInBounds (off+x.2) x.1) cells).size=cells.size ∧
  ∀j,(v.zipIdx.foldl (fun cs (x:Value × Nat)=>cs.setIfInBounds (off+x.2) x.1) cells)[j]? = if off≤j∧j<off+v.size then v[j-off]? else cells[j]? := by
 have:=foldl_set off v.toList 0 cells (by simpa using h)
 rw[←Array.foldl_toList]
 simp only[Array.toList_zipIdx]
 refine⟨this.1,fun j=>?_⟩
 rw[this.2 j]
 simp
theorem fill_sound{place:Nat→Option (Nat × Nat)}:∀(l:List (Nat × AV)) (lv:List (Nat × Value)) (cs:List AV) (x:Array Value) (r:List AV),l.length=lv.length →
  (∀i (h1:i<l.length) (h2:i<lv.length),(l[i]).1=(lv[i]).1∧VR ψ w (l[i]).2 (lv[i]).2)→VRs ψ w cs x→fillAV place cs l=some r→∃y,Instr.fill place x lv=some y∧VRs ψ w r y
 | [],[],cs,x,r,_,_,hx,hr=>by cases hr;exact⟨x,rfl,hx⟩
 | [],_::_,_,_,_,hl,_,_,_=>by simp at hl
 | _::_,[],_,_,_,hl,_,_,_=>by simp at hl
 | (i,a)::l,(j,v)::lv,cs,x,r,hl,hall,hx,hr=>by
  obtain⟨e1,hv⟩:=hall 0 (by simp) (by simp)
  simp only[List.getElem_cons_zero]at e1 hv
  subst e1
  simp only[fillAV]at hr
  cases hp:place i with
  | none=>rw[hp]at hr;cases hr
  | some q=>
   obtain⟨off,size⟩:=q
   rw[hp]at hr
   simp only at hr
   by_cases hc:a.cells.length=size∧off+size≤cs.length∧a.cells.all AV.isCell=true
   ·rw[if_pos hc]at hr
    obtain⟨c1,c2,c3⟩:=hc
    obtain⟨⟨hs,hcv⟩,_⟩:=cells_rel hv c3
    obtain⟨hx1,hx2⟩:=hx
    obtain⟨f1,f2⟩:=foldl_setA off v.cells x (by omega)
    have hx':VRs ψ w (splice cs off a.cells) (v.cells.zipIdx.foldl (fun cs (x:Value × Nat)=>cs.setIfInBounds (off+x.2) x.1) x):=by
     refine⟨by rw[f1,splice_length (by omega)];exact hx1,fun k hk=>?_⟩
     have hg:=splice_get (cs:=cs) (vs:=a.cells) (off:=off) (by omega) k
     rw[List.getElem?_eq_getElem hk]at hg
     have hg2:=f2 k
     rw[Array.getElem?_eq_getElem (by rw[splice_length (by omega)]at hk;omega)]at hg2
     rw[splice_length (by omega)]at hk
     by_cases hin:off≤k∧k<off+a.cells.length
     ·rw[if_pos hin,List.getElem?_eq_getElem (by omega)]at hg
      rw[if_pos (by omega),Array.getElem?_eq_getElem (by omega)]at hg2
      rw[Option.some.inj hg,Option.some.inj hg2]
      exact hcv (k-off) (by omega)
     ·rw[if_neg hin,List.getElem?_eq_getElem hk]at hg
      rw[if_neg (by omega),Array.getElem?_eq_getElem (by omega)]at hg2
      rw[Option.some.inj hg,Option.some.inj hg2]
      exact hx2 k hk
    obtain⟨y,r1,r2⟩:=fill_sound l lv _ _ r (by simpa using hl) (fun k h1 h2=>by have:=hall (k+1) (by simp;omega) (by simp;omega);simpa using this) hx' hr
    refine⟨y,?_,r2⟩
    simp only[Instr.fill,hp]
    rw[if_neg (by simp;omega)]
    exact r1
   ·rw[if_neg hc]at hr;cases hr
theorem parts_rel{ρ:Operand→AV}{ρ':Operand→Value}(parts:Array (Nat × Operand))(hv:∀x∈(parts.toList.map (·.2)),VR ψ w (ρ x) (ρ' x)) :
  (parts.toList.map fun p=>(p.1,ρ p.2)).length=(parts.map fun(q:Nat × Operand)=>(q.1,ρ' q.2)).toList.length ∧
  ∀i (h1:i<(parts.toList.map fun p=>(p.1,ρ p.2)).length) (h2:i<(parts.map fun(q:Nat × Operand)=>(q.1,ρ' q.2)).toList.length),((parts.toList.map fun p=>(p.1,ρ p.2))[i]).1=((parts.map fun(q:Nat × Operand)=>(q.1,ρ' q.2)).toList[i]).1 ∧
   VR ψ w ((parts.toList.map fun p=>(p.1,ρ p.2))[i]).2 ((parts.map fun(q:Nat × Operand)=>(q.1,ρ' q.2)).toList[i]).2:=by
 refine⟨by simp,fun i h1 h2=>?_⟩
 simp only[List.getElem_map,Array.getElem_toList,Array.getElem_map]
 refine⟨trivial,hv _ ?_⟩
 simp only[List.mem_map]
 exact⟨parts[i]'(by simpa using h1),by simp,rfl⟩
theorem VR_zero{z:AV}{zv:Value}(hz:z=ofVal zv)(hc:z.cells.all AV.isCell=true):VRs ψ w z.cells zv.cells:=(cells_rel (hz▸VR_ofVal zv) hc).1
theorem mapM_places(fields:List Field)(h:fields.all (fun f=>(tsize P f.type).isSome)=true)(w:World) :
  (fields.mapM (fun f=>(do pure (f.offset,←sizeOf f.type):Sem (Nat × Nat)))).run P w=.ok (fields.map fun f=>(f.offset,(tsize P f.type).getD 0)) w:=by
 induction fields with
 | nil=>simp
 | cons f fs ih=>
  simp only[List.all_cons,Bool.and_eq_true]at h
  obtain⟨n,hn⟩:=Option.isSome_iff_exists.1 h.1
  have ihh:=ih h.2
  simp only[List.mapM_cons,Sem.run_bind,tsize_run hn,Result.andThen_ok,Sem.run_pure,ihh,List.map_cons,hn,Option.getD_some]
theorem build_sound{t:TypeId}{l:List (Nat × AV)}{lv:Array (Nat × Value)}{r:AV}(hl:buildAV P t l=some r)(hlen:l.length=lv.toList.length)
  (hall:∀i (h1:i<l.length) (h2:i<lv.toList.length),(l[i]).1=(lv.toList[i]).1∧VR ψ w (l[i]).2 (lv.toList[i]).2):∃u,(Instr.build t lv).run P w=.ok u w∧VR ψ w r u:=by
 unfold buildAV at hl
 cases hz:tzero P t with
 | none=>rw[hz]at hl;cases hl
 | some z=>
  rw[hz]at hl
  simp only[Option.bind_some]at hl
  by_cases hzc:z.cells.all AV.isCell=false
  ·rw[if_pos hzc]at hl;cases hl
  ·rw[if_neg hzc]at hl
   simp only[Bool.not_eq_false]at hzc
   obtain⟨zv,hzr,hze⟩:=tzero_run hz w
   have hzz:VRs ψ w z.cells zv.cells:=VR_zero hze hzc
   cases hu:P.underlying t with
   | none=>rw[hu]at hl;cases hl
   | some d=>
    rw[hu]at hl
    cases d <;> try (cases hl;done)
    ·rename_i n e
     simp only at hl
     cases hn:tsize P e with
     | none=>rw[hn]at hl;cases hl
     | some sz=>
      rw[hn]at hl
      simp only[Option.bind_some]at hl
      cases hf:fillAV (fun i=>some (i*sz,sz)) z.cells l with
      | none=>rw[hf]at hl;cases hl
      | some cs=>
       rw[hf]at hl;cases hl
       obtain⟨y,r1,hy1,hy2⟩:=fill_sound l lv.toList z.cells zv.cells cs hlen hall hzz hf
       refine⟨.agg y,?_,.agg cs y hy1 hy2⟩
       simp only[Instr.build,Sem.run_bind,hzr,Result.andThen_ok,underlying_run hu,tsize_run hn,r1,Sem.run_pure]
    ·rename_i fields
     simp only at hl
     by_cases hfa:fields.toList.all (fun f=>(tsize P f.type).isSome)=false
     ·rw[if_pos hfa]at hl;cases hl
     ·rw[if_neg hfa]at hl
      simp only[Bool.not_eq_false]at hfa
      cases hf:fillAV (fun i=>(fields[i]?).bind fun f=>(tsize P f.type).map fun n=>(f.offset,n)) z.cells l with
      | none=>rw[hf]at hl;cases hl
      | some cs=>
       rw[hf]at hl;cases hl
       obtain⟨y,r1,hy1,hy2⟩:=fill_sound l lv.toList z.cells zv.cells cs hlen hall hzz hf
       refine⟨.agg y,?_,.agg cs y hy1 hy2⟩
       have hm:=mapM_places (P:=P) fields.toList hfa w
       have hpl:(fun(i:Nat)=>((fields.toList.map fun(f:Field)=>(f.offset,(tsize P f.type).getD 0)).toArray)[i]?)=(fun(i:Nat)=>(fields[i]?).bind fun(f:Field)=>(tsize P f.type).map fun n=>(f.offset,n)):=by
        funext i
        simp only[List.getElem?_toArray,List.getElem?_map,Array.getElem?_toList]
        cases hfi:fields[i]? with
        | none=>rfl
        | some fd=>
         have hmem:fd∈fields.toList:=by
          obtain⟨hlt,he⟩:=Array.getElem?_eq_some_iff.1 hfi
          rw[←he];simp
         have:=(List.all_eq_true.1 hfa) fd hmem
         obtain⟨m,hm⟩:=Option.isSome_iff_exists.1 this
         simp[hm]
       have hm':(fields.mapM (fun(f:Field)=>(do pure (f.offset,←sizeOf f.type):Sem (Nat × Nat)))).run P w=.ok (fields.toList.map fun f=>(f.offset,(tsize P f.type).getD 0)).toArray w:=by
        rw[Array.mapM_eq_mapM_toList]
        simp only[Sem.run_map,hm,Result.andThen_ok]
       simp only[Instr.build,Sem.run_bind,hzr,Result.andThen_ok,underlying_run hu]
       rw[hm']
       simp only[Result.andThen_ok]
       rw[hpl,r1]
       rfl
end
end Go.Vn

/- The value machine: slices that are made, written out, appended to. No condition. -/
namespace Go.Vn
section
variable {μ:Type→Type} [Mp μ] {P:Program}
variable {ψ:Gh} {w:World} {h:Hp μ}
theorem flat_cons(e:AV)(els:List AV):flat (e::els)=e.cells++flat els:=by simp[flat]
theorem flat_set{n:Nat}:∀(els:List AV) (i:Nat) (v:AV),(∀e∈els,e.cells.length=n)→i<els.length→v.cells.length=n→flat (els.set i v)=splice (flat els) (i*n) v.cells
 | [],i,v,_,hi,_=>by simp at hi
 | e::els,0,v,he,_,hv=>by
  have h1:=he e (by simp)
  simp only[List.set_cons_zero,flat_cons,splice,Nat.zero_mul,List.take_zero,List.nil_append,Nat.zero_add]
  congr 1
  rw[hv,←h1,List.drop_left]
 | e::els,i+1,v,he,hi,hv=>by
  have h1:=he e (by simp)
  have ih:=flat_set els i v (fun x hx=>he x (by simp[hx])) (by simpa using hi) hv
  simp only[List.set_cons_succ,flat_cons,ih,splice]
  have e1:(i+1)*n=e.cells.length+i*n:=by rw[h1,Nat.succ_mul];omega
  rw[e1,List.take_length_add_append,show e.cells.length+i*n+v.cells.length=e.cells.length+(i*n+v.cells.length)from by omega,List.drop_length_add_append]
  simp
theorem setEls_fill{n:Nat}:∀(l:List (Nat × AV)) (els r:List AV),(∀e∈els,e.cells.length=n∧e.cells.all AV.isCell=true)→setEls n els l=some r →
  fillAV (fun i=>some (i*n,n)) (flat els) l=some (flat r)∧r.length=els.length∧∀e∈r,e.cells.length=n∧e.cells.all AV.isCell=true
 | [],els,r,he,hr=>by cases hr;exact⟨rfl,rfl,he⟩
 | (i,v)::l,els,r,he,hr=>by
  simp only[setEls]at hr
  by_cases hc:v.cells.length=n∧i<els.length∧v.cells.all AV.isCell=true
  ·rw[if_pos hc]at hr
   obtain⟨c1,c2,c3⟩:=hc
   have hs:=flat_set els i v (fun e h=>(he e h).1) c2 c1
   have hfl:=flat_length (fun e h=>(he e h).1)
   have hmul:i*n+n≤els.length*n:=by rw[←Nat.succ_mul];exact Nat.mul_le_mul_right _ c2
   obtain⟨r1,r2,r3⟩:=setEls_fill l (els.set i v) r (fun e h=>by
    rcases List.mem_or_eq_of_mem_set h with h | h
    ·exact he e h
    ·rw[h];exact⟨c1,c3⟩) hr
   refine⟨?_,by simpa using r2,r3⟩
   simp only[fillAV]
   rw[if_pos ⟨c1,by omega,c3⟩,←hs]
   exact r1
  ·rw[if_neg hc]at hr;cases hr
theorem flat_replicate{z:AV}{n len:Nat}(hz:z.cells.length=n)(hn:0<n)(k:Nat)(hk:k<(flat (List.replicate len z)).length) :
  ∃h1:k%n<z.cells.length,(flat (List.replicate len z))[k]=z.cells[k%n]:=by
 have hall:∀e∈List.replicate len z,e.cells.length=n:=fun e he=>by rw[List.eq_of_mem_replicate he];exact hz
 have hfl:=flat_length hall
 rw[List.length_replicate]at hfl
 have hkn:k / n<len:=by rw[Nat.div_lt_iff_lt_mul hn];omega
 obtain⟨h1,h2⟩:=flat_getElem hall (k / n) (by simpa using hkn) (k%n) (Nat.mod_lt _ hn)
 have hk':k / n*n+k%n=k:=by rw[Nat.mul_comm];exact Nat.div_add_mod k n
 refine⟨by rw[hz];exact Nat.mod_lt _ hn,?_⟩
 simp only[hk',List.getElem_replicate]at h2
 exact h2
theorem made_rel{z:AV}{zv:Value}{n len m:Nat}(hz:z=ofVal zv)(hc:z.cells.all AV.isCell=true)(hzn:z.cells.length=n)(hn:0<n)(hm:len*n≤m) :
  CellsR ψ w (flat (List.replicate len z)) ((Array.range m).map fun i=>zv.cells[i%zv.cells.size]!):=by
 obtain⟨h1,h2⟩:=VR_zero (ψ:=ψ) (w:=w) hz hc
 have hfl:=flat_length (sz:=n) (els:=List.replicate len z) (fun e he=>by rw[List.eq_of_mem_replicate he];exact hzn)
 rw[List.length_replicate]at hfl
 refine⟨by simp;omega,fun k hk=>?_⟩
 obtain⟨q1,q2⟩:=flat_replicate hzn hn k hk
 refine⟨zv.cells[k%n]'(by omega),?_,by rw[q2];exact h2 _ q1⟩
 rw[Array.getElem?_map,Array.getElem?_range,if_pos (by omega)]
 simp only[Option.map_some,h1,hzn]
 rw[getElem!_pos _ _ (by omega)]
theorem buildSlice_content{t:TypeId}{len:Nat}{l:List (Nat × AV)}{lv:Array (Nat × Value)}{r:AV × Hp μ}(hl:buildSliceAV P h t len l=some r)(hlen:l.length=lv.toList.length)
  (hall:∀i (h1:i<l.length) (h2:i<lv.toList.length),(l[i]).1=(lv.toList[i]).1∧VR ψ w (l[i]).2 (lv.toList[i]).2) :
  ∃els n ag zc e y,(∀h2:Hp μ,buildSliceAV P h2 t len l=some (newSeq h2 e n ag zc len els))∧els.length=len∧(∀x∈els,x.cells.length=n)∧(∀x∈els,x.cells.all AV.isCell=true)∧CellsI zc∧zc.length=n∧CellsR ψ w (flat els) y ∧
   (Instr.buildSlice t len lv).run P w=.ok (.slice (some ⟨w.heap.size,0,none⟩) len len) (w.alloc (.cells y e)):=by
 unfold buildSliceAV at hl
 cases hu:P.underlying t with
 | none=>rw[hu]at hl;cases hl
 | some d=>
  rw[hu]at hl
  cases d <;> try (cases hl;done)
  rename_i e
  simp only at hl
  cases hn:tsize P e with
  | none=>rw[hn]at hl;cases hl
  | some n=>
   cases hga:tagg P e with
   | none=>rw[hn,hga]at hl;cases hl
   | some ag=>
   cases hz:tzero P e with
   | none=>rw[hn,hga,hz]at hl;cases hl
   | some z=>
    rw[hn,hga,hz]at hl
    simp only[Option.bind_some]at hl
    by_cases hc:0<n∧len*n≤65536∧z.cells.length=n∧z.cells.all AV.isCell=true
    ·rw[if_pos hc]at hl
     obtain⟨c1,c2,c3,c4⟩:=hc
     cases hse:setEls n (List.replicate len z) l with
     | none=>rw[hse]at hl;cases hl
     | some els=>
      rw[hse]at hl;cases hl
      obtain⟨zv,hzr,hze⟩:=tzero_run hz w
      obtain⟨f1,f2,f3⟩:=setEls_fill l _ els (fun e he=>by rw[List.eq_of_mem_replicate he];exact⟨c3,c4⟩) hse
      rw[List.length_replicate]at f2
      have hm:=made_rel (ψ:=ψ) (w:=w) (m:=len*n) (len:=len) hze c4 c3 c1 (Nat.le_refl _)
      have hfl0:=flat_length (sz:=n) (els:=List.replicate len z) (fun e he=>by rw[List.eq_of_mem_replicate he];exact c3)
      rw[List.length_replicate]at hfl0
      have hinit:VRs ψ w (flat (List.replicate len z)) ((Array.range (len*n)).map fun i=>zv.cells[i%zv.cells.size]!):=
       ⟨by simp[hfl0],fun i hi=>by
        obtain⟨v,q1,q2⟩:=hm.2 i hi
        rw[Array.getElem?_eq_getElem (by simp;omega)]at q1
        rw[Option.some.inj q1];exact q2⟩
      obtain⟨y,r1,hy1,hy2⟩:=fill_sound l lv.toList _ _ (flat els) hlen hall hinit f1
      have hfl:=flat_length (fun x hx=>(f3 x hx).1)
      have hcells:CellsR ψ w (flat els) y:=⟨by omega,fun i hi=>⟨y[i]'(by omega),by rw[Array.getElem?_eq_getElem],hy2 i hi⟩⟩
      have hzI:CellsI z.cells:=fun x hx=>List.all_eq_true.1 c4 x hx
      refine⟨els,n,ag,z.cells,e,y,fun h2=>?_,f2,fun x hx=>(f3 x hx).1,fun x hx=>(f3 x hx).2,hzI,c3,hcells,?_⟩
      ·unfold buildSliceAV
       simp only[hu,hn,hga,hz,Option.bind_some]
       rw[if_pos ⟨c1,c2,c3,c4⟩,hse]
       rfl
      simp only[Instr.buildSlice,Sem.run_bind,underlying_run hu,Result.andThen_ok,tsize_run hn]
      rw[if_neg (by omega)]
      by_cases h0:len*n=0
      ·have hl0:len=0:=by
        rcases Nat.eq_zero_or_pos len with h | h
        ·exact h
        ·have:=Nat.mul_pos h c1;omega
       subst hl0
       simp only[Nat.zero_mul]at r1
       have e0:∀(f:Nat→Value),(Array.range 0).map f = #[]:=fun f=>by simp
       rw[e0]at r1
       simp only[Nat.zero_mul,if_true,Sem.run_bind,Sem.run_pure,Result.andThen_ok]
       rw[e0,r1]
       simp[newRow]
      ·simp only[h0,if_false,Sem.run_bind,hzr,Result.andThen_ok,Sem.run_pure,r1]
       simp[newRow]
    ·rw[if_neg hc]at hl;cases hl
theorem buildSlice_sound(S:Sim ψ w h){t:TypeId}{len:Nat}{l:List (Nat × AV)}{lv:Array (Nat × Value)}{r:AV × Hp μ}(hl:buildSliceAV P h t len l=some r)(hlen:l.length=lv.toList.length)
  (hall:∀i (h1:i<l.length) (h2:i<lv.toList.length),(l[i]).1=(lv.toList[i]).1∧VR ψ w (l[i]).2 (lv.toList[i]).2) :
  ∃u w' ψ',(Instr.buildSlice t len lv).run P w=.ok u w'∧Ext ψ w ψ' w'∧Sim ψ' w' r.2∧VR ψ' w' r.1 u:=by
 obtain⟨els,n,ag,zc,e,y,h1,h2,h3,h4,h5,h6,h7,h8⟩:=buildSlice_content (μ:=μ) (w:=w) hl hlen hall
 rw[h1 h]at hl
 cases hl
 have hcells2:CellsR ψ w (flat els++(List.replicate (len-els.length) zc).flatten) y:=by rw[h2,Nat.sub_self];simpa using h7
 obtain⟨ψ',E,S',V⟩:=newSeq_sound S (e':=e) (sz:=n) (ag:=ag) (cap:=len) (els:=els) (zc:=zc) (c:=y) (e:=e) h3 h4 h5 h6 hcells2 (by omega) (Pushed.alloc w (.cells y e))
 rw[h2]at V
 exact⟨_,_,ψ',h8,E,S',V⟩
theorem makeSlice_sound(S:Sim ψ w h){t:TypeId}{a b:AV}{av bv:Value}{r:AV × Hp μ}(hl:makeSliceAV P h t a b=some r)(ha:VR ψ w a av)(hb:VR ψ w b bv) :
  ∃u w' ψ',(Instr.makeSlice t av bv).run P w=.ok u w'∧Ext ψ w ψ' w'∧Sim ψ' w' r.2∧VR ψ' w' r.1 u:=by
 unfold makeSliceAV at hl
 cases hu:P.underlying t with
 | none=>rw[hu]at hl;cases hl
 | some d=>
  rw[hu]at hl
  cases d <;> try (cases hl;done)
  rename_i e
  cases ha <;> try (cases hl;done)
  rename_i k n
  cases hb <;> try (cases hl;done)
  rename_i k' m
  simp only at hl
  cases hi:P.info? e with
  | none=>simp[tsize,hi]at hl
  | some i=>
   cases hz:i.zero with
   | none=>simp[tsize,tbytes,tzero,hi,hz]at hl
   | some zv=>
    cases hga:tagg P e with
    | none=>simp[tsize,hi,hga]at hl
    | some ag=>
    have e1:tsize P e=some i.size:=by simp[tsize,hi]
    have e2:tbytes P e=some i.bytes:=by simp[tbytes,hi]
    have e3:tzero P e=some (ofVal zv):=by simp[tzero,hi,hz]
    rw[e1,hga,e2,e3]at hl
    simp only[Option.bind_some]at hl
    by_cases hc:0<i.size∧0≤n∧n≤m∧m*i.bytes≤2 ^ 40∧m≤2 ^ 40∧(ofVal zv).cells.length=i.size∧(ofVal zv).cells.all AV.isCell=true
    ·rw[if_pos hc]at hl
     cases hl
     obtain⟨c1,c2,c3,c4,c5,c6,c7⟩:=hc
     have hrun:=Go.run_make (P:=P) w t e i zv hu hi hz k k' n m c2 c3 (by rw[Int.mul_comm];omega) (by omega)
     have hnm:n.toNat*i.size≤m.toNat*i.size:=Nat.mul_le_mul_right _ (by omega)
     have hzI:CellsI (ofVal zv).cells:=fun x hx=>List.all_eq_true.1 c7 x hx
     have hcells2:CellsR ψ w (flat (List.replicate n.toNat (ofVal zv))++(List.replicate (m.toNat-(List.replicate n.toNat (ofVal zv)).length) (ofVal zv).cells).flatten) (madeCells zv.cells (m.toNat*i.size)):=by
      rw[List.length_replicate,flat_repl,←List.flatten_append,List.replicate_append_replicate,Nat.add_sub_cancel' (by omega),←flat_repl]
      exact made_rel (ψ:=ψ) (w:=w) rfl c7 c6 c1 (Nat.le_refl _)
     obtain⟨ψ',E,S',V⟩:=newSeq_sound S (e':=e) (sz:=i.size) (ag:=ag) (cap:=m.toNat) (els:=List.replicate n.toNat (ofVal zv)) (zc:=(ofVal zv).cells) (c:=madeCells zv.cells (m.toNat*i.size)) (e:=e)
      (fun x hx=>by rw[List.eq_of_mem_replicate hx];exact c6) (fun x hx=>by rw[List.eq_of_mem_replicate hx];exact c7)
      hzI c6 hcells2 (by simp;omega) (Pushed.alloc w _)
     rw[List.length_replicate]at V
     exact⟨_,_,ψ',hrun,E,S',V⟩
    ·rw[if_neg hc]at hl;cases hl
theorem chunk_length(ag:Bool)(sz:Nat):∀(n:Nat) (cs:List AV),(chunkAV ag sz n cs).length=n
 | 0,_=>rfl
 | n+1,cs=>by simp[chunkAV,chunk_length ag sz n]
theorem isCell_cells{a:AV}(h:a.isCell=true):a.cells=[a]:=by cases a <;> first | rfl | simp[AV.isCell]at h
theorem chunk_spec{ag:Bool}{sz:Nat}(hag:ag=false→sz=1):∀(n:Nat) (cs:List AV),n*sz≤cs.length→CellsI cs→flat (chunkAV ag sz n cs)=cs.take (n*sz)∧∀e∈chunkAV ag sz n cs,e.cells.length=sz∧e.cells.all AV.isCell=true
 | 0,cs,_,_=>by simp[chunkAV,flat]
 | n+1,cs,hl,hI=>by
  have hm:(n+1)*sz=sz+n*sz:=by rw[Nat.succ_mul];omega
  obtain⟨h1,h2⟩:=chunk_spec hag n (cs.drop sz) (by rw[List.length_drop];omega) (fun x hx=>hI x (List.mem_of_mem_drop hx))
  have hd:(if ag then AV.agg (cs.take sz)else cs.headD .undef).cells=cs.take sz∧(cs.take sz).length=sz:=by
   refine⟨?_,by rw[List.length_take];omega⟩
   cases ag with
   | true=>rfl
   | false=>
    have h0:=hag rfl
    subst h0
    cases cs with
    | nil=>simp at hl
    | cons c cs=>simp only[Bool.false_eq_true,if_false,List.headD_cons,List.take_succ_cons,List.take_zero];exact isCell_cells (hI c (by simp))
  refine⟨?_,fun e he=>?_⟩
  ·simp only[chunkAV,flat_cons,h1,hd.1]
   rw[hm,List.take_add]
  ·simp only[chunkAV,List.mem_cons]at he
   rcases he with rfl | he
   ·rw[hd.1]
    exact⟨hd.2,List.all_eq_true.2 fun x hx=>hI x (List.mem_of_mem_take hx)⟩
   ·exact h2 e he
theorem rsEls_sound(S:Sim ψ w h){o off sz n B:Nat}{ag:Bool}{els:List AV}(he:rsEls h o off sz ag n=some els)(ho:ψ.obj o=some B) :
  els.length=n∧∃f:Nat→Value,(∀i,i<n*sz→w.cell? ⟨B,off+i,none⟩=some (f i))∧(∀i (hi:i<(flat els).length),VR ψ w ((flat els)[i]) (f i))∧∀e∈els,e.cells.length=sz∧e.cells.all AV.isCell=true:=by
 unfold rsEls at he
 split at he
 ·rename_i cs hro
  split at he
  ·rename_i hc
   cases he
   obtain⟨c1,c2,c3⟩:=hc
   obtain⟨B',c,t,fr,h1,h2,h3,h4,h5,h6,h7⟩:=S.row o cs hro
   rw[h1]at ho;cases ho
   obtain⟨q1,q2⟩:=chunk_spec c2 n (cs.drop off) (by rw[List.length_drop];omega) (fun x hx=>h7 x (List.mem_of_mem_drop hx))
   refine⟨chunk_length _ _ _ _,fun i=>(c[off+i]?).getD Go.undef,fun i hi=>?_,fun i hi=>?_,q2⟩
   ·obtain⟨v,g1,g2⟩:=h6 (off+i) (by omega)
    rw[cell_of h3];simp only[g1,Option.getD_some]
   ·have hi':i<n*sz:=by rw[q1,List.length_take]at hi;omega
    obtain⟨v,g1,g2⟩:=h6 (off+i) (by omega)
    have:(flat (chunkAV ag sz n (cs.drop off)))[i]=cs[off+i]'(by omega):=by simp only[q1,List.getElem_take,List.getElem_drop]
    rw[this];simp only[g1,Option.getD_some];exact g2
  ·cases he
 ·cases he
theorem newEls_src(S:Sim ψ w h){sz:Nat}{ag:Bool}{x:AV}{v:Value}{new:List AV}(hn:newEls h sz ag x=some new)(hv:VR ψ w x v) :
  ∃nc:List Value,(Builtin.lenOf v).run P w=.ok new.length w∧(∀w',w'.heap=w.heap→(Builtin.firstCells sz new.length v).run P w'=.ok nc.toArray w')∧nc.length=(flat new).length∧(∀e∈new,e.cells.length=sz∧e.cells.all AV.isCell=true) ∧
   ∀i (hi:i<(flat new).length),∃u,nc[i]? = some u∧VR ψ w ((flat new)[i]) u:=by
 cases hv with
 | nils=>cases hn;exact⟨[],by simp[Builtin.lenOf],fun w' _=>by simp[Builtin.firstCells],by simp[flat],by simp,fun i hi=>by simp[flat]at hi⟩
 | esl a cap=>cases hn;exact⟨[],by simp[Builtin.lenOf],fun w' _=>by simp[Builtin.firstCells,loadCells,loadCellsFrom],by simp[flat],by simp,fun i hi=>by simp[flat]at hi⟩
 | sl g off sz' cap els B p cs hgn hg he hsz hic hc hvv hlen hcap hfr=>
  simp only[newEls]at hn
  by_cases hs:sz'=sz
  ·rw[if_pos hs]at hn;cases hn;subst hs
   have hfl:=flat_length hsz
   refine⟨(List.range (new.length*sz')).map cs,by simp[Builtin.lenOf],?_,by simp[hfl],fun e he=>⟨hsz e he,hic e he⟩,fun i hi=>⟨cs i,?_,hvv i hi⟩⟩
   ·intro w' hw
    simp only[Builtin.firstCells]
    rw[loadCells_run (cs:=cs) (fun j hj=>by rw[World.cell?,hw];exact hc j (by omega))]
    congr 1
    apply Array.toList_inj.1
    simp[Array.toList_map]
   ·rw[List.getElem?_map,List.getElem?_range (by omega)];rfl
  ·rw[if_neg hs]at hn;cases hn
 | str s=>
  simp only[newEls]at hn
  by_cases hs:sz=1
  ·rw[if_pos hs]at hn;cases hn;subst hs
   have hfl:flat (s.map byteAV)=s.map byteAV:=by
    simp only[flat]
    induction s with
    | nil=>rfl
    | cons a s ih=>simp only[List.map_cons,List.flatMap_cons,ih];rfl
   have hsz:(⟨s.toArray⟩:ByteArray).size=s.length:=by simp[ByteArray.size]
   refine⟨Lib.strCells ⟨s.toArray⟩,?_,?_,?_,fun e he=>?_,fun i hi=>?_⟩
   ·simp[Builtin.lenOf,hsz]
   ·intro w' _
    have:=Lib.run_firstCells_string (P:=P) w' 1 ⟨s.toArray⟩
    rw[hsz]at this
    rw[List.length_map];exact this
   ·rw[Lib.strCells_length,hsz,hfl,List.length_map]
   ·simp only[List.mem_map]at he
    obtain⟨b,_,rfl⟩:=he
    exact⟨rfl,rfl⟩
   ·rw[hfl,List.length_map]at hi
    refine⟨.int .u8 (s[i]).toNat,by simp[Lib.strCells,hi],?_⟩
    simp only[hfl,List.getElem_map]
    exact .int _ _
  ·rw[if_neg hs]at hn;cases hn
 | rs o off sz' ag' n cap B ho hcap=>
  simp only[newEls]at hn
  by_cases hs:sz'=sz∧ag'=ag
  ·rw[if_pos hs]at hn
   obtain⟨rfl,rfl⟩:=hs
   obtain⟨r1,f,r2,r3,r4⟩:=rsEls_sound S hn ho
   refine⟨(List.range (new.length*sz')).map f,by simp[Builtin.lenOf,r1],?_,by simp[flat_length fun e he=>(r4 e he).1],r4,fun i hi=>⟨f i,?_,r3 i hi⟩⟩
   ·intro w' hw
    simp only[Builtin.firstCells]
    rw[loadCells_run (cs:=f) (fun j hj=>by rw[World.cell?,hw];exact r2 j (by rw[r1]at hj;exact hj))]
    congr 1
    apply Array.toList_inj.1
    simp[Array.toList_map]
   ·have:=flat_length fun e he=>(r4 e he).1
    rw[List.getElem?_map,List.getElem?_range (by omega)];rfl
  ·rw[if_neg hs]at hn;cases hn
 | _=>cases hn
end
end Go.Vn

/- The value machine: append. No condition. -/
namespace Go.Vn
section
variable {μ:Type→Type} [Mp μ] {P:Program}
variable {ψ:Gh} {w:World} {h:Hp μ}
theorem drew_sound(S:Sim ψ w h):Ext ψ w ψ w.drew∧Sim ψ w.drew h.drew:=⟨Ext.drew ψ w,S.drew⟩
theorem grown_eq(S:Sim ψ w h)(need cap:Nat)(e:TypeId):h.grown need cap e=grownCap w need cap e:=by simp only[Hp.grown,grownCap,S.tape,S.drawn]
def Appended(P:Program)(t2 e:TypeId)(i:TypeInfo)(x:Value)(n:Nat)(nc:List Value)(w w':World):Prop:=
 (∃d2,P.underlying t2=some d2∧isIntD d2=false∧(Builtin.lenOf x).run P w=.ok n w∧(Builtin.firstCells i.size n x).run P w'=.ok nc.toArray w') ∨
 (∃k z,P.underlying t2=some (.int k)∧i.zero=some z∧x=.int .i64 (n:Int)∧(n:Int)*i.bytes≤2 ^ 40∧n≤2 ^ 40∧nc.toArray=Builtin.zeroCells z.cells n∧i.size≠0)
theorem wrap_small{n:Nat}(h:n≤2 ^ 40):IntKind.i64.wrap (n:Int)=n:=by
 simp only[IntKind.wrap,IntKind.signed,IntKind.bits]
 simp
 omega
theorem wrap_zero:IntKind.i64.wrap 0=0:=wrap_small (n:=0) (by omega)
theorem append_fits{ts:Array TypeId}{t1 t2 ty e:TypeId}{i:TypeInfo}(h0:ts[0]? = some t1)(h1:ts[1]? = some t2)(hu:P.underlying t1=some (.slice e))
  (hi:P.info? e=some i) {base:Option Addr} {sl cap n:Nat} {x:Value} {nc:List Value} (ha:Appended P t2 e i x n nc w w) (hfit:sl+n≤cap) :
  (Builtin.append_ ts ty #[.slice base sl cap,x]).run P w=((match base with | some a=>storeCells (a.add (sl*i.size)) nc | none=>pure ()).run P w).andThen fun _ w'=>.ok (.slice base (sl+n) cap) w':=by
 rcases ha with⟨d2,hu2,hd,hl,hf⟩ | ⟨k,z,hu2,hz,rfl,hb,hn,hnc,hsz⟩
 ·have hm:∀k,d2=TypeDesc.int k→False:=fun k hk=>by subst hk;simp[isIntD]at hd
  cases base <;> simp[Builtin.append_,h0,h1,underlying_run hu,underlying_run hu2,sizeOf,typeInfo_run hi,hl,hf,hfit]
 ·have h2:¬((n:Int)<0):=by omega
  have h3:¬(281474976710656<(n:Int)*i.bytes):=by omega
  have hw:=wrap_small hn
  by_cases hn0:n=0
  ·subst hn0
   have hnc0:nc=[]:=by
    have:nc.toArray = #[]:=by rw[hnc];simp[Builtin.zeroCells]
    simpa using this
   subst hnc0
   have hfit0:sl≤cap:=by omega
   have hfit1:¬cap<sl:=by omega
   cases base <;> simp[Builtin.append_,h0,h1,underlying_run hu,underlying_run hu2,sizeOf,typeInfo_run hi,asInt,asIntOf,wrap_zero,hfit0,hfit1]
  ·have h4:¬(n*i.size=0):=fun h=>by rcases Nat.mul_eq_zero.1 h with h | h <;> omega
   have e2:nc=(Builtin.zeroCells z.cells n).toList:=by rw[←hnc]
   cases base <;> simp[Builtin.append_,h0,h1,underlying_run hu,underlying_run hu2,sizeOf,typeInfo_run hi,asInt,asIntOf,hw,h2,h3,h4,hfit,zeroValue,hz,hn0,hsz,e2]
theorem append_grows{ts:Array TypeId}{t1 t2 ty e:TypeId}{i:TypeInfo}{z:Value}(h0:ts[0]? = some t1)(h1:ts[1]? = some t2)(hu:P.underlying t1=some (.slice e))
  (hi:P.info? e=some i) (hz:i.zero=some z) {base:Option Addr} {sl cap n:Nat} {x:Value} {nc oc:List Value} (ha:Appended P t2 e i x n nc w w.drew)
  (ho:(Builtin.firstCells i.size sl (.slice base sl cap)).run P w.drew=.ok oc.toArray w.drew) (hno:cap<sl+n) (hb:(sl+n)*i.bytes≤140737488355328) (h63:sl+n≤9223372036854775807) (hpb:0<i.bytes) :
  (Builtin.append_ ts ty #[.slice base sl cap,x]).run P w=.ok (.slice (some ⟨w.heap.size,0,none⟩) (sl+n) (grownCap w (sl+n) cap e))
   (w.drew.alloc (.cells (oc.toArray++nc.toArray++Builtin.zeroCells z.cells (grownCap w (sl+n) cap e-(sl+n))) e)):=by
 have hng:¬(sl+n≤cap):=by omega
 have h63':¬(9223372036854775807<((sl:Int)+(n:Int))):=by omega
 have hfit:=growslice_fits hno hb
 have hfit':¬(281474976710656<Builtin.nextslicecap (sl+n) cap*i.bytes):=by omega
 have hq:(Question.appendCap (sl+n) cap e).forced=false:=rfl
 rcases ha with⟨d2,hu2,hd,hl,hf⟩ | ⟨k,z',hu2,hz',rfl,hb',hn,hnc,hsz⟩
 ·have hm:∀k,d2=TypeDesc.int k→False:=fun k hk=>by subst hk;simp[isIntD]at hd
  simp[Builtin.append_,h0,h1,underlying_run hu,underlying_run hu2,sizeOf,typeInfo_run hi,hl,hng,hfit',hq,hf,ho,zeroValue,hz,grownCap,newRow,IntKind.max,IntKind.signed,IntKind.bits,h63']
  rw[←List.append_toArray,Array.append_assoc]
 ·rw[hz]at hz';cases hz'
  have h2:¬((n:Int)<0):=by omega
  have h3:¬(281474976710656<(n:Int)*i.bytes):=by omega
  have hw:=wrap_small hn
  have hpb':i.bytes≠0:=by omega
  by_cases hn0:n=0
  ·subst hn0
   have hnc0:nc.toArray = #[]:=by rw[hnc];simp[Builtin.zeroCells]
   simp only[Nat.add_zero]at hng hfit' h63' hq
   simp[Builtin.append_,h0,h1,underlying_run hu,underlying_run hu2,sizeOf,typeInfo_run hi,asInt,asIntOf,wrap_zero,hng,hfit',hq,ho,zeroValue,hz,grownCap,newRow,IntKind.max,IntKind.signed,IntKind.bits,hnc0]
   simp at h63'
   omega
  ·have h4:¬(n*i.size=0):=fun h=>by rcases Nat.mul_eq_zero.1 h with h | h <;> omega
   simp[Builtin.append_,h0,h1,underlying_run hu,underlying_run hu2,sizeOf,typeInfo_run hi,asInt,asIntOf,hw,h2,h3,h4,hng,hfit',hq,ho,zeroValue,hz,grownCap,newRow,IntKind.max,IntKind.signed,IntKind.bits,h63',hnc,hn0,hsz]
theorem zero_size{zv:Value}{n:Nat}(h:(ofVal zv).cells.length=n):zv.cells.size=n:=by
 cases zv with
 | agg cs=>simp[ofVal,AV.cells]at h;simp[Value.cells,h]
 | _=>
  have:∀v:Value,(ofScalar v).cells.length=1:=fun v=>by
   cases v <;> simp only[ofScalar] <;> (repeat' split) <;> rfl
  simp only[ofVal,this]at h
  first | (simp[Value.cells,h];done) | (simp only[AV.cells,List.length_cons,List.length_nil]at h;simp[Value.cells,←h])
theorem cells_two{els new:List AV}{oc nc:List Value}(ho1:oc.length=(flat els).length)(ho2:∀i (hi:i<(flat els).length),∃u,oc[i]? = some u∧VR ψ w ((flat els)[i]) u)
  (hn1:nc.length=(flat new).length) (hn2:∀i (hi:i<(flat new).length),∃u,nc[i]? = some u∧VR ψ w ((flat new)[i]) u) (rest:Array Value) :
  CellsR ψ w (flat (els++new)) (oc.toArray++nc.toArray++rest):=by
 refine⟨by simp[flat_append];omega,fun i hi=>?_⟩
 rw[flat_append,List.length_append]at hi
 by_cases h1:i<(flat els).length
 ·obtain⟨u,q1,q2⟩:=ho2 i h1
  refine⟨u,?_,?_⟩
  ·rw[Array.getElem?_append_left (by simp;omega),Array.getElem?_append_left (by simp;omega)];simpa using q1
  ·have:(flat (els++new))[i]'(by rw[flat_append,List.length_append];exact hi)=(flat els)[i]:=by simp only[flat_append];exact List.getElem_append_left h1
   rw[this];exact q2
 ·obtain⟨u,q1,q2⟩:=hn2 (i-(flat els).length) (by omega)
  refine⟨u,?_,?_⟩
  ·rw[Array.getElem?_append_left (by simp;omega),Array.getElem?_append_right (by simp;omega)];simpa[ho1]using q1
  ·have:(flat (els++new))[i]'(by rw[flat_append,List.length_append];exact hi)=(flat new)[i-(flat els).length]'(by omega):=by simp only[flat_append];exact List.getElem_append_right (by omega)
   rw[this];exact q2
theorem spare_cells{zv:Value}{n:Nat}(hzl:(ofVal zv).cells.length=n)(hz:(ofVal zv).cells.all AV.isCell=true)(hn:0<n)(k:Nat) :
  CellsR ψ w (List.replicate k (ofVal zv).cells).flatten (Builtin.zeroCells zv.cells k):=by
 rw[←flat_repl]
 exact made_rel rfl hz hzl hn (by rw[zero_size hzl];exact Nat.le_refl _)
theorem oneCell_of{l:List AV}{nc:List Value}(h1:nc.length=l.length)(hc:∀a∈l,a.isCell=true)(h2:∀i (hi:i<l.length),∃u,nc[i]? = some u∧VR ψ w (l[i]) u):∀v∈nc,v.oneCell'=true:=fun v hv=>by
 obtain⟨i,hi,rfl⟩:=List.getElem_of_mem hv
 obtain⟨u,q1,q2⟩:=h2 i (by omega)
 rw[List.getElem?_eq_getElem hi]at q1
 cases q1
 exact isCell_one q2 (hc _ (List.getElem_mem _))
theorem flat_isCell{els:List AV}(h:∀e∈els,e.cells.all AV.isCell=true):∀a∈flat els,a.isCell=true:=fun a ha=>by
 simp only[flat,List.mem_flatMap]at ha
 obtain⟨e,he,ha⟩:=ha
 exact(List.all_eq_true.1 (h e he)) a ha
theorem append_sound(S:Sim ψ w h){ts:Array TypeId}{t1 t2 ty:TypeId}{s x:AV}{sv xv:Value}{r:AV × Hp μ}(h0:ts[0]? = some t1)(h1:ts[1]? = some t2)(hl:appendAV P h t1 t2 s x=some r)(hs:VR ψ w s sv)(hx:VR ψ w x xv) :
  ∃u w' ψ',(Builtin.append_ ts ty #[sv,xv]).run P w=.ok u w'∧Ext ψ w ψ' w'∧Sim ψ' w' r.2∧VR ψ' w' r.1 u:=by
 unfold appendAV at hl
 cases hu:P.underlying t1 with
 | none=>rw[hu]at hl;cases hl
 | some d=>
  cases hu2:P.underlying t2 with
  | none=>rw[hu,hu2]at hl;cases d <;> cases hl
  | some d2=>
   rw[hu,hu2]at hl
   cases d <;> try (cases hl;done)
   rename_i e
   simp only at hl
   cases hi:P.info? e with
   | none=>simp[tsize,hi]at hl
   | some i=>
    cases hga:tagg P e with
    | none=>simp[tsize,hi,hga]at hl
    | some ag=>
    cases hz:i.zero with
    | none=>simp[tsize,tbytes,tzero,hi,hz,hga]at hl
    | some zv=>
     have e1:tsize P e=some i.size:=by simp[tsize,hi]
     have e2:tbytes P e=some i.bytes:=by simp[tbytes,hi]
     have e3:tzero P e=some (ofVal zv):=by simp[tzero,hi,hz]
     rw[e1,hga,e2,e3]at hl
     simp only[Option.bind_some]at hl
     cases hnew:(if isIntD d2=true then zeroEls (ofVal zv) i.bytes x else newEls h i.size ag x)with
     | none=>rw[hnew]at hl;cases hl
     | some new=>
      rw[hnew]at hl
      simp only[Option.bind_some]at hl
      by_cases hsz0:i.size=0∨i.bytes=0∨(ofVal zv).cells.length≠i.size∨(ofVal zv).cells.all AV.isCell=false∨(ag=false∧i.size≠1)
      ·rw[if_pos hsz0]at hl;cases hl
      rw[if_neg hsz0]at hl
      unfold appendTo at hl
      simp only[not_or,Bool.not_eq_false,Decidable.not_not]at hsz0
      obtain⟨z1,z2,z3,z4,z5⟩:=hsz0
      have hsz:0<i.size:=by omega
      have hbz:0<i.bytes:=by omega
      have hzs:zv.cells.size=i.size:=zero_size z3
      have hzI:CellsI (ofVal zv).cells:=fun x hx=>List.all_eq_true.1 z4 x hx
      obtain⟨nc,nA,nB,n3,n4,n5⟩:∃nc:List Value,Appended P t2 e i xv new.length nc w w∧Appended P t2 e i xv new.length nc w w.drew∧nc.length=(flat new).length∧(∀e∈new,e.cells.length=i.size∧e.cells.all AV.isCell=true) ∧
        ∀i (hi:i<(flat new).length),∃u,nc[i]? = some u∧VR ψ w ((flat new)[i]) u:=by
       by_cases hd:isIntD d2=true
       ·rw[if_pos hd]at hnew
        unfold zeroEls at hnew
        split at hnew
        case h_2=>cases hnew
        rename_i l
        split at hnew
        case isFalse=>cases hnew
        rename_i hcond
        cases hnew
        cases hx
        have hk:∃k,d2=.int k:=by cases d2 <;> simp[isIntD]at hd;exact⟨_,rfl⟩
        obtain⟨k,rfl⟩:=hk
        have hz1:=zero_size z3
        have hl':((l.toNat:Nat):Int)=l:=by omega
        have hA:∀w':World,Appended P t2 e i (.int .i64 l) (List.replicate l.toNat (ofVal zv)).length (Builtin.zeroCells zv.cells l.toNat).toList w w':=fun w'=>
         .inr ⟨k,zv,hu2,hz,by rw[List.length_replicate,hl'],by rw[List.length_replicate,hl'];exact hcond.2.1,by rw[List.length_replicate];omega,by rw[List.length_replicate],z1⟩
        have hm:=made_rel (ψ:=ψ) (w:=w) (z:=ofVal zv) (zv:=zv) (n:=i.size) (len:=l.toNat) (m:=l.toNat*zv.cells.size) rfl z4 z3 (by omega) (by rw[hz1];exact Nat.le_refl _)
        refine⟨(Builtin.zeroCells zv.cells l.toNat).toList,hA _,hA _,?_,fun e he=>?_,fun i hi=>?_⟩
        ·have:=flat_length (sz:=i.size) (els:=List.replicate l.toNat (ofVal zv)) (fun e he=>by rw[List.eq_of_mem_replicate he];exact z3)
         rw[this,List.length_replicate,Array.length_toList,size_zeroCells,hz1]
        ·rw[List.eq_of_mem_replicate he];exact⟨z3,z4⟩
        ·obtain⟨u,q1,q2⟩:=hm.2 i hi
         exact⟨u,by rw[Array.getElem?_toList];exact q1,q2⟩
       ·rw[if_neg hd]at hnew
        simp only[Bool.not_eq_true]at hd
        obtain⟨nc,n1,n2,n3,n4,n5⟩:=newEls_src (P:=P) S hnew hx
        exact⟨nc,.inl ⟨d2,hu2,hd,n1,n2 w rfl⟩,.inl ⟨d2,hu2,hd,n1,n2 w.drew rfl⟩,n3,n4,n5⟩
      have nfl:=flat_length (fun e he=>(n4 e he).1)
      have none1:=oneCell_of n3 (flat_isCell fun e he=>(n4 e he).2) n5
      have grow:∀(base:Option Addr) (els:List AV) (cap:Nat) (oc:List Value),(Builtin.firstCells i.size els.length (.slice base els.length cap)).run P w.drew=.ok oc.toArray w.drew→oc.length=(flat els).length →
        (∀k (hk:k<(flat els).length),∃u,oc[k]? = some u∧VR ψ w ((flat els)[k]) u)→(∀x∈els,x.cells.length=i.size∧x.cells.all AV.isCell=true)→cap<els.length+new.length→(els.length+new.length)*i.bytes≤2 ^ 40 →
        ∃u w',(Builtin.append_ ts ty #[.slice base els.length cap,xv]).run P w=.ok u w' ∧
        (∃ψ',Ext ψ w ψ' w'∧Sim ψ' w' (newSeq h.drew e i.size ag (ofVal zv).cells (h.grown (els.length+new.length) cap e) (els++new)).2∧VR ψ' w' (newSeq h.drew e i.size ag (ofVal zv).cells (h.grown (els.length+new.length) cap e) (els++new)).1 u) ∧
        (∃ψ',Ext ψ w ψ' w'∧Sim ψ' w' (newRs h.drew i.size ag (ofVal zv).cells (h.grown (els.length+new.length) cap e) (els++new)).2∧VR ψ' w' (newRs h.drew i.size ag (ofVal zv).cells (h.grown (els.length+new.length) cap e) (els++new)).1 u):=by
       intro base els cap oc ho ho1 ho2 hel hno hb
       have hle:(els.length+new.length)≤(els.length+new.length)*i.bytes:=Nat.le_mul_of_pos_right _ hbz
       have ofl:=flat_length (fun e he=>(hel e he).1)
       have hrun:=append_grows (P:=P) (w:=w) (ty:=ty) h0 h1 hu hi hz (base:=base) (sl:=els.length) (cap:=cap) nB ho hno (by omega) (by omega) hbz
       have hge:=grownCap_ge w (els.length+new.length) cap e
       rw[grown_eq S]
       have hc:=(CellsR.append (ψ:=ψ) (w:=w) (a:=flat (els++new)) (x:=oc.toArray++nc.toArray)
        (by have:=cells_two (ψ:=ψ) (w:=w) (els:=els) (new:=new) ho1 ho2 n3 n5 #[];simpa using this)
        (by simp[flat_append,ho1,n3]) (spare_cells z3 z4 hsz (grownCap w (els.length+new.length) cap e-(els.length+new.length))))
       obtain⟨E1,S1⟩:=drew_sound S
       have hall:∀x∈els++new,x.cells.length=i.size∧x.cells.all AV.isCell=true:=fun x hx=>(List.mem_append.1 hx).elim (hel x) (n4 x)
       refine⟨_,_,hrun,?_,?_⟩
       ·obtain⟨ψ',E,S',V⟩:=newSeq_sound S1 (e':=e) (sz:=i.size) (ag:=ag) (zc:=(ofVal zv).cells) (cap:=grownCap w (els.length+new.length) cap e) (els:=els++new) (e:=e) (fun x hx=>(hall x hx).1) (fun x hx=>(hall x hx).2) hzI z3 (by rw[List.length_append];exact hc.mono E1) (by rw[List.length_append];exact hge) (Pushed.alloc w.drew _)
        rw[List.length_append]at V
        exact⟨ψ',E1.trans E,S',V⟩
       ·obtain⟨ψ',E,S',V⟩:=newRs_sound S1 (sz:=i.size) (ag:=ag) (zc:=(ofVal zv).cells) (cap:=grownCap w (els.length+new.length) cap e) (els:=els++new) (e:=e) (by rw[List.length_append];exact hc.mono E1) (flat_I fun x hx=>(hall x hx).2) hzI (by rw[List.length_append];exact hge) (Pushed.alloc w.drew _)
        rw[List.length_append]at V
        exact⟨ψ',E1.trans E,S',V⟩
      cases hs with
      | nils=>
       simp only at hl
       by_cases hn0:new.length=0
       ·rw[if_pos hn0]at hl;cases hl
        have:=append_fits (P:=P) (w:=w) (ty:=ty) h0 h1 hu hi (base:=none) (sl:=0) (cap:=0) nA (by omega)
        rw[hn0]at this
        exact⟨_,w,ψ,this,Ext.refl _ _,S,.nils⟩
       ·rw[if_neg hn0]at hl
        by_cases hb:new.length*i.bytes≤2 ^ 40
        ·rw[if_pos hb]at hl;cases hl
         obtain⟨u,w',g1,⟨ψ',g2,g3,g4⟩,_⟩:=grow none [] 0 [] (by simp[Builtin.firstCells]) (by simp[flat]) (fun i hi=>by simp[flat]at hi) (by simp) (by simp;omega) (by simpa using hb)
         simp only[List.length_nil,Nat.zero_add,List.nil_append]at g1 g3 g4
         exact⟨u,w',ψ',g1,g2,g3,g4⟩
        ·rw[if_neg hb]at hl;cases hl
      | esl a cap=>
       simp only at hl
       by_cases hn0:new.length=0
       ·rw[if_pos hn0]at hl;cases hl
        have hnew0:new=[]:=List.eq_nil_of_length_eq_zero hn0
        subst hnew0
        have hnc:nc=[]:=List.eq_nil_of_length_eq_zero (by rw[n3];rfl)
        subst hnc
        have:=append_fits (P:=P) (w:=w) (ty:=ty) h0 h1 hu hi (base:=some a) (sl:=0) (cap:=cap) nA (by simp)
        simp only[storeCells,Sem.run_pure,Result.andThen_ok,List.length_nil,Nat.add_zero]at this
        exact⟨_,w,ψ,this,Ext.refl _ _,S,.esl a cap⟩
       ·rw[if_neg hn0]at hl
        by_cases hb:new.length*i.bytes≤2 ^ 40∧cap<new.length
        ·rw[if_pos hb]at hl;cases hl
         obtain⟨u,w',g1,⟨ψ',g2,g3,g4⟩,_⟩:=grow (some a) [] cap [] (by simp[Builtin.firstCells,loadCells,loadCellsFrom]) (by simp[flat]) (fun i hi=>by simp[flat]at hi) (by simp) (by simpa using hb.2) (by simpa using hb.1)
         simp only[List.length_nil,Nat.zero_add,List.nil_append]at g1 g3 g4
         exact⟨u,w',ψ',g1,g2,g3,g4⟩
        ·rw[if_neg hb]at hl;cases hl
      | sl g off sz' cap els B p cs hgn hg he hsz' hic hc hv hlen hcap hfr=>
       simp only at hl
       by_cases hsq:sz'≠i.size
       ·rw[if_pos hsq]at hl;cases hl
       rw[if_neg hsq]at hl
       simp only[Decidable.not_not]at hsq
       subst hsq
       have ofl:=flat_length hsz'
       have o2:∀k (hk:k<(flat els).length),∃u,((List.range (flat els).length).map cs)[k]? = some u∧VR ψ w ((flat els)[k]) u:=fun k hk=>⟨cs k,by rw[List.getElem?_map,List.getElem?_range hk];rfl,hv k hk⟩
       have ho:(Builtin.firstCells i.size els.length (.slice (some ⟨B,p,none⟩) els.length cap)).run P w.drew=.ok ((List.range (flat els).length).map cs).toArray w.drew:=by
        simp only[Builtin.firstCells]
        rw[loadCells_run (w:=w.drew) (cs:=cs) (fun j hj=>(World.cell?_drew w _).trans (hc j (by omega)))]
        congr 1
        apply Array.toList_inj.1
        simp[Array.toList_map,ofl]
       have hall1:∀x∈els++new,x.cells.length=i.size:=fun x hx=>(List.mem_append.1 hx).elim (hsz' x) fun h=>(n4 x h).1
       have hall2:∀x∈els++new,x.cells.all AV.isCell=true:=fun x hx=>(List.mem_append.1 hx).elim (hic x) fun h=>(n4 x h).2
       by_cases hn0:new.length=0
       ·rw[if_pos hn0]at hl;cases hl
        have hnew0:new=[]:=List.eq_nil_of_length_eq_zero hn0
        subst hnew0
        have hnc:nc=[]:=List.eq_nil_of_length_eq_zero (by rw[n3];rfl)
        subst hnc
        have:=append_fits (P:=P) (w:=w) (ty:=ty) h0 h1 hu hi (base:=some ⟨B,p,none⟩) (sl:=els.length) (cap:=cap) nA (by simpa using hcap)
        simp only[storeCells,Sem.run_pure,Result.andThen_ok,List.length_nil,Nat.add_zero]at this
        exact⟨_,w,ψ,this,Ext.refl _ _,S,.sl g off i.size cap els B p cs hgn hg he hsz' hic hc hv hlen hcap hfr⟩
       rw[if_neg hn0]at hl
       by_cases hb:(els.length+new.length)*i.bytes≤2 ^ 40
       ·rw[if_pos hb]at hl
        by_cases hno:cap<els.length+new.length
        ·rw[if_pos hno]at hl
         cases hl
         obtain⟨u,w',g1,⟨ψ',g2,g3,g4⟩,_⟩:=grow (some ⟨B,p,none⟩) els cap _ ho (by simp) o2 (fun x hx=>⟨hsz' x hx,hic x hx⟩) hno hb
         exact⟨u,w',ψ',g1,g2,g3,g4⟩
        ·rw[if_neg hno]at hl
         by_cases hfq:Mp.get h.len g=some (off+els.length)
         ·rw[if_pos hfq]at hl;cases hl
          have hlg:ψ.len g=some (off+els.length):=(S.len g).symm.trans hfq
          have hg0:g≠0:=fun h=>by rw[h,S.zero.1]at hlg;cases hlg
          have hfit:els.length+new.length≤cap:=by omega
          obtain⟨f1,f2,f3⟩:=hfr (by omega) _ hlg rfl
          obtain⟨_,_,c,e',fr,q1,q2,q3,_⟩:=S.blk g B f1
          have hmul:(els.length+new.length)*i.size≤cap*i.size:=Nat.mul_le_mul_right _ hfit
          rw[Nat.add_mul]at hmul
          obtain⟨w',c',r1,r2,r3,r4,r5⟩:=storeCells_run (P:=P) nc (p+els.length*i.size) 0 w c q1 (by rw[n3,nfl];omega) q3 none1
          have hrun:=append_fits (P:=P) (w:=w) (ty:=ty) h0 h1 hu hi (base:=some ⟨B,p,none⟩) (sl:=els.length) (cap:=cap) nA hfit
          simp only[addr_add,r1,Result.andThen_ok]at hrun
          obtain⟨ψ',E,S',V⟩:=growIn_sound S (g:=g) (off:=off) (sz:=i.size) (p:=p) (cap:=cap) (els:=els) (new:=new) ⟨f1,f2,f3⟩ hfq hall1 hall2 hfit (by omega) q1 q3 r2 r3 r4
           (fun k hk=>⟨cs k,hc k hk,hv k hk⟩)
           (fun k hk=>by
            obtain⟨u,g1,g2⟩:=n5 k hk
            refine⟨u,?_,g2⟩
            rw[r5,if_pos (by omega)]
            rw[show p+els.length*i.size+k-(p+els.length*i.size+0)=k from by omega];exact g1)
           (fun j hj=>by rw[r5,if_neg (by omega)])
          exact⟨_,_,ψ',hrun,E,S',V⟩
         ·rw[if_neg hfq]at hl;cases hl
       ·rw[if_neg hb]at hl;cases hl
      | rs o off sz' ag' n cap B ho hcap=>
       simp only at hl
       by_cases hsq:sz'≠i.size∨ag'≠ag
       ·rw[if_pos hsq]at hl;cases hl
       rw[if_neg hsq]at hl
       simp only[not_or,Decidable.not_not]at hsq
       obtain⟨rfl,rfl⟩:=hsq
       by_cases hn0:new.length=0
       ·rw[if_pos hn0]at hl;cases hl
        have hnew0:new=[]:=List.eq_nil_of_length_eq_zero hn0
        subst hnew0
        have hnc:nc=[]:=List.eq_nil_of_length_eq_zero (by rw[n3];rfl)
        subst hnc
        have:=append_fits (P:=P) (w:=w) (ty:=ty) h0 h1 hu hi (base:=some ⟨B,off,none⟩) (sl:=n) (cap:=cap) nA (by simpa using hcap)
        simp only[storeCells,Sem.run_pure,Result.andThen_ok,List.length_nil,Nat.add_zero]at this
        exact⟨_,w,ψ,this,Ext.refl _ _,S,.rs o off i.size ag' n cap B ho hcap⟩
       rw[if_neg hn0]at hl
       by_cases hb:(n+new.length)*i.bytes≤2 ^ 40
       ·rw[if_pos hb]at hl
        by_cases hno:cap<n+new.length
        ·rw[if_pos hno]at hl
         simp only[Option.map_eq_some_iff]at hl
         obtain⟨els,hels,rfl⟩:=hl
         obtain⟨r1,f,r2,r3,r4⟩:=rsEls_sound S hels ho
         have ofl:=flat_length (fun e he=>(r4 e he).1)
         have ho':(Builtin.firstCells i.size els.length (.slice (some ⟨B,off,none⟩) els.length cap)).run P w.drew=.ok ((List.range (flat els).length).map f).toArray w.drew:=by
          simp only[Builtin.firstCells]
          rw[loadCells_run (w:=w.drew) (cs:=f) (fun j hj=>(World.cell?_drew w _).trans (r2 j (by rw[←r1];exact hj)))]
          congr 1
          apply Array.toList_inj.1
          simp[Array.toList_map,ofl]
         subst r1
         obtain⟨u,w',g1,_,⟨ψ',g2,g3,g4⟩⟩:=grow (some ⟨B,off,none⟩) els cap _ ho' (by simp) (fun k hk=>⟨f k,by rw[List.getElem?_map,List.getElem?_range hk];rfl,r3 k hk⟩) r4 hno hb
         exact⟨u,w',ψ',g1,g2,g3,g4⟩
        ·rw[if_neg hno]at hl
         cases hro:Mp.get h.obj o with
         | none=>rw[hro]at hl;cases hl
         | some ob=>
          rw[hro]at hl
          cases ob with
          | mp | iter | siter | loop | dead=>cases hl
          | row cs=>
           simp only at hl
           by_cases hle:off+(n+new.length)*i.size≤cs.length
           ·rw[if_pos hle]at hl;cases hl
            rw[Nat.add_mul]at hle
            obtain⟨w',r1,r2,r3⟩:=spliceRow_sound (P:=P) S (off:=off+n*i.size) (vs:=flat new) (nc:=nc) hro ho n3 n5 none1 (flat_I fun e he=>(n4 e he).2) (by omega)
            have hrun:=append_fits (P:=P) (w:=w) (ty:=ty) h0 h1 hu hi (base:=some ⟨B,off,none⟩) (sl:=n) (cap:=cap) nA (by omega)
            simp only[addr_add,r1,Result.andThen_ok]at hrun
            exact⟨_,w',ψ,hrun,r2,r3,.rs o off i.size ag' _ cap B (r2.obj o B ho) (by omega)⟩
           ·rw[if_neg hle]at hl;cases hl
       ·rw[if_neg hb]at hl;cases hl
      | _=>cases hl
end
end Go.Vn

/- The value machine: numbers, texts, conversions, cuts, lengths. No condition. -/
namespace Go.Vn
section
variable {μ:Type→Type} [Mp μ] {P:Program}
variable {ψ:Gh} {w:World} {h:Hp μ}
theorem ltB_eq:∀a b:List UInt8,ltB a b=Op.bytesLess a b
 | [],[]=>rfl
 | [],_::_=>rfl
 | _::_,[]=>rfl
 | a::x,b::y=>by simp only[ltB,Op.bytesLess,ltB_eq x y]
theorem eqB_eq:∀a b:List UInt8,eqB a b=(a == b)
 | [],[]=>rfl
 | [],_::_=>rfl
 | _::_,[]=>rfl
 | a::x,b::y=>by simp only[eqB,eqB_eq x y,List.cons_beq_cons]
theorem intBin_sound{op:BinOp}{t:TypeId}{k:IntKind}{a b:Int}{r:AV}(hl:intBin op k a b=some r):∃u,(Go.binOp op t (.int k a) (.int k b)).run P w=.ok u w∧VR ψ w r u:=by
 cases op <;> simp only[intBin]at hl
 case add=>cases hl;exact⟨_,by simp[Go.binOp,Op.intArith],.int _ _⟩
 case sub=>cases hl;exact⟨_,by simp[Go.binOp,Op.intArith],.int _ _⟩
 case mul=>cases hl;exact⟨_,by simp[Go.binOp,Op.intArith],.int _ _⟩
 case quo=>
  by_cases hb:b=0
  ·rw[if_pos hb]at hl;cases hl
  ·rw[if_neg hb]at hl;cases hl;exact⟨_,by simp[Go.binOp,Op.intDiv,hb],.int _ _⟩
 case rem=>
  by_cases hb:b=0
  ·rw[if_pos hb]at hl;cases hl
  ·rw[if_neg hb]at hl;cases hl;exact⟨_,by simp[Go.binOp,Op.intDiv,hb],.int _ _⟩
 case and=>cases hl;exact⟨_,by simp[Go.binOp,Op.intBits],.int _ _⟩
 case or=>cases hl;exact⟨_,by simp[Go.binOp,Op.intBits],.int _ _⟩
 case xor=>cases hl;exact⟨_,by simp[Go.binOp,Op.intBits],.int _ _⟩
 case andNot=>cases hl;exact⟨_,by simp[Go.binOp,Op.intBits],.int _ _⟩
 case eql=>cases hl;exact⟨.bool (a == b),by simp[Go.binOp,Op.intCmp],by rw[show(a == b)=decide (a=b)from by simp[BEq.beq]];exact .bool _⟩
 case neq=>cases hl;exact⟨.bool (a != b),by simp[Go.binOp,Op.intCmp],by rw[show(a != b) = !decide (a=b)from by simp[bne,BEq.beq]];exact .bool _⟩
 case lss=>cases hl;exact⟨.bool (decide (a<b)),by simp[Go.binOp,Op.intCmp],.bool _⟩
 case leq=>cases hl;exact⟨.bool (decide (a≤b)),by simp[Go.binOp,Op.intCmp],.bool _⟩
 case gtr=>cases hl;exact⟨.bool (decide (a>b)),by simp[Go.binOp,Op.intCmp],.bool _⟩
 case geq=>cases hl;exact⟨.bool (decide (a≥b)),by simp[Go.binOp,Op.intCmp],.bool _⟩
 all_goals cases hl
theorem shiftBin_sound{op:BinOp}(ho:op=.shl∨op=.shr){t:TypeId}{k k':IntKind}{a b:Int}{r:AV}(hl:shiftBin op k a b=some r):∃u,(Go.binOp op t (.int k a) (.int k' b)).run P w=.ok u w∧VR ψ w r u:=by
 unfold shiftBin at hl
 by_cases hb:b<0
 ·rw[if_pos hb]at hl;cases hl
 ·rw[if_neg hb]at hl
  rcases ho with rfl | rfl
  ·cases hl;exact⟨_,by simp[Go.binOp,Op.shift,hb],.int _ _⟩
  ·cases hl;exact⟨_,by simp[Go.binOp,Op.shift,hb],.int _ _⟩
theorem strBin_sound{op:BinOp}{t:TypeId}{a b:List UInt8}{r:AV}(hl:strBin op a b=some r):∃u,(Go.binOp op t (.string ⟨a.toArray⟩) (.string ⟨b.toArray⟩)).run P w=.ok u w∧VR ψ w r u:=by
 have h1:(ByteArray.mk a.toArray).toList=a:=ByteArray.toList_mk a
 have h2:(ByteArray.mk b.toArray).toList=b:=ByteArray.toList_mk b
 cases op <;> simp only[strBin]at hl
 case add=>
  by_cases hb:a.length+b.length≤2 ^ 46
  ·rw[if_pos hb]at hl;cases hl
   have hs:¬(((ByteArray.mk a.toArray).size+(ByteArray.mk b.toArray).size:Nat):Int)>IntKind.i64.max:=by
    simp only[ByteArray.size,List.size_toArray,IntKind.max,IntKind.signed,IntKind.bits];simp;omega
   refine⟨.string (ByteArray.mk a.toArray++ByteArray.mk b.toArray),by simp only[Go.binOp,Op.stringOp];rw[if_neg hs];rfl,?_⟩
   have:ByteArray.mk a.toArray++ByteArray.mk b.toArray=ByteArray.mk (a++b).toArray:=by
    apply ByteArray.ext;simp
   rw[this];exact .str _
  ·rw[if_neg hb]at hl;cases hl
 case eql=>cases hl;exact⟨.bool (a == b),by simp[Go.binOp,Op.stringOp],by rw[eqB_eq];exact .bool _⟩
 case neq=>cases hl;exact⟨.bool (!(a == b)),by simp[Go.binOp,Op.stringOp],by rw[eqB_eq];exact .bool _⟩
 case lss=>cases hl;exact⟨.bool (Op.bytesLess a b),by simp[Go.binOp,Op.stringOp],by rw[ltB_eq];exact .bool _⟩
 case leq=>cases hl;exact⟨.bool (Op.bytesLess a b || a == b),by simp[Go.binOp,Op.stringOp],by rw[ltB_eq,eqB_eq];exact .bool _⟩
 case gtr=>cases hl;exact⟨.bool (!(Op.bytesLess a b || a == b)),by simp[Go.binOp,Op.stringOp],by rw[ltB_eq,eqB_eq];exact .bool _⟩
 case geq=>cases hl;exact⟨.bool (!Op.bytesLess a b),by simp[Go.binOp,Op.stringOp],by rw[ltB_eq];exact .bool _⟩
 all_goals cases hl
theorem un_sound{op:UnOp}{x r:AV}{v:Value}(hl:unAV op x=some r)(hv:VR ψ w x v):∃u,(Op.unary op v).run P w=.ok u w∧VR ψ w r u:=by
 cases op <;> cases hv <;> simp only[unAV]at hl <;> cases hl
 ·exact⟨_,rfl,.int _ _⟩
 ·exact⟨_,rfl,.int _ _⟩
 ·exact⟨_,rfl,.bool _⟩
theorem cap_sound{ts:Array TypeId}{t ty:TypeId}{x r:AV}{v:Value}(h0:ts[0]? = some t)(hl:capAV P t x=some r)(hv:VR ψ w x v):∃u,(Builtin.cap_ ts ty #[v]).run P w=.ok u w∧VR ψ w r u:=by
 unfold capAV at hl
 cases hu:P.underlying t with
 | none=>rw[hu]at hl;cases hl
 | some d=>
  rw[hu]at hl
  cases d <;> (try simp only at hl) <;> try (cases hl;done)
  ·cases hv <;> cases hl
   ·exact⟨.int .i64 0,by simp[Builtin.cap_,h0,underlying_run hu,goInt],.int _ _⟩
   ·exact⟨_,by simp[Builtin.cap_,h0,underlying_run hu,goInt],.int _ _⟩
   ·exact⟨_,by simp[Builtin.cap_,h0,underlying_run hu,goInt],.int _ _⟩
   ·exact⟨_,by simp[Builtin.cap_,h0,underlying_run hu,goInt],.int _ _⟩
theorem len_sound{ts:Array TypeId}{t ty:TypeId}{x r:AV}{v:Value}(h0:ts[0]? = some t)(hl:lenAV P t x=some r)(hv:VR ψ w x v):∃u,(Builtin.len_ ts ty #[v]).run P w=.ok u w∧VR ψ w r u:=by
 unfold lenAV at hl
 cases hu:P.underlying t with
 | none=>rw[hu]at hl;cases hl
 | some d=>
  rw[hu]at hl
  cases d <;> (try simp only at hl) <;> try (cases hl;done)
  ·cases hv <;> cases hl
   rename_i s
   have hsz:(ByteArray.mk s.toArray).size=s.length:=by simp[ByteArray.size]
   exact⟨.int .i64 s.length,by simp[Builtin.len_,h0,underlying_run hu,goInt,hsz],.int _ _⟩
  ·cases hv <;> cases hl
   ·exact⟨.int .i64 0,by simp[Builtin.len_,h0,underlying_run hu,goInt],.int _ _⟩
   ·exact⟨.int .i64 0,by simp[Builtin.len_,h0,underlying_run hu,goInt],.int _ _⟩
   ·exact⟨_,by simp[Builtin.len_,h0,underlying_run hu,goInt],.int _ _⟩
   ·exact⟨_,by simp[Builtin.len_,h0,underlying_run hu,goInt],.int _ _⟩
  ·cases hl
   exact⟨_,by simp[Builtin.len_,h0,underlying_run hu,goInt],.int _ _⟩
  ·cases hv <;> cases hl
   exact⟨.int .i64 0,by simp[Builtin.len_,h0,underlying_run hu,goInt],.int _ _⟩
theorem bound_sound{x:AV}{v:Value}{y n:Nat}{code:BoundsCode}(hl:bound x y=some n)(hv:VR ψ w x v):(Instr.sliceBound v y code).run P w=.ok n w∧n≤y:=by
 cases hv <;> try (cases hl;done)
 rename_i k i
 simp only[bound]at hl
 by_cases hb:0≤i∧i≤y
 ·rw[if_pos hb]at hl;cases hl
  exact⟨by simp[Instr.sliceBound,asIntOf,hb],by omega⟩
 ·rw[if_neg hb]at hl;cases hl
def VRo(ψ:Gh)(w:World):Option AV→Option Value→Prop
 | none,none=>True
 | some a,some v=>VR ψ w a v
 | _,_=>False
theorem bounds_sound{isS:Bool}{len cap m h l:Nat}{lo hi mx:Option AV}{lv hv mv:Option Value}(r1:VRo ψ w lo lv)(r2:VRo ψ w hi hv)(r3:VRo ψ w mx mv)(hmh:(mx.isSome&&hi.isNone)=false)
  (h3:∀q,mx=some q→bound q cap=some m) (h3':mx=none→m=cap) (h2:∀q,hi=some q→bound q m=some h) (h2':hi=none→h=len) (h1:obound lo 0 h=some l) :
  (Instr.sliceBounds isS len cap lv hv mv).run P w=.ok (l,h,m) w:=by
 have key:∀(v:Value) (y n:Nat),(∀code,(Instr.sliceBound v y code).run P w=.ok n w)→∀code,(Instr.sliceBound v y code).run P w=.ok n w:=fun _ _ _ q=>q
 cases mx with
 | none=>
  cases mv with
  | some v=>cases r3
  | none=>
   obtain rfl:=h3' rfl
   cases hi with
   | none=>
    cases hv with
    | some v=>cases r2
    | none=>
     obtain rfl:=h2' rfl
     cases lo with
     | none=>cases lv with
      | some v=>cases r1
      | none=>simp only[obound]at h1;cases h1;simp[Instr.sliceBounds]
     | some q=>cases lv with
      | none=>cases r1
      | some v=>
       have b1:=key _ _ _ fun code=>(bound_sound (P:=P) (code:=code) h1 r1).1
       simp[Instr.sliceBounds,b1]
   | some q2=>
    cases hv with
    | none=>cases r2
    | some v2=>
     have b2:=key _ _ _ fun code=>(bound_sound (P:=P) (code:=code) (h2 _ rfl) r2).1
     cases lo with
     | none=>cases lv with
      | some v=>cases r1
      | none=>simp only[obound]at h1;cases h1;simp[Instr.sliceBounds,b2]
     | some q=>cases lv with
      | none=>cases r1
      | some v=>
       have b1:=key _ _ _ fun code=>(bound_sound (P:=P) (code:=code) h1 r1).1
       simp[Instr.sliceBounds,b1,b2]
 | some q3=>
  cases mv with
  | none=>cases r3
  | some v3=>
   have b3:=key _ _ _ fun code=>(bound_sound (P:=P) (code:=code) (h3 _ rfl) r3).1
   cases hi with
   | none=>simp at hmh
   | some q2=>
    cases hv with
    | none=>cases r2
    | some v2=>
     have b2:=key _ _ _ fun code=>(bound_sound (P:=P) (code:=code) (h2 _ rfl) r2).1
     cases lo with
     | none=>cases lv with
      | some v=>cases r1
      | none=>simp only[obound]at h1;cases h1;simp[Instr.sliceBounds,b2,b3]
     | some q=>cases lv with
      | none=>cases r1
      | some v=>
       have b1:=key _ _ _ fun code=>(bound_sound (P:=P) (code:=code) h1 r1).1
       simp[Instr.sliceBounds,b1,b2,b3]
theorem obound_le{x:Option AV}{d y n:Nat}(h:obound x d y=some n)(hd:d≤y):n≤y:=by
 cases x with
 | none=>simp only[obound]at h;cases h;exact hd
 | some v=>
  simp only[obound]at h
  cases v <;> try (cases h;done)
  simp only[bound]at h
  split at h
  ·cases h;omega
  ·cases h
theorem slice_sound{t:TypeId}{x r:AV}{v:Value}{lo hi mx:Option AV}{lv hv mv:Option Value}(hl:sliceAV P t x lo hi mx=some r)(hx:VR ψ w x v)(r1:VRo ψ w lo lv)(r2:VRo ψ w hi hv)(r3:VRo ψ w mx mv) :
  ∃u,(Instr.sliceAt t v lv hv mv).run P w=.ok u w∧VR ψ w r u:=by
 unfold sliceAV at hl
 cases hu:P.underlying t with
 | none=>rw[hu]at hl;cases hl
 | some d=>
  rw[hu]at hl
  cases hx <;> cases d <;> simp only at hl <;> try (cases hl;done)
  ·rename_i s
   by_cases hm:mx.isSome=true
   ·rw[if_pos hm]at hl;cases hl
   ·rw[if_neg hm]at hl
    have hmx:mx=none:=by cases mx <;> simp at hm ⊢
    subst hmx
    have hmv:mv=none:=by cases mv <;> simp[VRo]at r3 ⊢
    subst hmv
    cases h2:obound hi s.length s.length with
    | none=>rw[h2]at hl;cases hl
    | some hh=>
     rw[h2]at hl
     simp only[Option.bind_some]at hl
     cases h1:obound lo 0 hh with
     | none=>rw[h1]at hl;cases hl
     | some ll=>
      rw[h1]at hl;cases hl
      have hb:=bounds_sound (P:=P) (isS:=false) (len:=s.length) (cap:=s.length) (m:=s.length) r1 r2 r3 (by simp) (by simp) (fun _=>rfl) (fun q hq=>by subst hq;exact h2) (fun hq=>by subst hq;simp only[obound]at h2;cases h2;rfl) h1
      have hsz:(ByteArray.mk s.toArray).size=s.length:=by simp[ByteArray.size]
      have hle:=obound_le h2 (Nat.le_refl _)
      refine⟨.string ((ByteArray.mk s.toArray).extract ll hh),?_,?_⟩
      ·simp only[Instr.sliceAt,Instr.slice,Sem.run_bind,underlying_run hu,Result.andThen_ok,hsz,Option.isSome_none,Bool.false_eq_true,if_false,hb,Sem.run_pure]
      ·have:(ByteArray.mk s.toArray).extract ll hh=ByteArray.mk ((s.drop ll).take (hh-ll)).toArray:=by
        apply ByteArray.ext
        apply Array.toList_inj.1
        simp[ByteArray.data_extract]
       rw[this];exact .str _
  ·rename_i e
   cases hn:tsize P e with
   | none=>rw[hn]at hl;cases hl
   | some sz=>
   rw[hn]at hl
   simp only[Option.bind_some]at hl
   cases h3:obound mx 0 0 with
   | none=>rw[h3]at hl;cases hl
   | some m=>
    rw[h3]at hl
    simp only[Option.bind_some]at hl
    cases h2:obound hi 0 m with
    | none=>rw[h2]at hl;cases hl
    | some hh=>
     rw[h2]at hl
     simp only[Option.bind_some]at hl
     cases h1:obound lo 0 hh with
     | none=>rw[h1]at hl;cases hl
     | some ll=>
      rw[h1]at hl
      simp only[Option.bind_some]at hl
      by_cases hq:(mx.isSome&&hi.isNone)=true
      ·rw[if_pos hq]at hl;cases hl
      ·rw[if_neg hq]at hl;cases hl
       have m0:=obound_le h3 (Nat.le_refl _)
       have hh0:=obound_le h2 (by omega)
       have l0:=obound_le h1 (by omega)
       have em:m=0:=by omega
       have eh:hh=0:=by omega
       have el:ll=0:=by omega
       subst em eh el
       have hb:=bounds_sound (P:=P) (isS:=true) (len:=0) (cap:=0) (m:=0) (h:=0) (l:=0) r1 r2 r3 (by simpa only[Bool.not_eq_true]using hq) (fun q hq=>by subst hq;exact h3) (fun _=>rfl) (fun q hq=>by subst hq;exact h2) (fun _=>rfl) h1
       refine⟨.slice none 0 0,?_,.nils⟩
       simp[Instr.sliceAt,Instr.slice,underlying_run hu,hb,tsize_run hn]
  ·rename_i a cap e
   cases hn:tsize P e with
   | none=>rw[hn]at hl;cases hl
   | some sz=>
   rw[hn]at hl
   simp only[Option.bind_some]at hl
   cases h3:obound mx 0 0 with
   | none=>rw[h3]at hl;cases hl
   | some m=>
    rw[h3]at hl
    simp only[Option.bind_some]at hl
    cases h2:obound hi 0 0 with
    | none=>rw[h2]at hl;cases hl
    | some hh=>
     rw[h2]at hl
     simp only[Option.bind_some]at hl
     cases h1:obound lo 0 0 with
     | none=>rw[h1]at hl;cases hl
     | some ll=>
      rw[h1]at hl
      simp only[Option.bind_some]at hl
      by_cases hq:(mx.isSome&&hi.isNone)=true
      ·rw[if_pos hq]at hl;cases hl
      ·rw[if_neg hq]at hl;cases hl
       have m0:=obound_le h3 (Nat.le_refl _)
       have hh0:=obound_le h2 (by omega)
       have l0:=obound_le h1 (by omega)
       have em:m=0:=by omega
       have eh:hh=0:=by omega
       have el:ll=0:=by omega
       subst em eh el
       have up:∀(q:AV) (y:Nat),bound q 0=some 0→bound q y=some 0:=fun q y h=>by
        unfold bound at h ⊢
        split at h
        ·rename_i k i
         split at h
         ·rename_i hc
          have:i=0:=by omega
          subst this
          simp
         ·cases h
        ·cases h
       have hb:=bounds_sound (P:=P) (isS:=true) (len:=0) (cap:=cap) (m:=if mx.isSome then 0 else cap) (h:=0) (l:=0) r1 r2 r3 (by simpa only[Bool.not_eq_true]using hq)
        (fun q hq=>by subst hq;simp only[Option.isSome_some,if_true];exact up q cap h3) (fun hq=>by subst hq;rfl) (fun q hq=>by subst hq;exact up q _ h2) (fun _=>rfl) h1
       refine⟨.slice (some a) 0 (if mx.isSome then 0 else cap),?_,.esl a _⟩
       simp[Instr.sliceAt,Instr.slice,underlying_run hu,hb,tsize_run hn,Addr.add]
  ·rename_i g off sz cap els B p cs hgn hg he hsz hic hc hvv hlen hcap hfr e
   by_cases hq:(mx.isSome&&hi.isNone || tsize P e != some sz)=true
   ·rw[if_pos hq]at hl;cases hl
   ·rw[if_neg hq]at hl
    simp only[Bool.or_eq_true,not_or,Bool.not_eq_true,bne_eq_false_iff_eq]at hq
    obtain⟨hq1,hq2⟩:=hq
    have hn:tsize P e=some sz:=hq2
    cases h3:obound mx els.length els.length with
    | none=>rw[h3]at hl;cases hl
    | some m=>
     rw[h3]at hl
     simp only[Option.bind_some]at hl
     cases h2:obound hi els.length m with
     | none=>rw[h2]at hl;cases hl
     | some hh=>
      rw[h2]at hl
      simp only[Option.bind_some]at hl
      cases h1:obound lo 0 hh with
      | none=>rw[h1]at hl;cases hl
      | some ll=>
       rw[h1]at hl
       simp only[Option.bind_some]at hl
       cases hl
       have hm:=obound_le h3 (Nat.le_refl _)
       have hhm:hh≤m:=by
        cases hi with
        | some q=>exact obound_le (x:=some q) (d:=0) h2 (Nat.zero_le _)
        | none=>
         simp only[obound]at h2
         cases h2
         cases mx with
         | none=>simp only[obound]at h3;cases h3;exact Nat.le_refl _
         | some q=>simp at hq1
       have hll:=obound_le h1 (by omega)
       have hb:∃M,hh≤M∧M≤cap∧(mx.isSome=true→M=m)∧(mx.isSome=false→M=cap)∧(Instr.sliceBounds true els.length cap lv hv mv).run P w=.ok (ll,hh,M) w:=by
        cases mx with
        | none=>
         simp only[obound]at h3;cases h3
         refine⟨cap,by omega,Nat.le_refl _,by simp,by simp,?_⟩
         refine bounds_sound (P:=P) r1 r2 r3 (by simp) (by simp) (fun _=>rfl) (fun q hq=>?_) (fun hq=>by subst hq;simp only[obound]at h2;cases h2;rfl) h1
         subst hq
         simp only[obound]at h2
         cases q <;> try (cases h2;done)
         rename_i k i
         simp only[bound]at h2 ⊢
         split at h2
         ·cases h2
          rename_i hx
          rw[if_pos (by omega)]
         ·cases h2
        | some q=>
         refine⟨m,hhm,by omega,by simp,by simp,?_⟩
         refine bounds_sound (P:=P) r1 r2 r3 hq1 (fun q' hq'=>?_) (by simp) (fun q hq=>by subst hq;exact h2) (fun hq=>by subst hq;simp at hq1) h1
         cases hq'
         simp only[obound]at h3
         cases q <;> try (cases h3;done)
         rename_i k i
         simp only[bound]at h3 ⊢
         split at h3
         ·cases h3
          rename_i hx
          rw[if_pos (by omega)]
         ·cases h3
       obtain⟨M,hM1,hM2,hM3,hM4,hrun⟩:=hb
       have hMv:(if mx.isSome=true then m else cap)=M:=by
        cases hmx:mx.isSome with
        | true=>simp[hM3 hmx]
        | false=>simp[hM4 hmx]
       rw[hMv]
       have hlen2:((els.drop ll).take (hh-ll)).length=hh-ll:=by rw[List.length_take,List.length_drop];omega
       have hmul1:ll*sz+(hh-ll)*sz≤els.length*sz:=by rw[←Nat.add_mul];exact Nat.mul_le_mul_right _ (by omega)
       have hsz':∀x∈(els.drop ll).take (hh-ll),x.cells.length=sz:=fun x hx=>hsz x (List.mem_of_mem_drop (List.mem_of_mem_take hx))
       have hic':∀x∈(els.drop ll).take (hh-ll),x.cells.all AV.isCell=true:=fun x hx=>hic x (List.mem_of_mem_drop (List.mem_of_mem_take hx))
       have hfl:=flat_length hsz
       have hfl':=flat_length hsz'
       rw[hlen2]at hfl'
       have hpart:∀i,i<(hh-ll)*sz→∃(h1:i<(flat ((els.drop ll).take (hh-ll))).length) (h2:ll*sz+i<(flat els).length),(flat ((els.drop ll).take (hh-ll)))[i]=(flat els)[ll*sz+i]:=fun i hi=>by
        have hszp:0<sz:=Nat.pos_of_ne_zero fun h=>by rw[h]at hi;simp at hi
        have hj:i / sz<hh-ll:=by rw[Nat.div_lt_iff_lt_mul hszp];exact hi
        have hi':i / sz*sz+i%sz=i:=by rw[Nat.mul_comm];exact Nat.div_add_mod i sz
        obtain⟨a1,a2⟩:=flat_getElem hsz' (i / sz) (by omega) (i%sz) (Nat.mod_lt _ hszp)
        obtain⟨b1,b2⟩:=flat_getElem hsz (ll+i / sz) (by omega) (i%sz) (Nat.mod_lt _ hszp)
        have e1:(ll+i / sz)*sz+i%sz=ll*sz+i:=by rw[Nat.add_mul];omega
        simp only[hi']at a1 a2
        simp only[e1]at b1 b2
        refine⟨a1,b1,?_⟩
        rw[a2,b2]
        simp only[List.getElem_take,List.getElem_drop]
       let p':=if M=ll then p else p+ll*sz
       have hp':(els≠[]→p'+(hh-ll)*sz≤ψ.com B)∧(M≠ll→p'=p+ll*sz):=by
        by_cases hML:M=ll
        ·have:hh-ll=0:=by omega
         simp only[p',if_pos hML,this,Nat.zero_mul]
         exact⟨fun hne=>by have:=he hne;omega,fun h=>absurd hML h⟩
        ·simp only[p',if_neg hML]
         exact⟨fun hne=>by have:=he hne;omega,fun _=>trivial⟩
       have hnn:(els.drop ll).take (hh-ll)≠[]→els≠[]:=fun h1 h2=>h1 (by rw[h2];simp)
       refine⟨.slice (some ⟨B,p',none⟩) ((els.drop ll).take (hh-ll)).length (M-ll),?_,?_⟩
       ·simp only[Instr.sliceAt,Instr.slice,Sem.run_bind,underlying_run hu,Result.andThen_ok,hrun,tsize_run hn,Sem.run_pure,hlen2,Option.map_some,addr_add,p']
        by_cases hML:M=ll
        ·simp only[if_pos hML]
        ·simp only[if_neg hML]
       ·refine .sl g (off+ll) sz (M-ll) _ B p' (fun i=>cs (ll*sz+i)) hgn (fun h=>hg (hnn h)) (fun h=>by rw[hlen2];exact hp'.1 (hnn h)) hsz' hic' (fun i hi=>?_) (fun i hi=>?_) (fun k hk=>?_) (by rw[hlen2];omega) (fun hlt k hk hke=>?_)
        ·rw[hfl']at hi
         obtain⟨a1,a2,a3⟩:=hpart i hi
         have hML:M≠ll:=fun h=>by
          have:hh-ll=0:=by omega
          rw[this]at hi;simp at hi
         rw[hp'.2 hML,Nat.add_assoc];exact hc _ a2
        ·rw[hfl']at hi
         obtain⟨a1,a2,a3⟩:=hpart i hi
         rw[a3];exact hvv _ a2
        ·have:=hlen k hk
         rw[hlen2];omega
        ·rw[hlen2]at hlt hke ⊢
         have hlk:=hlen k hk
         have hhe:hh=els.length:=by omega
         have hML:M≠ll:=by omega
         rw[hp'.2 hML]
         obtain⟨f1,f2,f3⟩:=hfr (by omega) k hk (by omega)
         have hm1:ll*sz+(hh-ll)*sz=els.length*sz:=by rw[←Nat.add_mul];congr 1;omega
         have hm2:ll*sz+(M-ll)*sz≤cap*sz:=by rw[←Nat.add_mul];exact Nat.mul_le_mul_right _ (by omega)
         exact⟨f1,by omega,by omega⟩
  ·rename_i o off sz ag n cap B ho hnc e
   by_cases hq:(mx.isSome&&hi.isNone || tsize P e != some sz)=true
   ·rw[if_pos hq]at hl;cases hl
   ·rw[if_neg hq]at hl
    simp only[Bool.or_eq_true,not_or,Bool.not_eq_true,bne_eq_false_iff_eq]at hq
    obtain⟨hq1,hq2⟩:=hq
    have hn:tsize P e=some sz:=hq2
    cases h3:obound mx cap cap with
    | none=>rw[h3]at hl;cases hl
    | some m=>
     rw[h3]at hl
     simp only[Option.bind_some]at hl
     cases h2:obound hi n m with
     | none=>rw[h2]at hl;cases hl
     | some hh=>
      rw[h2]at hl
      simp only[Option.bind_some]at hl
      cases h1:obound lo 0 hh with
      | none=>rw[h1]at hl;cases hl
      | some ll=>
       rw[h1]at hl
       simp only[Option.bind_some]at hl
       cases hl
       have hm:=obound_le h3 (Nat.le_refl _)
       have hhm:hh≤m:=by
        cases hi with
        | some q=>exact obound_le (x:=some q) (d:=0) h2 (Nat.zero_le _)
        | none=>
         simp only[obound]at h2
         cases h2
         cases mx with
         | none=>simp only[obound]at h3;cases h3;exact hnc
         | some q=>simp at hq1
       have hb:=bounds_sound (P:=P) (isS:=true) (len:=n) (cap:=cap) (m:=m) (h:=hh) (l:=ll) r1 r2 r3 hq1 (fun q hq=>by subst hq;exact h3) (fun hq=>by subst hq;simp only[obound]at h3;cases h3;rfl)
        (fun q hq=>by subst hq;exact h2) (fun hq=>by subst hq;simp only[obound]at h2;cases h2;rfl) h1
       refine⟨.slice (some ⟨B,if m=ll then off else off+ll*sz,none⟩) (hh-ll) (m-ll),?_,.rs o _ sz ag _ _ B ho (by omega)⟩
       simp only[Instr.sliceAt,Instr.slice,Sem.run_bind,underlying_run hu,Result.andThen_ok,hb,tsize_run hn,Sem.run_pure,Option.map_some,addr_add]
       by_cases hML:m=ll
       ·simp only[if_pos hML]
       ·simp only[if_neg hML]
end
end Go.Vn
