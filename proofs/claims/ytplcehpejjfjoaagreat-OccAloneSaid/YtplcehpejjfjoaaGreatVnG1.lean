/- The value machine: small laws that every seat needs; orders, and lists that are sorted. No condition. -/
import Derived.Test.YtplcehpejjfjoaaGreatVnB6
import Derived.Test.YtplcehpejjfjoaaGreatVnB5
set_option linter.unusedSimpArgs false
set_option linter.unusedVariables false
namespace Go.Vn
@[simp] theorem index_rs{P:Program}{t e o sz n cap:Nat}{ag:Bool}{k:IntKind}{i:Int}(hu:P.underlying t=some (.slice e))(hs:tsize P e=some sz)(h0:0≤i)(h1:i<n):indexAddrAV P t (.rs o 0 sz ag n cap) (.int k i)=some (.ptr o (i.toNat*sz)):=by
 simp[indexAddrAV,hu,hs,h0,h1]
@[simp] theorem len_rs{P:Program}{t e o off sz n cap:Nat}{ag:Bool}(hu:P.underlying t=some (.slice e)):lenAV P t (.rs o off sz ag n cap)=some (.int .i64 n):=by
 simp[lenAV,hu]
@[simp] theorem take_rs{P:Program}{t e o off sz n cap:Nat}{ag:Bool}{k:IntKind}{i:Int}(hu:P.underlying t=some (.slice e))(hs:tsize P e=some sz)(h0:0≤i)(h1:i≤n)(h2:n≤cap):sliceAV P t (.rs o off sz ag n cap) none (some (.int k i)) none=some (.rs o off sz ag i.toNat cap):=by
 have:i≤cap:=by omega
 simp[sliceAV,hu,hs,obound,bound,h0,this]
theorem SV.isCell{sz:Nat}{xs:List AV}{v:AV}(k:SV sz xs v):v.isCell=true:=by
 rcases k with⟨rfl,_⟩ | ⟨_,_,_,rfl⟩ | ⟨_,rfl,_⟩ <;> rfl
theorem SV.cells{sz:Nat}{xs:List AV}{v:AV}(k:SV sz xs v):v.cells=[v]:=by
 rcases k with⟨rfl,_⟩ | ⟨_,_,_,rfl⟩ | ⟨_,rfl,_⟩ <;> rfl
theorem wrap64{n:Int}(h0:-9223372036854775808≤n)(h1:n≤9223372036854775807):IntKind.i64.wrap n=n:=by
 simp only[IntKind.wrap,IntKind.signed,IntKind.bits]
 simp
 split <;> omega
@[simp] theorem wrap_l0:IntKind.i64.wrap 0=0:=by rfl
@[simp] theorem wrap_l1:IntKind.i64.wrap 1=1:=by rfl
@[simp] theorem wrap_l2:IntKind.i64.wrap 2=2:=by rfl
@[simp] theorem wrap_l3:IntKind.i64.wrap 3=3:=by rfl
@[simp] theorem wrap_l4:IntKind.i64.wrap 4=4:=by rfl
@[simp] theorem wrap_l5:IntKind.i64.wrap 5=5:=by rfl
@[simp] theorem wrap_l6:IntKind.i64.wrap 6=6:=by rfl
@[simp] theorem wrap_l7:IntKind.i64.wrap 7=7:=by rfl
@[simp] theorem wrap_l8:IntKind.i64.wrap 8=8:=by rfl
@[simp] theorem wrap_l9:IntKind.i64.wrap 9=9:=by rfl
@[simp] theorem wrap_l10:IntKind.i64.wrap 10=10:=by rfl
@[simp] theorem wrap_l11:IntKind.i64.wrap 11=11:=by rfl
@[simp] theorem wrap_l12:IntKind.i64.wrap 12=12:=by rfl
@[simp] theorem wrap_l13:IntKind.i64.wrap 13=13:=by rfl
@[simp] theorem wrap_l14:IntKind.i64.wrap 14=14:=by rfl
@[simp] theorem wrap_l15:IntKind.i64.wrap 15=15:=by rfl
@[simp] theorem wrap_l16:IntKind.i64.wrap 16=16:=by rfl
@[simp] theorem wrap_l17:IntKind.i64.wrap 17=17:=by rfl
@[simp] theorem wrap_l18:IntKind.i64.wrap 18=18:=by rfl
@[simp] theorem wrap_l19:IntKind.i64.wrap 19=19:=by rfl
@[simp] theorem wrap_l20:IntKind.i64.wrap 20=20:=by rfl
@[simp] theorem wrap_l21:IntKind.i64.wrap 21=21:=by rfl
@[simp] theorem wrap_l22:IntKind.i64.wrap 22=22:=by rfl
@[simp] theorem wrap_l23:IntKind.i64.wrap 23=23:=by rfl
@[simp] theorem wrap_l24:IntKind.i64.wrap 24=24:=by rfl
@[simp] theorem wrap_l25:IntKind.i64.wrap 25=25:=by rfl
@[simp] theorem wrap_l26:IntKind.i64.wrap 26=26:=by rfl
@[simp] theorem wrap_l27:IntKind.i64.wrap 27=27:=by rfl
@[simp] theorem wrap_l28:IntKind.i64.wrap 28=28:=by rfl
@[simp] theorem wrap_l29:IntKind.i64.wrap 29=29:=by rfl
@[simp] theorem wrap_l30:IntKind.i64.wrap 30=30:=by rfl
@[simp] theorem wrap_l31:IntKind.i64.wrap 31=31:=by rfl
@[simp] theorem wrap_l32:IntKind.i64.wrap 32=32:=by rfl
theorem with_loop{P:Program}{T:Tab}{g:Fx}{args:List AV}{h:Hp Fm}{Q:AV→Hp Fm→Prop}(y:Nat)(lr:ALoop Fm)(hg:Mp.get h.obj y=some (.loop lr))(k:∀lr',lr'=lr→Mp.get h.obj y=some (.loop lr')→A P T g args h Q):A P T g args h Q:=k lr rfl hg
theorem AC.ofX{h0 h h':Hp Fm}{sz:Nat}{acc:List AV}{v:AV}{S:Nat→Prop}(k:AC h0 h sz acc v)(he:HX S (fun _=>False) h h'):AC h0 h' sz acc v:=by
 rcases k with h | ⟨g,off,cap,a,b,c,d⟩
 ·exact .inl h
 ·exact .inr ⟨g,off,cap,a,(he.len g c (fun e=>e)).trans b,Nat.lt_of_lt_of_le c he.ng,d⟩
theorem SV.drop{P:Program}{t e:TypeId}{sz:Nat}{xs:List AV}{v:AV}(h:SV sz xs v)(hu:P.underlying t=some (.slice e))(hs:tsize P e=some sz){k:IntKind}{i:Int}(h0:0≤i)(h1:i≤xs.length) :
  ∃r,sliceAV P t v (some (.int k i)) none none=some r∧SV sz (xs.drop i.toNat) r:=by
 rcases h with⟨rfl,rfl⟩ | ⟨g,off,cp,rfl⟩ | ⟨c,rfl,rfl⟩
 ·have:i=0:=by simp at h1;omega
  subst this
  exact⟨.nils,by simp[sliceAV,hu,hs,obound,bound],.inl ⟨rfl,by simp⟩⟩
 ·have hz:(0:Int)≤xs.length:=by omega
  refine⟨.sl g (off+i.toNat) sz (cp-i.toNat) ((xs.drop i.toNat).take (xs.length-i.toNat)),by simp[sliceAV,hu,hs,obound,bound,h0,h1,hz],.inr (.inl ⟨g,off+i.toNat,cp-i.toNat,?_⟩)⟩
  rw[List.take_of_length_le (by simp)]
 ·have:i=0:=by simp at h1;omega
  subst this
  exact⟨.esl c,by simp[sliceAV,hu,hs,obound,bound],.inr (.inr ⟨c,rfl,by simp⟩)⟩
theorem HE.x2{a h h':Hp Fm}{S G:Nat→Prop}(k:HE a h)(hx:HX S G h h')(hS:∀q,S q→a.no≤q)(hG:∀g,G g→a.ng≤g):HE a h':=
 ⟨Nat.le_trans k.no hx.no,Nat.le_trans k.ng hx.ng,hx.pol.trans k.pol,
  fun q hq=>(hx.obj q (Nat.lt_of_lt_of_le hq k.no) (fun e=>by have:=hS q e;omega)).trans (k.obj q hq),
  fun g hg=>(hx.len g (Nat.lt_of_lt_of_le hg k.ng) (fun e=>by have:=hG g e;omega)).trans (k.len g hg)⟩
theorem RS.rows{lo:Nat}{h:Hp Fm}{sz:Nat}{ag:Bool}{els:List AV}{v:AV}(k:RS lo h sz ag els v):∀q,isRow v q→lo≤q:=by
 rcases k with⟨rfl,_⟩ | ⟨o,cap,rfl,hlo,_⟩
 ·rintro q ⟨_,_,_,_,_,e⟩;cases e
 ·rintro q ⟨_,_,_,_,_,e⟩;injection e with e;omega
theorem RS.he{lo:Nat}{h h':Hp Fm}{sz:Nat}{ag:Bool}{els:List AV}{v:AV}(k:RS lo h sz ag els v)(he:HE h h'):RS lo h' sz ag els v:=
 k.of (he.x (fun _=>False) (fun _=>False)) (fun _ _ e=>e)
theorem RS.last{lo:Nat}{h:Hp Fm}{sz:Nat}{ag:Bool}{acc:List AV}{a x:AV}{v:AV}(k:RS lo h sz ag (acc++[a]) v)(hf:∀e∈acc,Fit ag sz e)(ha:Fit ag sz a)(hx:Fit ag sz x) :
  ∃o cap cs,v=.rs o 0 sz ag (acc.length+1) cap∧Mp.get h.obj o=some (.row cs)∧acc.length*sz+sz≤cs.length∧lo≤o∧RS lo { h with obj:=Mp.set h.obj o (.row (splice cs (acc.length*sz) x.cells)) } sz ag (acc++[x]) v:=by
 rcases k with⟨_,e⟩ | ⟨o,cap,rfl,hlo,⟨J,h1,h2⟩,hc,ho⟩
 ·simp at e
 ·have e1:(acc++[a]).flatMap AV.cells++J=acc.flatMap AV.cells++(a.cells++J):=by simp
  have e2:=fits_len hf
  refine⟨o,cap,_,by simp,h1,?_,hlo,.inr ⟨o,cap,by simp,hlo,⟨J,?_,by simpa using h2⟩,by simpa using hc,ho⟩⟩
  ·rw[e1,List.length_append,e2,List.length_append,ha.len];omega
  ·simp only[Mp.get_set,if_true,splice]
   have e3:(acc.flatMap AV.cells++(a.cells++J)).take (acc.length*sz)=acc.flatMap AV.cells:=by rw[←e2,List.take_left]
   have e4:(acc.flatMap AV.cells++(a.cells++J)).drop (acc.length*sz+x.cells.length)=J:=by
    rw[←List.drop_drop,←e2,List.drop_left,hx.len,←ha.len,List.drop_left]
   rw[e1,e3,e4];simp
theorem RS.frz{lo:Nat}{h:Hp Fm}{sz:Nat}{ag:Bool}{els:List AV}{v:AV}(k:RS lo h sz ag els v)(hf:∀e∈els,Fit ag sz e)(h0:0<sz)(h1:ag=false→sz=1) :
  SV sz els (Vn.frz 3 v h).1∧HX (isRow v) (fun _=>False) h (Vn.frz 3 v h).2:=by
 rcases k with⟨rfl,rfl⟩ | ⟨o,cap,rfl,hlo,⟨J,h2,h3⟩,hc,ho⟩
 ·exact⟨.inl ⟨rfl,rfl⟩,HX.refl _ _ _⟩
 ·have hl:(els.flatMap AV.cells++J).length=cap*sz:=by
   rw[List.length_append,fits_len hf,h3,←Nat.add_mul];congr 1;omega
  have hle:¬(els.flatMap AV.cells++J).length<0+cap*sz:=by omega
  have hels:rsEls h o 0 sz ag els.length=some els:=by
   simp only[rsEls,h2]
   rw[if_pos ⟨h0,h1,by rw[List.length_append,fits_len hf];omega⟩,List.drop_zero,chunk_fit els J hf]
  simp only[Vn.frz,h2,hels,if_neg hle]
  exact⟨.inr (.inl ⟨_,_,_,rfl⟩),((HX.refl _ _ h).set (fun _=>⟨_,_,_,_,_,rfl⟩) _).newSl _⟩
section
variable {E:Type}
structure CmpOk(c:E→E→Int):Prop where
 anti:∀a b,c a b<0↔0<c b a
 zero:∀a b,c a b=0↔c b a=0
 tr:∀a b d,c a b≤0→c b d≤0→c a d≤0
 tz:∀a b d,c a b=0→c b d=0→c a d=0
 ltl:∀a b d,c a b<0→c b d≤0→c a d<0
 ltr:∀a b d,c a b≤0→c b d<0→c a d<0
end
theorem CmpOk.pull{E D:Type}{c:E→E→Int}(k:CmpOk c)(f:D→E):CmpOk (fun a b=>c (f a) (f b)):=
 ⟨fun a b=>k.anti _ _,fun a b=>k.zero _ _,fun a b d=>k.tr _ _ _,fun a b d=>k.tz _ _ _,fun a b d=>k.ltl _ _ _,fun a b d=>k.ltr _ _ _⟩
theorem CmpOk.lex{E:Type}{c d:E→E→Int}(k:CmpOk c)(l:CmpOk d):CmpOk (fun a b=>if c a b≠0 then c a b else d a b):=by
 have g:∀a b,((if c a b≠0 then c a b else d a b)<0↔(c a b<0∨(c a b=0∧d a b<0)))∧(0<(if c a b≠0 then c a b else d a b)↔(0<c a b∨(c a b=0∧0<d a b)))∧((if c a b≠0 then c a b else d a b)=0↔(c a b=0∧d a b=0))∧((if c a b≠0 then c a b else d a b)≤0↔(c a b<0∨(c a b=0∧d a b≤0))):=by
  intro a b
  by_cases q:c a b=0
  ·rw[if_neg (by simp[q])];omega
  ·rw[if_pos q];omega
 constructor
 ·intro a b
  show(if c a b≠0 then c a b else d a b)<0↔0<(if c b a≠0 then c b a else d b a)
  rw[(g a b).1,(g b a).2.1]
  have:=k.anti a b;have:=l.anti a b;have:=k.zero a b
  omega
 ·intro a b
  show(if c a b≠0 then c a b else d a b)=0↔(if c b a≠0 then c b a else d b a)=0
  rw[(g a b).2.2.1,(g b a).2.2.1]
  have:=k.zero a b;have:=l.zero a b
  omega
 ·intro a b e h1 h2
  show(if c a e≠0 then c a e else d a e)≤0
  replace h1:=(g a b).2.2.2.mp h1;replace h2:=(g b e).2.2.2.mp h2
  rw[(g a e).2.2.2]
  have:=k.tz a b e;have:=k.ltl a b e;have:=k.ltr a b e;have:=l.tr a b e
  omega
 ·intro a b e h1 h2
  show(if c a e≠0 then c a e else d a e)=0
  replace h1:=(g a b).2.2.1.mp h1;replace h2:=(g b e).2.2.1.mp h2
  rw[(g a e).2.2.1]
  exact⟨k.tz a b e h1.1 h2.1,l.tz a b e h1.2 h2.2⟩
 ·intro a b e h1 h2
  show(if c a e≠0 then c a e else d a e)<0
  replace h1:=(g a b).1.mp h1;replace h2:=(g b e).2.2.2.mp h2
  rw[(g a e).1]
  have:=k.tz a b e;have:=k.ltl a b e;have:=k.ltr a b e;have:=l.ltl a b e
  omega
 ·intro a b e h1 h2
  show(if c a e≠0 then c a e else d a e)<0
  replace h1:=(g a b).2.2.2.mp h1;replace h2:=(g b e).1.mp h2
  rw[(g a e).1]
  have:=k.tz a b e;have:=k.ltl a b e;have:=k.ltr a b e;have:=l.ltr a b e
  omega
def alike{E:Type}(c:E→E→Int)(x:E)(l:List E):List E:=l.filter fun y=>decide (c y x=0)
def Sorted{E:Type}(c:E→E→Int):List E→Prop
 | []=>True
 | a::l=>(∀b∈l,c a b≤0)∧Sorted c l
theorem sorted_append{E:Type}{c:E→E→Int}:∀(l m:List E),Sorted c l→Sorted c m→(∀a∈l,∀b∈m,c a b≤0)→Sorted c (l++m)
 | [],m,_,hm,_=>hm
 | a::l,m,hl,hm,h=>by
  refine⟨fun b hb=>?_,sorted_append l m hl.2 hm fun x hx=>h x (List.mem_cons_of_mem _ hx)⟩
  rcases List.mem_append.mp hb with q | q
  ·exact hl.1 b q
  ·exact h a (List.mem_cons_self ..) b q
theorem sorted_split{E:Type}{c:E→E→Int}:∀(l m:List E),Sorted c (l++m)→Sorted c l∧Sorted c m∧∀a∈l,∀b∈m,c a b≤0
 | [],m,h=>⟨trivial,h,fun a ha=>by cases ha⟩
 | a::l,m,h=>by
  obtain⟨h1,h2,h3⟩:=sorted_split l m h.2
  refine⟨⟨fun b hb=>h.1 b (List.mem_append_left _ hb),h1⟩,h2,fun x hx b hb=>?_⟩
  rcases List.mem_cons.mp hx with q | q
  ·subst q;exact h.1 b (List.mem_append_right _ hb)
  ·exact h3 x q b hb
theorem sorted_last{E:Type}{c:E→E→Int}(k:CmpOk c){l:List E}(h:Sorted c l)(hn:l≠[]):∀a∈l,c a (l.getLast hn)≤0:=by
 intro a ha
 have e:=List.dropLast_concat_getLast hn
 rw[←e]at h ha
 obtain⟨_,_,h3⟩:=sorted_split _ _ h
 rcases List.mem_append.mp ha with q | q
 ·exact h3 a q _ (List.mem_singleton.mpr rfl)
 ·rw[List.mem_singleton.mp q]
  have:=k.anti (l.getLast hn) (l.getLast hn);omega
theorem put_in{E:Type}{c:E→E→Int}(k:CmpOk c){l m:List E}{x:E}(h:Sorted c (l++m))(hl:∀hn:l≠[],¬c x (l.getLast hn)<0)(hm:∀b∈m,c x b<0) :
  Sorted c (l++[x]++m)∧∀y,alike c y (l++[x]++m)=alike c y (l++m)++alike c y [x]:=by
 obtain⟨h1,h2,h3⟩:=sorted_split l m h
 have hlx:∀a∈l,c a x≤0:=by
  intro a ha
  have hn:l≠[]:=fun e=>by subst e;cases ha
  have q:=hl hn
  have:=k.anti x (l.getLast hn)
  have:=k.anti (l.getLast hn) x
  exact k.tr _ _ _ (sorted_last k h1 hn a ha) (by omega)
 refine⟨?_,fun y=>?_⟩
 ·rw[List.append_assoc]
  refine sorted_append l _ h1 ⟨fun b hb=>by have:=hm b (by simpa using hb);omega,by simpa using h2⟩ fun a ha b hb=>?_
  rcases List.mem_cons.mp (by simpa using hb:b∈x::m)with q | q
  ·subst q;exact hlx a ha
  ·exact h3 a ha b q
 ·simp only[alike,List.filter_append,List.append_assoc]
  congr 1
  by_cases q:c x y=0
  ·have:List.filter (fun z=>decide (c z y=0)) m=[]:=by
    rw[List.filter_eq_nil_iff]
    intro b hb hz
    have hz':c b y=0:=of_decide_eq_true hz
    have:=hm b hb
    have:=k.tz x y b q ((k.zero _ _).mp hz')
    omega
   rw[this];simp
  ·simp[q]
theorem sort_one{E:Type}{c:E→E→Int}(k:CmpOk c)(m:List E)(hm:Sorted c m)(x:E):∃m',Sorted c m'∧∀y,alike c y m'=alike c y m++alike c y [x]:=by
 have hsp:m.takeWhile (fun y => !decide (c x y<0))++m.dropWhile (fun y => !decide (c x y<0))=m:=List.takeWhile_append_dropWhile
 obtain⟨a,ha⟩:∃a,a=m.takeWhile (fun y => !decide (c x y<0)):=⟨_,rfl⟩
 obtain⟨b,hb⟩:∃b,b=m.dropWhile (fun y => !decide (c x y<0)):=⟨_,rfl⟩
 rw[←ha,←hb]at hsp
 have h1:∀y∈a,¬c x y<0:=by
  intro y hy
  rw[ha]at hy
  have:∀(l:List E),y∈l.takeWhile (fun y => !decide (c x y<0))→(!decide (c x y<0))=true:=by
   intro l
   induction l with
   | nil=>intro h;cases h
   | cons z r ih=>
    intro h
    rw[List.takeWhile_cons]at h
    split at h
    ·rename_i hz
     rcases List.mem_cons.mp h with e | e
     ·subst e;exact hz
     ·exact ih e
    ·cases h
  simpa using this m hy
 have h2:∀y∈b,c x y<0:=by
  have hs:Sorted c b:=by rw[←hsp]at hm;exact(sorted_split a b hm).2.1
  cases b with
  | nil=>intro y hy;cases hy
  | cons b0 r=>
   have h0:c x b0<0:=by
    have hne:m.dropWhile (fun y => !decide (c x y<0))≠[]:=by rw[←hb];simp
    have:=List.head_dropWhile_not (fun y => !decide (c x y<0)) hne
    simp only[←hb,List.head_cons]at this
    simpa using this
   intro y hy
   rcases List.mem_cons.mp hy with e | e
   ·subst e;exact h0
   ·exact k.ltl _ _ _ h0 (hs.1 y e)
 obtain⟨p1,p2⟩:=put_in k (l:=a) (m:=b) (x:=x) (by rw[hsp];exact hm) (fun hn=>h1 _ (List.getLast_mem hn)) h2
 exact⟨_,p1,fun y=>by rw[p2 y,hsp]⟩
theorem sort_all{E:Type}{c:E→E→Int}(k:CmpOk c)(l:List E):∃m,Sorted c m∧∀y,alike c y m=alike c y l:=by
 suffices h:∀n,∀l:List E,l.length=n→∃m,Sorted c m∧∀y,alike c y m=alike c y l from h _ l rfl
 intro n
 induction n with
 | zero=>intro l hl;exact⟨[],trivial,fun y=>by rw[List.length_eq_zero_iff.mp hl]⟩
 | succ n ih=>
  intro l hl
  have hne:l≠[]:=fun e=>by rw[e]at hl;simp at hl
  obtain⟨m,h1,h2⟩:=ih l.dropLast (by simp;omega)
  obtain⟨m',h3,h4⟩:=sort_one k m h1 (l.getLast hne)
  refine⟨m',h3,fun y=>?_⟩
  rw[h4 y,h2 y]
  have:=congrArg (alike c y) (List.dropLast_concat_getLast hne)
  rw[←this]
  unfold alike;rw[List.filter_append]
def cmpI(a b:Int):Int:=if a<b then -1 else if a>b then 1 else 0
theorem cmpI_ok:CmpOk cmpI:=by
 constructor <;> intros <;> unfold cmpI at * <;> (repeat' split at *) <;> omega
@[simp] theorem len_sl{P:Program}{t e g o sz cp:Nat}{xs:List AV}(hu:P.underlying t=some (.slice e)):lenAV P t (.sl g o sz cp xs)=some (.int .i64 xs.length):=by
 simp[lenAV,hu]
@[simp] theorem index_sl{P:Program}{t e g o sz cp:Nat}{xs:List AV}{k:IntKind}{i:Int}(hu:P.underlying t=some (.slice e))(hs:tsize P e=some sz)(h0:0≤i):indexAddrAV P t (.sl g o sz cp xs) (.int k i)=(xs[i.toNat]?).map fun v=>.el v 0:=by
 simp[indexAddrAV,hu,hs,h0]
end Go.Vn

/- Texts have an order. No condition. -/
namespace Go.Vn
def cmpS(a b:List UInt8):Int:=if ltB a b then -1 else if ltB a b || eqB a b then 0 else 1
def first5(a b c d e:Int):Int:=if a≠0 then a else if b≠0 then b else if c≠0 then c else if d≠0 then d else e
theorem cmpS_nn:cmpS [] []=0:=rfl
theorem cmpS_nc(y:UInt8)(b:List UInt8):cmpS [] (y::b)=-1:=rfl
theorem cmpS_cn(x:UInt8)(a:List UInt8):cmpS (x::a) []=1:=rfl
theorem cmpS_cc(x y:UInt8)(a b:List UInt8):cmpS (x::a) (y::b)=if x.toNat<y.toNat then -1 else if y.toNat<x.toNat then 1 else cmpS a b:=by
 by_cases h1:x.toNat<y.toNat
 ·have:x<y:=UInt8.lt_iff_toNat_lt.mpr h1
  simp[cmpS,ltB,this,h1]
 ·have n1:¬x<y:=fun h=>h1 (UInt8.lt_iff_toNat_lt.mp h)
  rw[if_neg h1]
  by_cases h2:y.toNat<x.toNat
  ·have ne:(x == y)=false:=by
    rw[beq_eq_false_iff_ne];intro e;subst e;omega
   rw[if_pos h2]
   simp[cmpS,ltB,eqB,n1,ne]
  ·have e:x=y:=UInt8.toNat_inj.mp (by omega)
   subst e
   rw[if_neg h2]
   simp[cmpS,ltB,eqB,n1]
theorem cmpS_anti:∀a b:List UInt8,cmpS a b=- cmpS b a
 | [],[]=>rfl
 | [],y::b=>rfl
 | x::a,[]=>rfl
 | x::a,y::b=>by
  have:=cmpS_anti a b
  rw[cmpS_cc,cmpS_cc]
  by_cases h1:x.toNat<y.toNat
  ·rw[if_pos h1,if_neg (by omega),if_pos h1]
  ·rw[if_neg h1]
   by_cases h2:y.toNat<x.toNat
   ·rw[if_pos h2,if_pos h2];omega
   ·rw[if_neg h2,if_neg h2,if_neg h1];exact this
theorem cmpS_tr:∀a b d:List UInt8,(cmpS a b≤0→cmpS b d≤0→cmpS a d≤0)∧(cmpS a b=0→cmpS b d=0→cmpS a d=0)∧(cmpS a b<0→cmpS b d≤0→cmpS a d<0)∧(cmpS a b≤0→cmpS b d<0→cmpS a d<0)
 | [],[],[]=>by simp[cmpS_nn]
 | [],[],z::d=>by simp[cmpS_nn,cmpS_nc]
 | [],y::b,[]=>by simp[cmpS_nn,cmpS_nc,cmpS_cn]
 | [],y::b,z::d=>by simp[cmpS_nc]
 | x::a,[],[]=>by simp[cmpS_cn]
 | x::a,[],z::d=>by simp[cmpS_cn]
 | x::a,y::b,[]=>by simp[cmpS_cn]
 | x::a,y::b,z::d=>by
  have ih:=cmpS_tr a b d
  rw[cmpS_cc,cmpS_cc,cmpS_cc]
  generalize cmpS a b=p at *
  generalize cmpS b d=q at *
  generalize cmpS a d=r at *
  repeat' split
  all_goals (try omega)
theorem cmpS_ok:CmpOk cmpS where
 anti:=fun a b=>by have:=cmpS_anti a b;omega
 zero:=fun a b=>by have:=cmpS_anti a b;omega
 tr:=fun a b d=>(cmpS_tr a b d).1
 tz:=fun a b d=>(cmpS_tr a b d).2.1
 ltl:=fun a b d=>(cmpS_tr a b d).2.2.1
 ltr:=fun a b d=>(cmpS_tr a b d).2.2.2
theorem cmpS_lt(a b:List UInt8):cmpS a b<0↔ltB a b=true:=by
 unfold cmpS;cases ltB a b <;> simp
 split <;> omega
end Go.Vn

/- The value machine: maps whose keys are texts, and loops over maps. No condition. -/
namespace Go.Vn
theorem eqB_dec(a b:List UInt8):eqB a b=decide (a=b):=by
 rw[eqB_eq]
 by_cases h:a=b <;> simp[h]
abbrev Ents(α:Type):Type:=List (List UInt8 × α × Nat)
def Ent{α:Type}(R:α→AV→Prop)(f:List UInt8 × α × Nat)(e:AV × AV × Nat):Prop:=e.1=.str f.1∧R f.2.1 e.2.1∧e.2.2=f.2.2
def EntsR{α:Type}(R:α→AV→Prop):Ents α→List (AV × AV × Nat)→Prop
 | [],[]=>True
 | f::fs,e::es=>Ent R f e∧EntsR R fs es
 | _,_=>False
section
variable {α:Type}
def lookF(k:List UInt8):Ents α→Option α
 | []=>none
 | f::fs=>if f.1=k then some f.2.1 else lookF k fs
def setF(k:List UInt8)(a:α)(clk:Nat):Ents α→Ents α
 | []=>[(k,a,clk)]
 | f::fs=>if f.1=k then(k,a,f.2.2)::fs else f::setF k a clk fs
def delF(k:List UInt8):Ents α→Ents α
 | []=>[]
 | f::fs=>if f.1=k then fs else f::delF k fs
def clkF(k:List UInt8)(clk:Nat)(fs:Ents α):Nat:=if (lookF k fs).isSome then clk else clk+1
structure Born(clk:Nat)(fs:Ents α):Prop where
 lt:∀f∈fs,f.2.2<clk
 nd:(fs.map (·.2.2)).Nodup
theorem setF_mem{k:List UInt8}{a:α}{clk:Nat}{fs:Ents α}{f:List UInt8 × α × Nat}(h:f∈setF k a clk fs):f∈fs∨(f.1=k∧f.2.1=a∧(f.2.2=clk∨∃g∈fs,g.2.2=f.2.2)):=by
 induction fs with
 | nil=>simp only[setF,List.mem_singleton]at h;subst h;exact .inr ⟨rfl,rfl,.inl rfl⟩
 | cons g fs ih=>
  simp only[setF]at h
  split at h
  ·rcases List.mem_cons.mp h with rfl | h
   ·exact .inr ⟨rfl,rfl,.inr ⟨g,by simp,rfl⟩⟩
   ·exact .inl (List.mem_cons_of_mem _ h)
  ·rcases List.mem_cons.mp h with rfl | h
   ·exact .inl (by simp)
   ·rcases ih h with h | ⟨h1,h2,h3⟩
    ·exact .inl (List.mem_cons_of_mem _ h)
    ·refine .inr ⟨h1,h2,?_⟩
     rcases h3 with h3 | ⟨g',h3,h4⟩
     ·exact .inl h3
     ·exact .inr ⟨g',List.mem_cons_of_mem _ h3,h4⟩
theorem setF_births{k:List UInt8}{a:α}{clk:Nat}(fs:Ents α):(setF k a clk fs).map (·.2.2)=if (lookF k fs).isSome then fs.map (·.2.2)else fs.map (·.2.2)++[clk]:=by
 induction fs with
 | nil=>rfl
 | cons g fs ih=>
  simp only[setF,lookF]
  split
  ·simp
  ·simp only[List.map_cons,ih]
   split <;> simp
theorem Born.set{clk:Nat}{fs:Ents α}(h:Born clk fs)(k:List UInt8)(a:α):Born (clkF k clk fs) (setF k a clk fs):=by
 constructor
 ·intro f hf
  unfold clkF
  have hl:f.2.2<clk+1:=by
   rcases setF_mem hf with h1 | ⟨_,_,h3 | ⟨g,h3,h4⟩⟩
   ·have:=h.lt f h1;omega
   ·omega
   ·have:=h.lt g h3;omega
  split
  ·rename_i hs
   have:=setF_births (k:=k) (a:=a) (clk:=clk) fs
   rw[if_pos hs]at this
   have hm:f.2.2∈(setF k a clk fs).map (·.2.2):=List.mem_map_of_mem hf
   rw[this]at hm
   obtain⟨g,hg,e⟩:=List.mem_map.mp hm
   have:=h.lt g hg;omega
  ·exact hl
 ·rw[setF_births]
  split
  ·exact h.nd
  ·rw[List.nodup_append]
   refine⟨h.nd,by simp,fun x hx y hy=>?_⟩
   simp only[List.mem_singleton]at hy
   obtain⟨g,hg,e⟩:=List.mem_map.mp hx
   have:=h.lt g hg;omega
theorem lookF_setF(k k':List UInt8)(a:α)(clk:Nat)(fs:Ents α):lookF k' (setF k a clk fs)=if k'=k then some a else lookF k' fs:=by
 induction fs with
 | nil=>
  simp only[setF,lookF]
  by_cases h:k'=k
  ·simp[h]
  ·have h2:k≠k':=fun e=>h e.symm
   simp[h,h2]
 | cons g fs ih=>
  simp only[setF]
  split
  ·rename_i hg
   simp only[lookF]
   by_cases h:k=k'
   ·simp[h]
   ·have h2:k'≠k:=fun e=>h e.symm
    have h3:g.1≠k':=fun e=>h (hg.symm.trans e)
    simp[h,h2,h3]
  ·rename_i hg
   simp only[lookF,ih]
   by_cases h:g.1=k'
   ·have h2:k'≠k:=fun e=>hg (h.trans e)
    simp[h,h2]
   ·simp[h]
variable {R:α→AV→Prop}
theorem EntsR.len{fs:Ents α}{es:List (AV × AV × Nat)}(h:EntsR R fs es):es.length=fs.length:=by
 induction fs generalizing es with
 | nil=>cases es with
  | nil=>rfl
  | cons _ _=>exact h.elim
 | cons f fs ih=>cases es with
  | nil=>exact h.elim
  | cons e es=>simp[ih h.2]
theorem EntsR.births{fs:Ents α}{es:List (AV × AV × Nat)}(h:EntsR R fs es):es.map (·.2.2)=fs.map (·.2.2):=by
 induction fs generalizing es with
 | nil=>cases es with
  | nil=>rfl
  | cons _ _=>exact h.elim
 | cons f fs ih=>cases es with
  | nil=>exact h.elim
  | cons e es=>simp[ih h.2,h.1.2.2]
theorem EntsR.mem{fs:Ents α}{es:List (AV × AV × Nat)}(h:EntsR R fs es){e:AV × AV × Nat}(he:e∈es):∃f∈fs,Ent R f e:=by
 induction fs generalizing es with
 | nil=>cases es with
  | nil=>cases he
  | cons _ _=>exact h.elim
 | cons f fs ih=>cases es with
  | nil=>exact h.elim
  | cons e' es=>
   rcases List.mem_cons.mp he with rfl | he
   ·exact⟨f,by simp,h.1⟩
   ·obtain⟨g,h1,h2⟩:=ih h.2 he
    exact⟨g,List.mem_cons_of_mem _ h1,h2⟩
theorem eqlAV_str{P:Program}{kt:TypeId}(hu:P.underlying kt=some .string)(d:Nat)(a b:List UInt8):eqlAV P (d+1) kt (.str a) (.str b)=some (decide (a=b)):=by
 rw[←eqB_dec]
 simp[eqlAV,hu]
theorem findAV_ents{P:Program}{kt:TypeId}(hu:P.underlying kt=some .string)(k:List UInt8):∀(fs:Ents α) (es:List (AV × AV × Nat)) (i0:Nat),EntsR R fs es →
  (lookF k fs=none∧findAV P kt (.str k) es i0=some none)∨∃a i v st,lookF k fs=some a∧R a v∧findAV P kt (.str k) es i0=some (some (i0+i,v))∧es[i]? = some (.str k,v,st):=by
 intro fs
 induction fs with
 | nil=>intro es i0 h;cases es with
  | nil=>exact .inl ⟨rfl,rfl⟩
  | cons _ _=>exact h.elim
 | cons f fs ih=>intro es i0 h;cases es with
  | nil=>exact h.elim
  | cons e es=>
   obtain⟨⟨h1,h2,h3⟩,h4⟩:=h
   obtain⟨ek,ev,est⟩:=e
   simp only at h1 h2 h3
   subst h1
   simp only[findAV,eqlAV_str hu 19,lookF]
   by_cases hk:f.1=k
   ·rw[if_pos hk,show decide (k=f.1)=true from by simp[hk]]
    exact .inr ⟨f.2.1,0,ev,est,rfl,h2,by simp,by simp[hk]⟩
   ·rw[if_neg hk,show decide (k=f.1)=false from by simp[Ne.symm hk]]
    rcases ih es (i0+1) h4 with⟨a1,a2⟩ | ⟨a,i,v,st,a1,a2,a3,a4⟩
    ·exact .inl ⟨a1,a2⟩
    ·exact .inr ⟨a,i+1,v,st,a1,a2,by simp only;rw[a3];congr 2;simp;omega,by simpa using a4⟩
theorem checkAV_str{P:Program}{kt:TypeId}(hu:P.underlying kt=some .string)(d:Nat)(v:AV):checkAV P (d+1) kt v=true:=by
 simp[checkAV,hu]
theorem lookup_none{P:Program}{h:Hp Fm}{t kt et m clk:Nat}{fs:Ents α}{es:List (AV × AV × Nat)}{k:List UInt8}{z:AV}(ht:P.underlying t=some (.map kt et))(hu:P.underlying kt=some .string)(hz:tzero P et=some z)(hm:Mp.get h.obj m=some (.mp es clk))(he:EntsR R fs es)(hl:lookF k fs=none) :
  ∀ok,lookupAV P h t (.mp m) (.str k) ok=some (if ok then .tup [z,.bool false]else z):=by
 rcases findAV_ents hu k fs es 0 he with⟨a1,a2⟩ | ⟨a',i,v,st,a1,a2,a3,a4⟩
 ·intro ok
  unfold lookupAV
  simp only[ht,entriesAV,hm,Option.bind_some,checkAV_str hu 19,a2,hz,Option.map_some]
  rfl
 ·rw[a1]at hl;cases hl
theorem look_some{P:Program}{t kt et m clk:Nat}{fs:Ents α}{es:List (AV × AV × Nat)}{k:List UInt8}{a:α}(ht:P.underlying t=some (.map kt et))(hu:P.underlying kt=some .string)(he:EntsR R fs es)(hl:lookF k fs=some a) :
  ∃v,R a v∧∀(h:Hp Fm) (ok:Bool),Mp.get h.obj m=some (.mp es clk)→lookupAV P h t (.mp m) (.str k) ok=some (if ok then .tup [v,.bool true]else v):=by
 rcases findAV_ents hu k fs es 0 he with⟨a1,_⟩ | ⟨a',i,v,st,a1,a2,a3,a4⟩
 ·rw[a1]at hl;cases hl
 ·rw[a1]at hl;cases hl
  refine⟨v,a2,fun h ok hm=>?_⟩
  unfold lookupAV
  simp only[ht,entriesAV,hm,Option.bind_some,checkAV_str hu 19,a3]
  rfl
theorem look_none{P:Program}{t kt et m clk:Nat}{fs:Ents α}{es:List (AV × AV × Nat)}{k:List UInt8}{z:AV}(ht:P.underlying t=some (.map kt et))(hu:P.underlying kt=some .string)(hz:tzero P et=some z)(he:EntsR R fs es)(hl:lookF k fs=none) :
  ∀(h:Hp Fm) (ok:Bool),Mp.get h.obj m=some (.mp es clk)→lookupAV P h t (.mp m) (.str k) ok=some (if ok then .tup [z,.bool false]else z):=fun h ok hm=>lookup_none ht hu hz hm he hl ok
theorem EntsR.setF_some{fs:Ents α}{es:List (AV × AV × Nat)}{P:Program}{kt:TypeId}(hu:P.underlying kt=some .string){k:List UInt8}{a:α}{v:AV}(hv:R a v){clk:Nat}:∀{i0 i:Nat} {w:AV} {st:Nat},EntsR R fs es→findAV P kt (.str k) es i0=some (some (i0+i,w))→es[i]? = some (.str k,w,st)→EntsR R (setF k a clk fs) (es.set i (.str k,v,st)):=by
 induction fs generalizing es with
 | nil=>intro i0 i w st h hf hi;cases es with
  | nil=>simp at hi
  | cons _ _=>exact h.elim
 | cons f fs ih=>intro i0 i w st h hf hi;cases es with
  | nil=>exact h.elim
  | cons e es=>
   obtain⟨⟨h1,h2,h3⟩,h4⟩:=h
   obtain⟨ek,ev,est⟩:=e
   simp only at h1 h2 h3
   subst h1
   simp only[findAV,eqlAV_str hu 19]at hf
   by_cases hk:f.1=k
   ·rw[show decide (k=f.1)=true from by simp[hk]]at hf
    simp only[Option.some.injEq,Prod.mk.injEq]at hf
    have:i=0:=by omega
    subst this
    simp only[List.getElem?_cons_zero,Option.some.injEq,Prod.mk.injEq]at hi
    simp only[setF,if_pos hk,List.set_cons_zero]
    exact⟨⟨rfl,hv,by simp only;omega⟩,h4⟩
   ·rw[show decide (k=f.1)=false from by simp[Ne.symm hk]]at hf
    cases i with
    | zero=>simp only[List.getElem?_cons_zero,Option.some.injEq,Prod.mk.injEq,AV.str.injEq]at hi;exact(hk hi.1).elim
    | succ i=>
     simp only[setF,if_neg hk,List.set_cons_succ]
     exact⟨⟨rfl,h2,h3⟩,ih (i0:=i0+1) h4 (by simp only at hf;rw[hf,Nat.add_assoc,Nat.add_comm 1 i]) (by simpa using hi)⟩
theorem EntsR.setF_none{fs:Ents α}{es:List (AV × AV × Nat)}{k:List UInt8}{a:α}{v:AV}(hv:R a v){clk:Nat}(h:EntsR R fs es)(hl:lookF k fs=none):EntsR R (setF k a clk fs) (es++[(.str k,v,clk)]):=by
 induction fs generalizing es with
 | nil=>cases es with
  | nil=>exact⟨⟨rfl,hv,rfl⟩,trivial⟩
  | cons _ _=>exact h.elim
 | cons f fs ih=>cases es with
  | nil=>exact h.elim
  | cons e es=>
   simp only[lookF]at hl
   split at hl
   ·cases hl
   ·rename_i hk
    simp only[setF,if_neg hk,List.cons_append]
    exact⟨h.1,ih h.2 hl⟩
theorem upd_ans{P:Program}{t kt et m clk:Nat}{fs:Ents α}{es:List (AV × AV × Nat)}{k:List UInt8}{a:α}{v:AV}(ht:P.underlying t=some (.map kt et))(hu:P.underlying kt=some .string)(he:EntsR R fs es)(hv:R a v) :
  ∃es',EntsR R (setF k a clk fs) es'∧∀h:Hp Fm,Mp.get h.obj m=some (.mp es clk)→mapUpdateAV P h t (.mp m) (.str k) v=some { h with obj:=Mp.set h.obj m (.mp es' (clkF k clk fs)) }:=by
 rcases findAV_ents hu k fs es 0 he with⟨a1,a2⟩ | ⟨a',i,w,st,a1,a2,a3,a4⟩
 ·refine⟨_,EntsR.setF_none hv he a1,fun h hm=>?_⟩
  unfold mapUpdateAV
  simp only[ht,hm,checkAV_str hu 19,a2,Option.bind_some,clkF,a1]
  rfl
 ·refine⟨_,EntsR.setF_some hu hv he a3 a4,fun h hm=>?_⟩
  unfold mapUpdateAV
  have hb:beqK (.str k) (.str k)=true:=by simp[beqK,beqS,eqB_dec]
  simp only[ht,hm,checkAV_str hu 19,a3,Option.bind_some,clkF,a1,Nat.zero_add,a4,hb]
  rfl
end
theorem inj_of_nodup{α β:Type}{f:α→β}{l:List α}(h:(l.map f).Nodup){a b:α}(ha:a∈l)(hb:b∈l)(e:f a=f b):a=b:=by
 induction l with
 | nil=>cases ha
 | cons x l ih=>
  rw[List.map_cons,List.nodup_cons]at h
  rcases List.mem_cons.mp ha with ha | ha <;> rcases List.mem_cons.mp hb with hb | hb
  ·rw[ha,hb]
  ·exact(h.1 (by rw[←ha,e];exact List.mem_map_of_mem hb)).elim
  ·exact(h.1 (by rw[←hb,←e];exact List.mem_map_of_mem ha)).elim
  ·exact ih h.2 ha hb
theorem nodup_of_map{α β:Type}(f:α→β):∀{l:List α},(l.map f).Nodup→l.Nodup
 | [],_=>by simp
 | x::l,h=>by
  rw[List.map_cons,List.nodup_cons]at h
  rw[List.nodup_cons]
  exact⟨fun q=>h.1 (List.mem_map_of_mem q),nodup_of_map f h.2⟩
theorem next_some{h:Hp Fm}{r m clk:Nat}{es done:List (AV × AV × Nat)}(hr:Mp.get h.obj r=some (.iter (some m) clk (done.map (·.2.2)) clk))(hm:Mp.get h.obj m=some (.mp es clk))(hb:∀e∈es,e.2.2<clk)(hnd:(es.map (·.2.2)).Nodup)(hd:∀e∈done,e∈es)(hdn:(done.map (·.2.2)).Nodup) :
  ∃h1,(h1=h∨h1=h.drew)∧((done.Perm es∧nextAV h (.ptr r 0) false=some (.tup [.bool false],h1)) ∨
   ∃e∈es,e.2.2∉done.map (·.2.2)∧nextAV h (.ptr r 0) false=some (.tup [.bool true,e.1,e.2.1],{ h1 with obj:=Mp.set h1.obj r (.iter (some m) clk ((done++[e]).map (·.2.2)) clk) })):=by
 have hleft:(es.filter fun e => !(done.map (·.2.2)).contains e.2.2).filter (fun e=>decide (e.2.2<clk))=es.filter fun e => !(done.map (·.2.2)).contains e.2.2:=by
  rw[List.filter_eq_self];intro e he;simp[hb e (List.mem_filter.mp he).1]
 have hnew:(es.filter fun e => !(done.map (·.2.2)).contains e.2.2).filter (fun e=>decide (clk≤e.2.2))=[]:=by
  rw[List.filter_eq_nil_iff];intro e he;have:=hb e (List.mem_filter.mp he).1;simp;omega
 have hc:(!(done.map (·.2.2)).isEmpty && !es.isEmpty&&es.all fun e=>decide (clk≤e.2.2))=false:=by
  cases es with
  | nil=>simp
  | cons e es=>have:=hb e (by simp);simp;intro _ _;omega
 generalize hl:(es.filter fun e => !(done.map (·.2.2)).contains e.2.2)=left at hleft hnew
 have hcands:candsAV es clk (done.map (·.2.2))=(if left.isEmpty then [none]else [])++left.map some:=by
  unfold candsAV
  simp only[hl,hleft,hnew,List.append_nil]
 have hp:∀n,∃h1 i,(h1=h∨h1=h.drew)∧h.pick n=(i,h1)∧(0<n→i<n):=by
  intro n
  unfold Hp.pick
  split
  ·exact⟨h,0,.inl rfl,rfl,fun q=>q⟩
  ·exact⟨h.drew,_,.inr rfl,rfl,fun q=>Nat.mod_lt _ q⟩
 obtain⟨h1,i,e1,e2,e3⟩:=hp (candsAV es clk (done.map (·.2.2))).length
 refine⟨h1,e1,?_⟩
 unfold nextAV
 simp only[hr,hm,hc,Bool.false_eq_true,if_false,e2]
 have hpos:0<(candsAV es clk (done.map (·.2.2))).length:=by
  rw[hcands];cases left <;> simp
 have hi:=e3 hpos
 by_cases hle:left=[]
 ·subst hle
  rw[hcands]at hi ⊢
  simp at hi
  subst hi
  refine .inl ⟨?_,by simp⟩
  have hall:∀e∈es,e∈done:=by
   intro e he
   have:e∉es.filter fun e => !(done.map (·.2.2)).contains e.2.2:=by rw[hl];simp
   rw[List.mem_filter]at this
   have hm:e.2.2∈done.map (·.2.2):=by
    by_cases q:e.2.2∈done.map (·.2.2)
    ·exact q
    ·exact(this ⟨he,by simp[List.contains_eq_mem,q]⟩).elim
   obtain⟨d,hd1,hd2⟩:=List.mem_map.mp hm
   have:d=e:=by
    have:=hd d hd1
    exact inj_of_nodup hnd this he hd2
   exact this▸hd1
  have n1:done.Nodup:=nodup_of_map _ hdn
  have n2:es.Nodup:=nodup_of_map _ hnd
  exact(List.perm_ext_iff_of_nodup n1 n2).mpr fun e=>⟨hd e,hall e⟩
 ·have hf:(if left.isEmpty then [none]else([]:List (Option (AV × AV × Nat))))=[]:=by
   cases left with
   | nil=>exact(hle rfl).elim
   | cons _ _=>rfl
  rw[hf,List.nil_append]at hcands
  rw[hcands]at hi ⊢
  rw[List.length_map]at hi
  refine .inr ⟨left[i],?_,?_,?_⟩
  ·have hx:left[i]∈left:=List.getElem_mem hi
   generalize left[i]=x at hx
   rw[←hl]at hx;exact(List.mem_filter.mp hx).1
  ·have hx:left[i]∈left:=List.getElem_mem hi
   generalize left[i]=x at hx
   rw[←hl]at hx
   have:=(List.mem_filter.mp hx).2
   intro q
   simp[List.contains_eq_mem,q]at this
  ·simp only[List.getElem?_map,List.getElem?_eq_getElem hi,Option.map_some,List.map_append,List.map_cons,List.map_nil]
theorem sum_sub{α:Type}(f:α→Nat):∀(done es:List α),done.Nodup→(∀e∈done,e∈es)→(done.map f).sum≤(es.map f).sum
 | [],_,_,_=>by simp
 | a::done,es,hn,hs=>by
  rw[List.nodup_cons]at hn
  obtain⟨l1,l2,rfl⟩:=List.append_of_mem (hs a (by simp))
  have ih:=sum_sub f done (l1++l2) hn.2 fun e he=>by
   have h1:=hs e (by simp[he])
   have h2:e≠a:=fun q=>hn.1 (q▸he)
   simpa[h2]using h1
  simp only[List.map_append,List.sum_append,List.map_cons,List.sum_cons]at ih ⊢
  omega
theorem len_sub{α:Type}(done es:List α)(h1:done.Nodup)(h2:∀e∈done,e∈es):done.length≤es.length:=by
 have:=sum_sub (fun _=>1) done es h1 h2
 have hl:∀l:List α,(l.map fun _=>1).sum=l.length:=fun l=>by induction l with
  | nil=>rfl
  | cons a l ih=>rw[List.map_cons,List.sum_cons,ih,List.length_cons];omega
 rw[hl,hl]at this;exact this
structure HD(h h1:Hp Fm):Prop where
 obj:h1.obj=h.obj
 no:h1.no=h.no
 ng:h1.ng=h.ng
 len:h1.len=h.len
 pol:h1.pol=h.pol
theorem HD.he{h h1:Hp Fm}(k:HD h h1):HE h h1:=⟨by rw[k.no];exact Nat.le_refl _,by rw[k.ng];exact Nat.le_refl _,k.pol,fun o _=>by rw[k.obj],fun g _=>by rw[k.len]⟩
theorem WO_next_i{P:Program}{T:Tab}{ops:Array Oper}{o:Oper}{rest:List Oper}{st:St Fm}{Q:St Fm→Prop}{it:Operand}{r m clk:Nat}{es:List (AV × AV × Nat)}(done:List (AV × AV × Nat))
  (hw:want ops st.t o=some true) (ho:o.op=.next it false) (hit:ev st.t it=.ptr r 0) (hr:Mp.get st.h.obj r=some (.iter (some m) clk (done.map (·.2.2)) clk)) (hm:Mp.get st.h.obj m=some (.mp es clk))
  (hb:∀e∈es,e.2.2<clk) (hnd:(es.map (·.2.2)).Nodup) (hd:∀e∈done,e∈es) (hdn:(done.map (·.2.2)).Nodup)
  (hend:∀h1,HD st.h h1→done.Perm es→∃s,put { st with h:=h1 } o.dst (.tup [.bool false])=some s∧WO P T ops rest s Q)
  (hgo:∀h1 e,e∈es→e.2.2∉done.map (·.2.2)→HX (fun q=>q=r) (fun _=>False) st.h h1→h1.no=st.h.no→Mp.get h1.obj r=some (.iter (some m) clk ((done++[e]).map (·.2.2)) clk) →
   ∃s,put { st with h:=h1 } o.dst (.tup [.bool true,e.1,e.2.1])=some s∧WO P T ops rest s Q):WO P T ops (o::rest) st Q:=by
 obtain⟨h1,e1,hh⟩:=next_some hr hm hb hnd hd hdn
 have d1:HD st.h h1:=by rcases e1 with rfl | rfl <;> exact⟨rfl,rfl,rfl,rfl,rfl⟩
 rcases hh with⟨hp,hn⟩ | ⟨e,he,hne,hn⟩
 ·obtain⟨s,p1,p2⟩:=hend h1 d1 hp
  refine WO_val_i (v:=.tup [.bool false]) (h':=h1) hw ?_ p1 p2
  simp only[opEff,ho,hit,hn,valh,Option.map_some]
 ·obtain⟨s,p1,p2⟩:=hgo { h1 with obj:=Mp.set h1.obj r (.iter (some m) clk ((done++[e]).map (·.2.2)) clk) } e he hne ((d1.he.x (fun q=>q=r) (fun _=>False)).set (fun _=>rfl) _) d1.no (by simp[Mp.get_set])
  refine WO_val_i (v:=.tup [.bool true,e.1,e.2.1]) (h':={ h1 with obj:=Mp.set h1.obj r (.iter (some m) clk ((done++[e]).map (·.2.2)) clk) }) hw ?_ p1 p2
  simp only[opEff,ho,hit,hn,valh,Option.map_some]
theorem entry_some{h:Hp Fm}{r m clk:Nat}{es done:List (AV × AV × Nat)}{e:AV × AV × Nat}(hr:Mp.get h.obj r=some (.iter (some m) clk ((done++[e]).map (·.2.2)) clk))(hm:Mp.get h.obj m=some (.mp es clk))(hnd:(es.map (·.2.2)).Nodup)(he:e∈es) :
  entryAV h (.ptr r 0)=some (.tup [e.1,e.2.1]):=by
 unfold entryAV
 simp only[hr,hm]
 have:((done++[e]).map (·.2.2)).getLast? = some e.2.2:=by simp
 simp only[this,Option.bind_some,if_true]
 have hf:es.find? (fun x=>decide (x.2.2=e.2.2))=some e:=by
  cases hq:es.find? (fun x=>decide (x.2.2=e.2.2))with
  | none=>have:=List.find?_eq_none.mp hq e he;simp at this
  | some x=>
   have h1:=List.find?_some hq
   have h2:=List.mem_of_find?_eq_some hq
   have h3:x.2.2=e.2.2:=by simpa using h1
   rw[inj_of_nodup (f:=fun x:AV × AV × Nat=>x.2.2) hnd h2 he h3]
 rw[hf];rfl
end Go.Vn

/- Things in a row: order, swaps, sorted ranges, heaps. No condition. -/
namespace Go.Vn
structure LtOk{α:Type}(lt:α→α→Bool):Prop where
 refl:∀x,lt x x=false
 tr:∀x y z,lt y x=false→lt z y=false→lt z x=false
 as:∀x y,lt x y=true→lt y x=false
section
variable {α:Type} [Inhabited α]
def gt(l:List α)(i:Nat):α:=l.getD i default
theorem gt_eq{l:List α}{i:Nat}(h:i<l.length):gt l i=l[i]:=by simp[gt,h]
def sw(l:List α)(i j:Nat):List α:=(l.set i (gt l j)).set j (gt l i)
@[simp] theorem sw_len(l:List α)(i j:Nat):(sw l i j).length=l.length:=by simp[sw]
theorem gt_set(l:List α)(i:Nat)(x:α)(k:Nat)(h:i<l.length):gt (l.set i x) k=if k=i then x else gt l k:=by
 unfold gt
 rw[List.getD_eq_getElem?_getD,List.getD_eq_getElem?_getD,List.getElem?_set]
 by_cases q:k=i
 ·subst q;simp[h]
 ·simp[q,Ne.symm q]
theorem gt_sw{l:List α}{i j:Nat}(hi:i<l.length)(hj:j<l.length)(k:Nat):gt (sw l i j) k=if k=j then gt l i else if k=i then gt l j else gt l k:=by
 unfold sw
 rw[gt_set _ _ _ _ (by simpa using hj),gt_set _ _ _ _ hi]
theorem set_self(l:List α)(i:Nat)(h:i<l.length):l.set i (gt l i)=l:=by
 rw[gt_eq h];exact List.set_getElem_self h
theorem sw_perm{l:List α}{i j:Nat}(hi:i<l.length)(hj:j<l.length):(sw l i j).Perm l:=by
 by_cases q:i=j
 ·subst q
  have:sw l i i=l:=by
   unfold sw;rw[List.set_set,set_self l i hi]
  rw[this]
 ·have key:∀(l:List α) (i j:Nat),i<j→j<l.length→((l.set i (gt l j)).set j (gt l i)).Perm l:=by
   intro l
   induction l with
   | nil=>intro i j _ h;simp at h
   | cons a l ih=>
    intro i j hij hj
    cases j with
    | zero=>omega
    | succ j=>
     cases i with
     | zero=>
      have hj':j<l.length:=by simpa using hj
      have e1:gt (a::l) (j+1)=gt l j:=by simp[gt]
      have e2:gt (a::l) 0=a:=by simp[gt]
      rw[e1,e2,List.set_cons_zero,List.set_cons_succ]
      obtain⟨l1,l2,h1,h2⟩:∃l1 l2,l=l1++gt l j::l2∧l1.length=j:=by
       refine⟨l.take j,l.drop (j+1),?_,by rw[List.length_take];omega⟩
       rw[gt_eq hj']
       have:=List.take_append_drop j l
       rw[List.drop_eq_getElem_cons hj']at this
       exact this.symm
      generalize gt l j=y at h1
      subst h1
      rw[←h2]
      simp only[List.set_append_right _ _ (Nat.le_refl _),Nat.sub_self,List.set_cons_zero]
      refine(List.Perm.cons y List.perm_middle).trans ?_
      refine(List.Perm.swap a y _).trans (List.Perm.cons a ?_)
      exact List.perm_middle.symm
     | succ i=>
      have e1:gt (a::l) (j+1)=gt l j:=by simp[gt]
      have e2:gt (a::l) (i+1)=gt l i:=by simp[gt]
      rw[e1,e2,List.set_cons_succ,List.set_cons_succ]
      exact List.Perm.cons a (ih i j (by omega) (by simpa using hj))
  rcases Nat.lt_or_gt_of_ne q with h | h
  ·exact key l i j h hj
  ·have:sw l i j=sw l j i:=by
    unfold sw;rw[List.set_comm _ _ q]
   rw[this]
   exact key l j i h hi
structure PR(l l':List α)(a b:Nat):Prop where
 len:l'.length=l.length
 perm:l'.Perm l
 out:∀i,(i<a∨b≤i)→gt l' i=gt l i
 inn:∀i,a≤i→i<b→∃j,a≤j∧j<b∧gt l' i=gt l j
theorem PR.refl(l:List α)(a b:Nat):PR l l a b:=⟨rfl,.refl _,fun _ _=>rfl,fun i h1 h2=>⟨i,h1,h2,rfl⟩⟩
theorem PR.trans{l l' l'':List α}{a b:Nat}(h:PR l l' a b)(k:PR l' l'' a b):PR l l'' a b:=
 ⟨k.len.trans h.len,k.perm.trans h.perm,fun i hi=>(k.out i hi).trans (h.out i hi),fun i h1 h2=>by
  obtain⟨j,j1,j2,e⟩:=k.inn i h1 h2
  obtain⟨q,q1,q2,e2⟩:=h.inn j j1 j2
  exact⟨q,q1,q2,e.trans e2⟩⟩
theorem PR.sw{l:List α}{a b i j:Nat}(h1:a≤i)(h2:i<b)(h3:a≤j)(h4:j<b)(hb:b≤l.length):PR l (sw l i j) a b:=
 ⟨sw_len l i j,sw_perm (by omega) (by omega),fun k hk=>by rw[gt_sw (by omega) (by omega),if_neg (by omega),if_neg (by omega)],fun k k1 k2=>by
  rw[gt_sw (by omega) (by omega)]
  split
  ·exact⟨i,h1,h2,rfl⟩
  ·split
   ·exact⟨j,h3,h4,rfl⟩
   ·exact⟨k,k1,k2,rfl⟩⟩
theorem PR.wide{l l':List α}{a b a' b':Nat}(h:PR l l' a b)(ha:a'≤a)(hb:b≤b'):PR l l' a' b':=
 ⟨h.len,h.perm,fun i hi=>h.out i (by omega),fun i h1 h2=>by
  by_cases q:a≤i∧i<b
  ·obtain⟨j,j1,j2,e⟩:=h.inn i q.1 q.2
   exact⟨j,by omega,by omega,e⟩
  ·exact⟨i,h1,h2,h.out i (by omega)⟩⟩
theorem PR.all{l l':List α}{a b:Nat}(h:PR l l' a b){p:α→Prop}(hp:∀i,a≤i→i<b→p (gt l i)):∀i,a≤i→i<b→p (gt l' i):=fun i h1 h2=>by
 obtain⟨j,j1,j2,e⟩:=h.inn i h1 h2
 rw[e];exact hp j j1 j2
variable {lt:α→α→Bool}
def Le(lt:α→α→Bool)(x y:α):Prop:=lt y x=false
omit [Inhabited α]in
theorem LtOk.rf(o:LtOk lt)(x:α):Le lt x x:=o.refl x
omit [Inhabited α]in
theorem LtOk.trn(o:LtOk lt){x y z:α}(h:Le lt x y)(k:Le lt y z):Le lt x z:=o.tr x y z h k
omit [Inhabited α]in
theorem LtOk.le(o:LtOk lt){x y:α}(h:lt x y=true):Le lt x y:=o.as x y h
def SortR(lt:α→α→Bool)(l:List α)(a b:Nat):Prop:=∀i j,a≤i→i<j→j<b→Le lt (gt l i) (gt l j)
theorem SortR.short{l:List α}{a b:Nat}(h:b≤a+1):SortR lt l a b:=fun i j h1 h2 h3=>by omega
theorem SortR.same{l l':List α}{a b:Nat}(h:SortR lt l a b)(e:∀i,a≤i→i<b→gt l' i=gt l i):SortR lt l' a b:=fun i j h1 h2 h3=>by
 rw[e i (by omega) (by omega),e j (by omega) (by omega)];exact h i j h1 h2 h3
theorem SortR.step(o:LtOk lt){l:List α}{a b:Nat}(h:SortR lt l a b)(hb:a<b)(k:Le lt (gt l (b-1)) (gt l b)):SortR lt l a (b+1):=fun i j h1 h2 h3=>by
 by_cases q:j=b
 ·subst q
  by_cases q2:i=j-1
  ·subst q2;exact k
  ·exact o.trn (h i (j-1) h1 (by omega) (by omega)) k
 ·exact h i j h1 h2 (by omega)
structure Ins(lt:α→α→Bool)(l0 l:List α)(a b i j:Nat):Prop where
 pr:PR l0 l a b
 so:∀p q,a≤p→p<q→q≤i→p≠j→q≠j→Le lt (gt l p) (gt l q)
 up:∀q,j<q→q≤i→Le lt (gt l j) (gt l q)
theorem Ins.step(o:LtOk lt){l0 l:List α}{a b i j:Nat}(k:Ins lt l0 l a b i j)(h1:a<j)(h2:j≤i)(h3:i<b)(hb:b≤l0.length)(hlt:lt (gt l j) (gt l (j-1))=true):Ins lt l0 (sw l j (j-1)) a b i (j-1):=by
 have hl:l.length=l0.length:=k.pr.len
 have g:∀x,gt (sw l j (j-1)) x=if x=j-1 then gt l j else if x=j then gt l (j-1)else gt l x:=gt_sw (by omega) (by omega)
 refine⟨k.pr.trans (PR.sw (by omega) (by omega) (by omega) (by omega) (by omega)),fun p q h4 h5 h6 h7 h8=>?_,fun q h4 h5=>?_⟩
 ·rw[g,g,if_neg h7,if_neg h8]
  by_cases q1:p=j
  ·subst q1
   rw[if_pos rfl,if_neg (by omega)]
   exact k.so _ _ (by omega) (by omega) h6 (by omega) (by omega)
  ·rw[if_neg q1]
   by_cases q2:q=j
   ·subst q2
    rw[if_pos rfl]
    exact k.so _ _ h4 (by omega) (by omega) q1 (by omega)
   ·rw[if_neg q2];exact k.so _ _ h4 h5 h6 q1 q2
 ·rw[g,g,if_pos rfl,if_neg (by omega)]
  by_cases q2:q=j
  ·subst q2;rw[if_pos rfl];exact o.le hlt
  ·rw[if_neg q2];exact k.up q (by omega) h5
theorem Ins.done(o:LtOk lt){l0 l:List α}{a b i j:Nat}(k:Ins lt l0 l a b i j)(h1:a≤j)(hlt:a<j→Le lt (gt l (j-1)) (gt l j)):∀p q,a≤p→p<q→q≤i→Le lt (gt l p) (gt l q):=fun p q h4 h5 h6=>by
 by_cases q1:p=j
 ·subst q1;exact k.up q h5 h6
 ·by_cases q2:q=j
  ·subst q2
   by_cases q3:p=q-1
   ·subst q3;exact hlt (by omega)
   ·exact o.trn (k.so p (q-1) h4 (by omega) (by omega) q1 (by omega)) (hlt (by omega))
  ·exact k.so p q h4 h5 h6 q1 q2
def HPr(lt:α→α→Bool)(l:List α)(f lo hi:Nat):Prop:=∀i c,lo≤i→(c=2*i+1∨c=2*i+2)→c<hi→Le lt (gt l (f+c)) (gt l (f+i))
theorem HPr.top(o:LtOk lt){l:List α}{f hi:Nat}(h:HPr lt l f 0 hi):∀c,c<hi→Le lt (gt l (f+c)) (gt l f):=by
 intro c
 induction c using Nat.strongRecOn with
 | _ c ih=>
  intro hc
  by_cases q:c=0
  ·subst q;exact o.rf _
  ·have hp:=h ((c-1) / 2) c (by omega) (by omega) hc
   exact o.trn hp (ih _ (by omega) (by omega))
structure SDn(lt:α→α→Bool)(l0 l:List α)(f lo hi r:Nat):Prop where
 lr:lo≤r
 pr:PR l0 l (f+lo) (f+hi)
 hp:∀i c,lo≤i→i≠r→(c=2*i+1∨c=2*i+2)→c<hi→Le lt (gt l (f+c)) (gt l (f+i))
 up:∀p c,lo≤p→(r=2*p+1∨r=2*p+2)→(c=2*r+1∨c=2*r+2)→c<hi→Le lt (gt l (f+c)) (gt l (f+p))
theorem SDn.start{l:List α}{f lo hi:Nat}(h:HPr lt l f (lo+1) hi):SDn lt l l f lo hi lo:=
 ⟨Nat.le_refl _,PR.refl _ _ _,fun i c h1 h2 h3 h4=>h i c (by omega) h3 h4,fun p c h1 h2=>by omega⟩
theorem SDn.leaf{l0 l:List α}{f lo hi r:Nat}(k:SDn lt l0 l f lo hi r)(h:hi≤2*r+1):HPr lt l f lo hi:=fun i c h1 h2 h3=>by
 by_cases q:i=r
 ·subst q;omega
 ·exact k.hp i c h1 q h2 h3
theorem SDn.stop(o:LtOk lt){l0 l:List α}{f lo hi r m:Nat}(k:SDn lt l0 l f lo hi r)(hm:∀c,(c=2*r+1∨c=2*r+2)→c<hi→Le lt (gt l (f+c)) (gt l (f+m)))(h:Le lt (gt l (f+m)) (gt l (f+r))):HPr lt l f lo hi:=fun i c h1 h2 h3=>by
 by_cases q:i=r
 ·subst q;exact o.trn (hm c h2 h3) h
 ·exact k.hp i c h1 q h2 h3
theorem SDn.down(o:LtOk lt){l0 l:List α}{f lo hi r m:Nat}(k:SDn lt l0 l f lo hi r)(hl:f+hi≤l0.length)(hmr:m=2*r+1∨m=2*r+2)(hmh:m<hi)(hm:∀c,(c=2*r+1∨c=2*r+2)→c<hi→Le lt (gt l (f+c)) (gt l (f+m)))
  (h:Le lt (gt l (f+r)) (gt l (f+m))):SDn lt l0 (sw l (f+r) (f+m)) f lo hi m:=by
 have hlr:=k.lr
 have hll:=k.pr.len
 have g:∀x,gt (sw l (f+r) (f+m)) (f+x)=if x=m then gt l (f+r)else if x=r then gt l (f+m)else gt l (f+x):=fun x=>by
  rw[gt_sw (by omega) (by omega)]
  by_cases q1:x=m
  ·rw[if_pos (by omega),if_pos q1]
  ·rw[if_neg (by omega),if_neg q1]
   by_cases q2:x=r
   ·rw[if_pos (by omega),if_pos q2]
   ·rw[if_neg (by omega),if_neg q2]
 refine⟨by omega,k.pr.trans (PR.sw (by omega) (by omega) (by omega) (by omega) (by omega)),fun i c h1 h2 h3 h4=>?_,fun p c h1 h2 h3 h4=>?_⟩
 ·rw[g,g,if_neg h2]
  by_cases q1:i=r
  ·subst q1
   rw[if_pos rfl]
   by_cases q2:c=m
   ·rw[if_pos q2];exact h
   ·rw[if_neg q2,if_neg (by omega)];exact hm c h3 h4
  ·rw[if_neg q1]
   by_cases q2:c=m
   ·omega
   ·rw[if_neg q2]
    by_cases q3:c=r
    ·subst q3;rw[if_pos rfl];exact k.up i m h1 h3 hmr hmh
    ·rw[if_neg q3];exact k.hp i c h1 q1 h3 h4
 ·have hpr:p=r:=by omega
  subst hpr
  rw[g,g,if_neg (by omega),if_neg (by omega),if_neg (by omega),if_pos rfl]
  exact k.hp m c (by omega) (by omega) h3 h4
structure HSo(lt:α→α→Bool)(l0 l:List α)(a b i:Nat):Prop where
 pr:PR l0 l a b
 hp:HPr lt l a 0 i
 so:SortR lt l (a+i) b
 gt:∀p q,p<i→a+i≤q→q<b→Le lt (gt l (a+p)) (gt l q)
theorem HSo.take(o:LtOk lt){l0 l:List α}{a b i:Nat}(k:HSo lt l0 l a b (i+1))(hb:b≤l0.length)(hi:a+i<b) :
  PR l0 (sw l a (a+i)) a b∧HPr lt (sw l a (a+i)) a 1 i∧SortR lt (sw l a (a+i)) (a+i) b∧(∀p q,p<i→a+i≤q→q<b→Le lt (Vn.gt (sw l a (a+i)) (a+p)) (Vn.gt (sw l a (a+i)) q)):=by
 have hll:=k.pr.len
 have g:∀x,Vn.gt (sw l a (a+i)) x=if x=a+i then Vn.gt l a else if x=a then Vn.gt l (a+i)else Vn.gt l x:=gt_sw (by omega) (by omega)
 have top:=k.hp.top o
 have hin:∀p,p<i→∃p',p'<i+1∧Vn.gt (sw l a (a+i)) (a+p)=Vn.gt l (a+p'):=fun p hp=>by
  rw[g,if_neg (by omega)]
  by_cases q:p=0
  ·subst q;rw[if_pos (by omega)];exact⟨i,by omega,rfl⟩
  ·rw[if_neg (by omega)];exact⟨p,by omega,rfl⟩
 refine⟨k.pr.trans (PR.sw (by omega) (by omega) (by omega) (by omega) (by omega)),fun p c h1 h2 h3=>?_,fun p q h1 h2 h3=>?_,fun p q h1 h2 h3=>?_⟩
 ·rw[g,g,if_neg (by omega),if_neg (by omega),if_neg (by omega),if_neg (by omega)]
  exact k.hp p c (by omega) h2 (by omega)
 ·rw[g,g]
  by_cases q1:p=a+i
  ·rw[if_pos q1,if_neg (by omega),if_neg (by omega)]
   have:=k.gt 0 q (by omega) (by omega) h3
   simpa using this
  ·rw[if_neg q1,if_neg (by omega),if_neg (by omega),if_neg (by omega)]
   exact k.so p q (by omega) h2 h3
 ·obtain⟨p',hp',e⟩:=hin p h1
  rw[e,g q]
  by_cases q1:q=a+i
  ·rw[if_pos q1];exact top p' hp'
  ·rw[if_neg q1,if_neg (by omega)]
   exact k.gt p' q hp' (by omega) h3
theorem HSo.next{l0 l l':List α}{a b i:Nat}(hpr:PR l0 l a b)(hso:SortR lt l (a+i) b)(hgt:∀p q,p<i→a+i≤q→q<b→Le lt (Vn.gt l (a+p)) (Vn.gt l q))(p1:PR l l' (a+0) (a+i))(hh:HPr lt l' a 0 i)(hi:a+i≤b):HSo lt l0 l' a b i:=
 ⟨hpr.trans (p1.wide (by omega) (by omega)),hh,hso.same fun j h1 h2=>p1.out j (by omega),fun p q h1 h2 h3=>by
  rw[p1.out q (by omega)]
  obtain⟨j,j1,j2,e⟩:=p1.inn (a+p) (by omega) (by omega)
  rw[e]
  have:=hgt (j-a) q (by omega) h2 h3
  rwa [show a+(j-a)=j by omega]at this⟩
def Glue(lt:α→α→Bool)(l:List α)(a b a' b':Nat):Prop:=∀i j,a≤i→i<j→j<b→¬(a'≤i∧j<b')→Le lt (gt l i) (gt l j)
theorem Glue.perm{l l':List α}{a b a' b':Nat}(h:Glue lt l a b a' b')(p:PR l l' a' b')(ha:a≤a')(hb:b'≤b):Glue lt l' a b a' b':=fun i j h1 h2 h3 h4=>by
 by_cases q1:a'≤i∧i<b'
 ·obtain⟨i',i1,i2,e⟩:=p.inn i q1.1 q1.2
  rw[e,p.out j (by omega)]
  exact h i' j (by omega) (by omega) h3 (by omega)
 ·by_cases q2:a'≤j∧j<b'
  ·obtain⟨j',j1,j2,e⟩:=p.inn j q2.1 q2.2
   rw[e,p.out i (by omega)]
   exact h i j' h1 (by omega) (by omega) (by omega)
  ·rw[p.out i (by omega),p.out j (by omega)]
   exact h i j h1 h2 h3 h4
theorem Glue.sort{l:List α}{a b a' b':Nat}(h:Glue lt l a b a' b')(s:SortR lt l a' b'):SortR lt l a b:=fun i j h1 h2 h3=>by
 by_cases q:a'≤i∧j<b'
 ·exact s i j q.1 h2 q.2
 ·exact h i j h1 h2 h3 q
def LBd(lt:α→α→Bool)(l:List α)(a b:Nat):Prop:=0<a→∀i,a≤i→i<b→Le lt (gt l (a-1)) (gt l i)
theorem LBd.perm{l l':List α}{a b:Nat}(h:LBd lt l a b)(p:PR l l' a b):LBd lt l' a b:=fun ha i h1 h2=>by
 rw[p.out (a-1) (by omega)]
 exact p.all (p:=fun x=>Le lt (gt l (a-1)) x) (fun j j1 j2=>h ha j j1 j2) i h1 h2
structure Parted(lt:α→α→Bool)(l l':List α)(a b m:Nat):Prop where
 pr:PR l l' a b
 am:a≤m
 mb:m<b
 lo:∀i,a≤i→i<m→Le lt (gt l' i) (gt l' m)
 hi:∀i,m<i→i<b→Le lt (gt l' m) (gt l' i)
theorem Parted.left(o:LtOk lt){l l' l'':List α}{a0 b0 a b m:Nat}(k:Parted lt l l' a b m)(g:Glue lt l a0 b0 a b)(h0:a0≤a)(h1:b≤b0)(p:PR l' l'' a m)(s:SortR lt l'' a m) :
  Glue lt l'' a0 b0 (m+1) b∧LBd lt l'' (m+1) b:=by
 have am:=k.am
 have mb:=k.mb
 have g1:=(g.perm k.pr h0 h1).perm (p.wide (Nat.le_refl _) (Nat.le_of_lt mb)) h0 h1
 have lo:∀i,a≤i→i<m→Le lt (gt l'' i) (gt l'' m):=fun i h1 h2=>by
  rw[p.out m (by omega)]
  exact p.all (p:=fun x=>Le lt x (gt l' m)) (fun j j1 j2=>k.lo j j1 j2) i h1 h2
 have hi:∀i,m<i→i<b→Le lt (gt l'' m) (gt l'' i):=fun i h1 h2=>by
  rw[p.out m (by omega),p.out i (by omega)];exact k.hi i h1 h2
 refine⟨fun i j q1 q2 q3 q4=>?_,fun _ i h1 h2=>hi i (by omega) h2⟩
 by_cases q5:a≤i∧j<b
 ·by_cases q6:j<m
  ·exact s i j q5.1 q2 q6
  ·by_cases q7:j=m
   ·subst q7;exact lo i q5.1 q2
   ·by_cases q8:i=m
    ·subst q8;exact hi j (by omega) q5.2
    ·exact o.trn (lo i q5.1 (by omega)) (hi j (by omega) q5.2)
 ·exact g1 i j q1 q2 q3 q5
theorem Parted.right(o:LtOk lt){l l' l'':List α}{a0 b0 a b m:Nat}(k:Parted lt l l' a b m)(g:Glue lt l a0 b0 a b)(lb:LBd lt l a b)(h0:a0≤a)(h1:b≤b0)(p:PR l' l'' (m+1) b)(s:SortR lt l'' (m+1) b) :
  Glue lt l'' a0 b0 a m∧LBd lt l'' a m:=by
 have am:=k.am
 have mb:=k.mb
 have pw:=p.wide (a':=a) (by omega) (Nat.le_refl b)
 have g1:=(g.perm k.pr h0 h1).perm pw h0 h1
 have lb1:=(lb.perm k.pr).perm pw
 have lo:∀i,a≤i→i<m→Le lt (gt l'' i) (gt l'' m):=fun i h1 h2=>by
  rw[p.out m (by omega),p.out i (by omega)];exact k.lo i h1 h2
 have hi:∀i,m<i→i<b→Le lt (gt l'' m) (gt l'' i):=fun i h1 h2=>by
  rw[p.out m (by omega)]
  exact p.all (p:=fun x=>Le lt (gt l' m) x) (fun j j1 j2=>k.hi j (by omega) j2) i (by omega) h2
 refine⟨fun i j q1 q2 q3 q4=>?_,fun h i h1 h2=>lb1 h i h1 (by omega)⟩
 by_cases q5:a≤i∧j<b
 ·by_cases q6:m<i
  ·exact s i j (by omega) q2 q5.2
  ·by_cases q7:i=m
   ·subst q7;exact hi j q2 q5.2
   ·by_cases q8:j=m
    ·subst q8;exact lo i q5.1 q2
    ·exact o.trn (lo i q5.1 (by omega)) (hi j (by omega) q5.2)
 ·exact g1 i j q1 q2 q3 q5
theorem parted_equal(o:LtOk lt){l l':List α}{a0 b0 a b m:Nat}{p:α}(g:Glue lt l a0 b0 a b)(h0:a0≤a)(h1:b≤b0)(pr:PR l l' a b)(am:a<m)(mb:m≤b)(lo:∀i,a≤i→i<m→Le lt (gt l' i) p)(hi:∀i,m≤i→i<b→Le lt p (gt l' i))
  (lb:LBd lt l a b) (ha:0<a) (hp:Le lt p (gt l (a-1))):Glue lt l' a0 b0 m b∧LBd lt l' m b:=by
 have g1:=g.perm pr h0 h1
 have all:∀i,a≤i→i<b→Le lt p (gt l' i):=fun i h1 h2=>o.trn hp (by have:=(lb.perm pr) ha i h1 h2;rwa [pr.out (a-1) (by omega)]at this)
 refine⟨fun i j q1 q2 q3 q4=>?_,fun _ i h1 h2=>o.trn (lo (m-1) (by omega) (by omega)) (hi i h1 h2)⟩
 by_cases q5:a≤i∧j<b
 ·exact o.trn (lo i q5.1 (by omega)) (all j (by omega) q5.2)
 ·exact g1 i j q1 q2 q3 q5
structure PIv(l0 l:List α)(a b i j:Nat)(p:α)(Lo Hi:α→Prop):Prop where
 pr:PR l0 l a b
 at_:gt l a=p
 ai:a<i
 ij:i≤j+1
 jb:j<b
 lo:∀k,a<k→k<i→Lo (gt l k)
 hi:∀k,j<k→k<b→Hi (gt l k)
variable {Lo Hi:α→Prop}
theorem PIv.inc{l0 l:List α}{a b i j:Nat}{p:α}(k:PIv l0 l a b i j p Lo Hi)(h:i≤j)(hl:Lo (gt l i)):PIv l0 l a b (i+1) j p Lo Hi:=
 ⟨k.pr,k.at_,by have:=k.ai;omega,by omega,k.jb,fun q h1 h2=>by
  by_cases e:q=i
  ·subst e;exact hl
  ·exact k.lo q h1 (by omega),k.hi⟩
theorem PIv.dec{l0 l:List α}{a b i j:Nat}{p:α}(k:PIv l0 l a b i j p Lo Hi)(h:i≤j)(hl:Hi (gt l j)):PIv l0 l a b i (j-1) p Lo Hi:=
 ⟨k.pr,k.at_,k.ai,by have:=k.ai;omega,by have:=k.jb;omega,k.lo,fun q h1 h2=>by
  by_cases e:q=j
  ·subst e;exact hl
  ·exact k.hi q (by omega) h2⟩
theorem PIv.swp{l0 l:List α}{a b i j:Nat}{p:α}(k:PIv l0 l a b i j p Lo Hi)(hb:b≤l0.length)(h:i<j)(hi:Hi (gt l i))(hj:Lo (gt l j)):PIv l0 (sw l i j) a b (i+1) (j-1) p Lo Hi:=by
 have ai:=k.ai
 have jb:=k.jb
 have hll:=k.pr.len
 have g:∀x,gt (sw l i j) x=if x=j then gt l i else if x=i then gt l j else gt l x:=gt_sw (by omega) (by omega)
 refine⟨k.pr.trans (PR.sw (by omega) (by omega) (by omega) (by omega) (by omega)),?_,by omega,by omega,by omega,fun q h1 h2=>?_,fun q h1 h2=>?_⟩
 ·rw[g,if_neg (by omega),if_neg (by omega)];exact k.at_
 ·rw[g,if_neg (by omega)]
  by_cases e:q=i
  ·rw[if_pos e];exact hj
  ·rw[if_neg e];exact k.lo q h1 (by omega)
 ·rw[g]
  by_cases e:q=j
  ·rw[if_pos e];exact hi
  ·rw[if_neg e,if_neg (by omega)];exact k.hi q (by omega) h2
theorem PIv.parted(o:LtOk lt){l0 l:List α}{a b i j:Nat}{p:α}(k:PIv l0 l a b i j p (fun x=>lt x p=true) (fun x=>Le lt p x))(hb:b≤l0.length)(h:j<i):Parted lt l0 (sw l a j) a b j∧Parted lt l0 (sw l j a) a b j:=by
 have ai:=k.ai
 have ij:=k.ij
 have jb:=k.jb
 have hll:=k.pr.len
 have key:∀l',PR l l' a b→(∀x,gt l' x=if x=j then p else if x=a then gt l j else gt l x)→Parted lt l0 l' a b j:=by
  intro l' pr g
  refine⟨k.pr.trans pr,by omega,jb,fun q h1 h2=>?_,fun q h1 h2=>?_⟩
  ·rw[g,g,if_pos rfl,if_neg (by omega)]
   by_cases e:q=a
   ·rw[if_pos e];exact o.le (k.lo j (by omega) (by omega))
   ·rw[if_neg e];exact o.le (k.lo q (by omega) (by omega))
  ·rw[g,g,if_pos rfl,if_neg (by omega),if_neg (by omega)]
   exact k.hi q h1 h2
 have e:=k.at_
 refine⟨key _ (PR.sw (by omega) (by omega) (by omega) (by omega) (by omega)) fun x=>?_,key _ (PR.sw (by omega) (by omega) (by omega) (by omega) (by omega)) fun x=>?_⟩
 ·rw[gt_sw (by omega) (by omega),e]
 ·rw[gt_sw (by omega) (by omega),e]
  by_cases q1:x=a
  ·by_cases q2:x=j
   ·rw[if_pos q1,if_pos q2,←e,←q2,←q1,q2]
   ·rw[if_pos q1,if_neg q2,if_pos q1]
  ·by_cases q2:x=j
   ·rw[if_neg q1,if_pos q2,if_pos q2]
   ·rw[if_neg q1,if_neg q2,if_neg q2,if_neg q1]
end
section
variable {α:Type} [Inhabited α]
def clsE(E:α→AV)(l:List α):List AV:=l.flatMap fun x=>(E x).cells
structure EncOk(E:α→AV)(sz:Nat)(ag:Bool):Prop where
 fit:∀x,Fit ag sz (E x)
 cell:∀x,(E x).cells.all AV.isCell=true
 pos:0<sz
omit [Inhabited α]in
theorem cls_len{E:α→AV}{sz:Nat}{ag:Bool}(k:EncOk E sz ag)(l:List α):(clsE E l).length=l.length*sz:=by
 induction l with
 | nil=>simp[clsE]
 | cons a l ih=>
  have:clsE E (a::l)=(E a).cells++clsE E l:=by simp[clsE]
  rw[this,List.length_append,ih,(k.fit a).len,List.length_cons,Nat.add_mul];omega
theorem cls_split{E:α→AV}(l:List α){i:Nat}(h:i<l.length):clsE E l=clsE E (l.take i)++((E (gt l i)).cells++clsE E (l.drop (i+1))):=by
 have e:l=l.take i++(gt l i::l.drop (i+1)):=by
  conv=>lhs;rw[←List.take_append_drop i l,List.drop_eq_getElem_cons h]
  rw[gt_eq h]
 conv=>lhs;rw[e]
 simp[clsE]
theorem getS{E:α→AV}{sz:Nat}{ag:Bool}(k:EncOk E sz ag){l:List α}{J:List AV}{i:Nat}(h:i<l.length):partAV ag sz (clsE E l++J) (i*sz)=some (E (gt l i)):=by
 have hl:(clsE E (l.take i)).length=i*sz:=by rw[cls_len k,List.length_take,Nat.min_eq_left (by omega)]
 have hf:=(k.fit (gt l i)).len
 rw[cls_split l h,List.append_assoc,List.append_assoc]
 unfold partAV
 rcases k.fit (gt l i)with⟨rfl,cs,e,hc⟩ | ⟨rfl,rfl,e1,e2⟩
 ·rw[if_pos rfl,if_pos (by rw[List.length_append,hl,List.length_append,hf];omega),←hl,List.drop_left,e]
  simp only[AV.cells]
  rw[←hc,List.take_left]
 ·rw[if_neg (by simp),←hl,List.getElem?_append_right (Nat.le_refl _),Nat.sub_self,e2]
  rfl
theorem setS{E:α→AV}{sz:Nat}{ag:Bool}(k:EncOk E sz ag){l:List α}{J:List AV}{i:Nat}(x:α)(h:i<l.length):splice (clsE E l++J) (i*sz) (E x).cells=clsE E (l.set i x)++J:=by
 have hl:(clsE E (l.take i)).length=i*sz:=by rw[cls_len k,List.length_take,Nat.min_eq_left (by omega)]
 have hf:=(k.fit (gt l i)).len
 have hx:=(k.fit x).len
 have e2:clsE E (l.set i x)=clsE E (l.take i)++((E x).cells++clsE E (l.drop (i+1))):=by
  rw[List.set_eq_take_append_cons_drop,if_pos h];simp[clsE]
 rw[e2,cls_split l h]
 have hd:(clsE E (l.take i)++((E (gt l i)).cells++clsE E (l.drop (i+1)))++J).drop (i*sz+sz)=clsE E (l.drop (i+1))++J:=by
  rw[List.append_assoc,List.append_assoc,←List.append_assoc (clsE E (l.take i))]
  have:(clsE E (l.take i)++(E (gt l i)).cells).length=i*sz+sz:=by rw[List.length_append,hl,hf]
  rw[←this,List.drop_left]
 have ht:(clsE E (l.take i)++((E (gt l i)).cells++clsE E (l.drop (i+1)))++J).take (i*sz)=clsE E (l.take i):=by
  rw[List.append_assoc,←hl,List.take_left]
 unfold splice
 rw[hx,hd,ht]
 simp
omit [Inhabited α]in
theorem lenS{E:α→AV}{sz:Nat}{ag:Bool}(k:EncOk E sz ag){l:List α}{J:List AV}{i:Nat}(h:i<l.length):i*sz+sz≤(clsE E l).length+J.length:=by
 rw[cls_len k]
 have:(i+1)*sz≤l.length*sz:=Nat.mul_le_mul_right _ h
 rw[Nat.add_mul]at this
 omega
structure SRow(E:α→AV)(h0 h:Hp Fm)(o:Nat)(J:List AV)(l:List α):Prop where
 row:Mp.get h.obj o=some (.row (clsE E l++J))
 hx:HX (fun q=>q=o) (fun _=>False) h0 h
 on:o<h0.no
variable {E:α→AV}
omit [Inhabited α]in
theorem SRow.drew{h0 h:Hp Fm}{o:Nat}{J:List AV}{l:List α}(k:SRow E h0 h o J l):SRow E h0 h.drew o J l:=⟨k.row,k.hx.drew,k.on⟩
omit [Inhabited α]in
theorem SRow.he{h0 h h':Hp Fm}{o:Nat}{J:List AV}{l:List α}(k:SRow E h0 h o J l)(e:HE h h'):SRow E h0 h' o J l:=
 ⟨(e.obj o (Nat.lt_of_lt_of_le k.on k.hx.no)).trans k.row,k.hx.trans (e.x _ _),k.on⟩
omit [Inhabited α]in
theorem SRow.trans{h0 h h':Hp Fm}{o:Nat}{J:List AV}{l l':List α}(k:SRow E h0 h o J l)(m:SRow E h h' o J l'):SRow E h0 h' o J l':=⟨m.row,k.hx.trans (m.hx.mono (fun _ _ q=>q) (fun _ _ q=>q)),k.on⟩
omit [Inhabited α]in
theorem SRow.self{h0 h:Hp Fm}{o:Nat}{J:List AV}{l:List α}(k:SRow E h0 h o J l):SRow E h h o J l:=⟨k.row,HX.refl _ _ _,Nat.lt_of_lt_of_le k.on k.hx.no⟩
theorem SRow.swap{h0 h:Hp Fm}{o:Nat}{J:List AV}{l:List α}(k:SRow E h0 h o J l)(i j:Nat) :
  SRow E h0 { h.drew with obj:=Mp.set (Mp.set h.obj o (.row (clsE E (l.set i (gt l j))++J))) o (.row (clsE E ((l.set i (gt l j)).set j (gt l i))++J)) } o J (sw l i j):=
 ⟨by simp[Mp.get_set,sw],((k.hx.drew).set (fun _=>rfl) _).set (fun _=>rfl) _,k.on⟩
end
end Go.Vn

/- Pieces of time: the plain law of what is over what. -/
namespace Go.Vn
def May(a b:Int):Prop:=0≤a∧a<b∧b≤1099511627776
instance(a b:Int):Decidable (May a b):=by unfold May;infer_instance
def Has(a b t:Int):Prop:=May a b∧a≤t∧t<b
instance(a b t:Int):Decidable (Has a b t):=by unfold Has;infer_instance
structure Pc where
 fr:Int
 to:Int
 val:List UInt8
deriving Inhabited,DecidableEq
def atP(l:List Pc)(t:Int):Option (List UInt8):=(l.find? fun p=>decide (Has p.fr p.to t)).map Pc.val
theorem atP_cons(p:Pc)(l:List Pc)(t:Int):atP (p::l) t=if Has p.fr p.to t then some p.val else atP l t:=by
 unfold atP
 by_cases q:Has p.fr p.to t <;> simp[q]
def minusS(a b c d:Int):List (Int × Int):=
 if ¬May a b then []else
 if ¬May (max a c) (min b d)then [(a,b)]else
 (if May a (max a c)then [(a,max a c)]else [])++(if May (min b d) b then [(min b d,b)]else [])
def minusP(c d:Int)(p:Pc):List Pc:=(minusS p.fr p.to c d).map fun s=>⟨s.1,s.2,p.val⟩
def withoutP(l:List Pc)(c d:Int):List Pc:=if May c d then l.flatMap (minusP c d)else l
def overP(l:List Pc)(p:Pc):List Pc:=if May p.fr p.to then
  (withoutP l p.fr p.to).takeWhile (fun o=>decide (o.fr<p.to))++[p]++(withoutP l p.fr p.to).dropWhile (fun o=>decide (o.fr<p.to))else l
def OrdP:Int→List Pc→Prop
 | _,[]=>True
 | n,p::l=>May p.fr p.to∧n≤p.fr∧OrdP p.to l
theorem OrdP.mono{l:List Pc}{n m:Int}(h:OrdP n l)(k:m≤n):OrdP m l:=by
 cases l with
 | nil=>trivial
 | cons p l=>exact⟨h.1,Int.le_trans k h.2.1,h.2.2⟩
theorem OrdP.append{l m:List Pc}{n e:Int}(h:OrdP n l)(hl:∀p∈l,p.to≤e)(hne:n≤e)(k:OrdP e m):OrdP n (l++m):=by
 induction l generalizing n with
 | nil=>exact k.mono hne
 | cons p l ih=>exact⟨h.1,h.2.1,ih h.2.2 (fun q hq=>hl q (List.mem_cons_of_mem _ hq)) (hl p (List.mem_cons_self ..))⟩
def leastS(out:List Pc)(p:Pc):List Pc:=match out.getLast? with
 | some q=>if q.to=p.fr∧q.val=p.val then out.dropLast++[⟨q.fr,p.to,q.val⟩]else out++[p]
 | none=>[p]
def leastP(l:List Pc):List Pc:=l.foldl leastS []
def Apart:List Pc→Prop
 | []=>True
 | [_]=>True
 | p::q::l=>¬(p.to=q.fr∧p.val=q.val)∧Apart (q::l)
theorem leastS_nil(p:Pc):leastS [] p=[p]:=rfl
theorem leastS_snoc(out:List Pc)(q p:Pc):leastS (out++[q]) p=if q.to=p.fr∧q.val=p.val then out++[⟨q.fr,p.to,q.val⟩]else out++[q]++[p]:=by
 unfold leastS
 rw[List.getLast?_concat,List.dropLast_concat]
theorem snoc_cases(l:List Pc):l=[]∨∃m q,l=m++[q]:=by
 by_cases h:l=[]
 ·exact .inl h
 ·exact .inr ⟨_,_,(List.dropLast_concat_getLast h).symm⟩
end Go.Vn

/- Keys as bytes: read and written, plainly. No condition. -/
namespace Go.Vn
structure KP where
 isT:Bool
 num:Int
 txt:List UInt8
deriving DecidableEq
def val8(b:List UInt8):Nat:=b.foldl (fun n c=>n*256+c.toNat) 0
theorem val8_app(b:List UInt8)(c:UInt8):val8 (b++[c])=val8 b*256+c.toNat:=by simp[val8]
theorem val8_lt(b:List UInt8):val8 b<256 ^ b.length:=by
 suffices h:∀n (b:List UInt8),b.length=n→val8 b<256 ^ b.length from h _ b rfl
 intro n
 induction n with
 | zero=>intro b h;have:b=[]:=List.length_eq_zero_iff.mp h;subst this;simp[val8]
 | succ n ih=>
  intro b h
  have hne:b≠[]:=by intro e;subst e;simp at h
  obtain⟨i,l,rfl⟩:∃i l,b=i++[l]:=⟨b.dropLast,b.getLast hne,(List.dropLast_concat_getLast hne).symm⟩
  have hi:i.length=n:=by simpa using h
  have:=ih i hi
  rw[val8_app,h,Nat.pow_succ]
  have hl:=l.toNat_lt
  rw[hi]at this
  omega
def words:List UInt8→Except Int (List UInt8 × List UInt8)
 | []=>.error 3
 | c::rest=>if c≠0 then(match words rest with
   | .ok (s,r)=>.ok (c::s,r)
   | .error e=>.error e)
  else match rest with
   | []=>.error 3
   | d::rest'=>if d=255 then(match words rest' with
     | .ok (s,r)=>.ok (0::s,r)
     | .error e=>.error e)
    else if d=1 then .ok ([],rest')else .error 2
def esc(s:List UInt8):List UInt8:=s.flatMap fun c=>if c=0 then [0,255]else [c]
theorem words_len{b s r:List UInt8}(h:words b=.ok (s,r)):r.length<b.length:=by
 suffices H:∀n (b:List UInt8),b.length≤n→∀s r,words b=.ok (s,r)→r.length<b.length from H _ b (Nat.le_refl _) s r h
 intro n
 induction n with
 | zero=>intro b hb s r h;have:b=[]:=List.length_eq_zero_iff.mp (by omega);subst this;simp[words]at h
 | succ n ih=>
  intro b hb s r h
  cases b with
  | nil=>simp[words]at h
  | cons c rest=>
   unfold words at h
   simp only[List.length_cons]at hb ⊢
   split at h
   ·split at h
    ·rename_i s' r' hw
     cases h
     have:=ih rest (by omega) _ _ hw
     omega
    ·cases h
   ·cases rest with
    | nil=>cases h
    | cons d rest'=>
     simp only[List.length_cons]at hb h ⊢
     split at h
     ·split at h
      ·rename_i s' r' hw
       cases h
       have:=ih rest' (by omega) _ _ hw
       omega
      ·cases h
     ·split at h
      ·cases h;omega
      ·cases h
theorem words_esc{b s r:List UInt8}(h:words b=.ok (s,r)):b=esc s++[0,1]++r:=by
 suffices H:∀n (b:List UInt8),b.length≤n→∀s r,words b=.ok (s,r)→b=esc s++[0,1]++r from H _ b (Nat.le_refl _) s r h
 intro n
 induction n with
 | zero=>intro b hb s r h;have:b=[]:=List.length_eq_zero_iff.mp (by omega);subst this;simp[words]at h
 | succ n ih=>
  intro b hb s r h
  cases b with
  | nil=>simp[words]at h
  | cons c rest=>
   unfold words at h
   simp only[List.length_cons]at hb
   split at h
   ·rename_i hc
    split at h
    ·rename_i s' r' hw
     cases h
     have:=ih rest (by omega) _ _ hw
     rw[this];simp[esc,hc]
    ·cases h
   ·rename_i hc
    have hc:c=0:=Classical.not_not.mp hc
    subst hc
    cases rest with
    | nil=>cases h
    | cons d rest'=>
     simp only[List.length_cons]at hb h
     split at h
     ·rename_i hd
      subst hd
      split at h
      ·rename_i s' r' hw
       cases h
       have:=ih rest' (by omega) _ _ hw
       rw[this];simp[esc]
      ·cases h
     ·split at h
      ·rename_i hd
       subst hd
       cases h
       simp[esc]
      ·cases h
def readK(b:List UInt8):Except Int (List KP):=match b with
 | []=>.ok []
 | k::rest=>if k=1 then
   (if rest.length<8 then .error 3 else match readK (rest.drop 8)with
    | .ok l=>.ok (⟨false,(val8 (rest.take 8):Int)-9223372036854775808,[]⟩::l)
    | .error e=>.error e)
  else if k=2 then(match hw:words rest with
   | .error e=>.error e
   | .ok (s,r)=>match readK r with
    | .ok l=>.ok (⟨true,0,s⟩::l)
    | .error e=>.error e)
  else .error 2
termination_by b.length
decreasing_by
 ·simp only[List.length_drop,List.length_cons];omega
 ·have:=words_len hw;simp only[List.length_cons];omega
def bytes8(n:Nat):List UInt8:=(List.range 8).map fun i=>UInt8.ofNat (n / 256 ^ (7-i)%256)
theorem bytes8_val8{b:List UInt8}(h:b.length=8):bytes8 (val8 b)=b:=by
 obtain⟨a,b,c,d,e,f,g,i,rfl⟩:∃x0 x1 x2 x3 x4 x5 x6 x7,b=[x0,x1,x2,x3,x4,x5,x6,x7]:=by
  match b,h with
  | [x0,x1,x2,x3,x4,x5,x6,x7],_=>exact⟨x0,x1,x2,x3,x4,x5,x6,x7,rfl⟩
 have key:∀(x:UInt8) (n:Nat),n%256=x.toNat→UInt8.ofNat (n%256)=x:=fun x n hh=>by rw[hh];simp
 have:=a.toNat_lt;have:=b.toNat_lt;have:=c.toNat_lt;have:=d.toNat_lt;have:=e.toNat_lt;have:=f.toNat_lt;have:=g.toNat_lt;have:=i.toNat_lt
 simp only[bytes8,val8,List.foldl_cons,List.foldl_nil,List.range_succ,List.range_zero,List.nil_append,List.map_append,List.map_cons,List.map_nil,List.cons_append]
 congr 1
 ·exact key a _ (by omega)
 congr 1
 ·exact key b _ (by omega)
 congr 1
 ·exact key c _ (by omega)
 congr 1
 ·exact key d _ (by omega)
 congr 1
 ·exact key e _ (by omega)
 congr 1
 ·exact key f _ (by omega)
 congr 1
 ·exact key g _ (by omega)
 congr 1
 ·exact key i _ (by omega)
def writeP(p:KP):List UInt8:=if p.isT then 2::(esc p.txt++[0,1])else 1::bytes8 (p.num+9223372036854775808).toNat
def writeK(l:List KP):List UInt8:=l.flatMap writeP
theorem write_read{b:List UInt8}{l:List KP}(h:readK b=.ok l):writeK l=b:=by
 suffices H:∀n (b:List UInt8),b.length≤n→∀l,readK b=.ok l→writeK l=b from H _ b (Nat.le_refl _) l h
 intro n
 induction n with
 | zero=>intro b hb l h;have:b=[]:=List.length_eq_zero_iff.mp (by omega);subst this;rw[readK]at h;cases h;rfl
 | succ n ih=>
  intro b hb l h
  cases b with
  | nil=>rw[readK]at h;cases h;rfl
  | cons k rest=>
   rw[readK]at h
   simp only[List.length_cons]at hb
   split at h
   ·rename_i hk
    subst hk
    split at h
    ·cases h
    ·rename_i h8
     split at h
     ·rename_i l' hr
      cases h
      have:=ih _ (by rw[List.length_drop];omega) _ hr
      have e8:(rest.take 8).length=8:=by rw[List.length_take];omega
      have e:((val8 (rest.take 8):Int)-9223372036854775808+9223372036854775808).toNat=val8 (rest.take 8):=by omega
      show writeP _++writeK l'=_
      rw[this]
      simp only[writeP,Bool.false_eq_true,if_false,e]
      rw[bytes8_val8 e8]
      simp
     ·cases h
   ·split at h
    ·rename_i hk
     subst hk
     split at h
     ·cases h
     ·rename_i s r hw
      split at h
      ·rename_i l' hr
       cases h
       have:=ih _ (by have:=words_len hw;omega) _ hr
       have e:=words_esc hw
       show writeP _++writeK l'=_
       rw[this,e]
       simp[writeP]
      ·cases h
    ·cases h
def keyOk(k:List UInt8):Bool:=match readK k with
 | .ok [p,q] => !p.isT&&q.isT&&decide (0≤p.num)&&decide (p.num≤3)&&decide (q.txt.length≤40)
 | _=>false
end Go.Vn
