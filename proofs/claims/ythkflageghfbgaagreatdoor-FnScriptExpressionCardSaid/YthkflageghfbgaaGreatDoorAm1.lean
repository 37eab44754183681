/- Loads, stores, appends, copies, calls, calls that write into what is handed in, function values. -/
import Derived.Test.YthkflageghfbgaaGreatDoorAm0
import Derived.Deep.Upon
import Derived.Laws.AppendOwn
import Derived.Lib.AtoiErrMem
import Derived.Lib.SliceRun
set_option linter.unusedVariables false
set_option linter.unusedSimpArgs false
/- Loads and stores. -/
namespace Go.Proofs.YthkflageghfbgaaGreatDoor.Am
open Go Go.RowKit
section
variable {P : Pg} {Wr0 : Base} {w0 : World} {S S' : St} {I : Info} {a : Act} {w : World} {E : Env} {o : Oper} {R : Type} {K : St → Option R} {r : R} {x y : Operand}
theorem kd_var(hE:TysOk P E){t:Nat}{k:Kd}(h:kdOf E t=some k):VarOk P t k:=by
 obtain⟨d,hd,rfl⟩:=kdOf_spec h;exact(hE t d hd).var
theorem run_load_cell{b off:Nat}{v:Value}(h:w.cell? ⟨b,off,none⟩=some v):(load ⟨b,off,none⟩).run P w=.ok v w:=by
 simp[load,Sem.run,h]
theorem aggD_row{u:TypeDesc}(h:aggD u=true):u.isRow=true:=by cases u<;>first|rfl|cases h
theorem run_loadVar_agg{t:TypeId}{k:Kd}(hv:VarOk P t k)(hk:k.isAgg=true){b off:Nat}{cs:List Value}(hl:cs.length=k.size)(hm:∀j (h:j<cs.length),w.cell? ⟨b,off+j,none⟩=some cs[j]):
  (loadVar t ⟨b,off,none⟩).run P w=.ok (.agg cs.toArray) w:=by
 obtain⟨i,hi,hs,_⟩:=hv.info;obtain⟨u,hu,ha⟩:=hv.und;refine run_loadVar_mid w b off t cs u ?_ hu (aggD_row (by rw[ha];exact hk)) (by rw[hi,hl];simp[hs]);intro j v hj;obtain⟨h1,h2⟩:=List.getElem?_eq_some_iff.1 hj;rw[hm j h1,h2]
theorem run_loadVar_leaf{t:TypeId}{k:Kd}(hv:VarOk P t k)(hk:k.isAgg=false){b off:Nat}{v:Value}(hm:w.cell? ⟨b,off,none⟩=some v):
  (loadVar t ⟨b,off,none⟩).run P w=.ok v w:=by
 obtain⟨u,hu,ha⟩:=hv.und;unfold loadVar;rw[Sem.run_bind,run_isAgg_of hu,ha,hk];exact run_load_cell hm
theorem load_data{Wr:WrP}{t:TypeId}{k:Kd}(hv:VarOk P t k){b off:Nat}{cs:List Value}{x:k.T}(hr:RepC w Wr k cs x)(hm:∀j (h:j<cs.length),w.cell? ⟨b,off+j,none⟩=some cs[j]):
  ∃v,(loadVar t ⟨b,off,none⟩).run P w=.ok v w∧RepV w Wr k x v:=by
 have hl:=hr.length;cases hk:k.isAgg with
 |true=>exact⟨_,run_loadVar_agg hv hk hl hm,(RepV.ofAgg hk).2 ⟨cs,rfl,hr⟩⟩
 |false=>
  have h1:k.size=1:=by cases k<;>first|rfl|cases hk
  rw[h1] at hl
  match cs,hl with
  |[c],_=>
   have:=hm 0 (by simp);exact⟨c,run_loadVar_leaf hv hk (by simpa using this),(RepC.one hk).2 hr⟩
theorem loadAt_run{t:TypeId}{b off:Nat}{v:Value}(h:(loadVar t ⟨b,off,none⟩).run P w=.ok v w)(ho:o.op=.load t x)(hx:a.eval x=.pointer (some ⟨b,off,none⟩)):
  (execOp a.eval o).run P w=.ok (.value v) w:=by
 simp only[execOp,ho,hx,Instr.loadAt,Instr.sureAddr];rw[Sem.run_bind,Sem.run_bind];simp only[Sem.run_pure,Result.andThen_ok];rw[h];rfl
/-- a type of functions -/
structure FtOk (P:Pg) (t:TypeId):Prop where
 info:∃i,P.p.info? t=some i∧i.size=1∧∃z,i.zero=some z∧z.cells.size=1
 und:∃ut,P.p.underlying t=some ut∧aggD ut=false
theorem ldClo_step{t:TypeId}(hT:E.sp t=1→FtOk P t)(ho:o.op=.load t x){y:AVal}(hy:ldClo E t (S.eval x)=some y)(h:K (S.put o.dst y)=some r):StepSim P Wr0 w0 o S K r:=by
 intro I a w hS;have hx:=hS.eval x;unfold ldClo at hy;split at hy
 ·rename_i ki ko φ hxe;obtain⟨hsp,hy⟩:=ifEq_yes hy;obtain⟨hd,hy⟩:=ifT_some hy;obtain rfl:=Option.some.inj hy;rw[hxe] at hx;simp only[Rep] at hx;obtain⟨b,off,v,h1,h2,h3⟩:=hx;obtain⟨u,hu,ha⟩:=(hT hsp).und;have hc:=(h3 0 (by simp)).1;have hl:(loadVar t ⟨b,off,none⟩).run P w=.ok v w:=by
   unfold loadVar;rw[Sem.run_bind,run_isAgg_of hu,ha];exact run_load_cell (by simpa using hc)
  refine⟨_,h,fun next Q hn=>wp_value (loadAt_run hl ho h1) (hn _ _ _ (hS.put ?_ _))⟩;simp only[Rep];exact(Clo.of hd).2 h2
 ·cases hy
theorem load_step(hE:TysOk P E){t:TypeId}{k':Kd}(hk':kdOf E t=some k')(ho:o.op=.load t x)
  (h:(match S.eval x with
   |.ptr t c=>match S.heap t with
    |some (.box cs)=>match(generalizing:=false) k' with
     |.pair a b=>ifT (Nat.ble (c+(Kd.pair a b).size) (lenA cs)) (K (S.put o.dst (.agg (takeA (Kd.pair a b).size (dropA c cs))))) none
     |.unit=>none
     |_=>match getA none (mapA some cs) c with|some y=>K (S.put o.dst y)|none=>none
    |_=>none
   |.ep t i c=>match S.heap t with
    |some (.arr k xs _)=>match Kd.at k' k c with|some gs=>K (S.put o.dst (.v k' (gs.1 (List.getD (α:=k.T) xs i k.dflt))))|none=>none
    |_=>none
   |.pi t n i=>match S.heap t with
    |some (.box cs)=>ifT (ifT k'.isAgg false (Nat.ble n (lenA cs))) (match cellsT k' (takeA n cs) with
     |some xs=>K (S.put o.dst (.v k' (List.getD (α:=k'.T) xs i k'.dflt)))
     |none=>none) none
    |_=>none
   |.fp k y=>match Kd.at k' k 0 with|some gs=>K (S.put o.dst (.v k' (gs.1 y)))|none=>none
   |_=>none)=some r):StepSim P Wr0 w0 o S K r:=by
 intro I a w hS;have hvar:=kd_var hE hk';have hx:=hS.eval x;split at h
 ·rename_i t' c hxe;rw[hxe] at hx;split at h
  ·rename_i cs hH;obtain⟨i,hi,hr⟩:=hS.rows t' _ hH;simp only[Rep,hi] at hx;cases i with
   |arr=>exact hr.elim
   |box b n=>
    obtain⟨h1,h2,vs,h3,h4⟩:=hr;have hx:a.eval x=.pointer (some ⟨b,c,none⟩):=hx;have hlen:=h3.length;have leaf:k'.isAgg=false→(match getA none (mapA some cs) c with|some y=>K (S.put o.dst y)|none=>none)=some r→∃S',K S'=some r∧∀(next:Act→World→Prop) (Q:Exit→Act→World→Prop),(∀I' a' w',Sim P Wr0 w0 S' I' a' w'→next a' w')→o.wp P a w next Q:=by
     intro hna h;split at h
     ·rename_i y hy;obtain⟨u,hu,hru⟩:=h3.at hy;obtain⟨hlt,hu⟩:=List.getElem?_eq_some_iff.1 hu;have hc:=h4 c hlt;rw[hu] at hc;exact⟨_,h,fun next Q hn=>wp_value (loadAt_run (run_loadVar_leaf hvar hna hc) ho hx) (hn _ _ _ (hS.put hru _))⟩
     ·cases h
    cases k' with
    |pair p q=>
     obtain⟨hb,h⟩:=ifT_some h;have hb:=Nat.le_of_ble_eq_true hb;rw[lenA_eq,hlen] at hb;refine⟨_,h,fun next Q hn=>wp_value (loadAt_run (run_loadVar_agg hvar rfl (cs:=(vs.drop c).take (Kd.pair p q).size) ?_ ?_) ho hx) (hn _ _ _ (hS.put ?_ _))⟩
     ·rw[List.length_take,List.length_drop];omega
     ·intro j hj;rw[List.length_take,List.length_drop] at hj;have:=h4 (c+j) (by omega);rw[this];simp
     ·simp only[Rep];exact⟨_,rfl,(h3.drop c).take _⟩
    |unit=>cases h
    |_=>exact leaf rfl h
  ·cases h
 ·rename_i t' i c hxe;rw[hxe] at hx;split at h
  ·rename_i k xs ao hH;obtain⟨inf,hi,hr⟩:=hS.rows t' _ hH;simp only[Rep,hi] at hx;cases inf with
   |box=>exact hr.elim
   |arr k2 n loc N=>
    obtain⟨rfl,rfl,hr⟩:=hr;obtain⟨hlt,b,base,hl,hx⟩:=hx;subst hl;obtain⟨h1,h2,h3⟩:=hr;split at h
    ·rename_i gs hg;obtain⟨cs,h4,h5⟩:=h3 i hlt;have h6:=at_rep hg h4;have hl4:=h4.length;have hle:=at_len hg;obtain⟨v,h7,h8⟩:=load_data (b:=b) (off:=base+i*k2.size+c) hvar h6 (by
      intro j hj;rw[List.length_take,List.length_drop] at hj;have:=h5 (c+j) (by omega);rw[←Nat.add_assoc] at this;rw[this];simp)
     have e:List.getD (α:=k2.T) xs i k2.dflt=List.get (α:=k2.T) xs ⟨i,hlt⟩:=by simp[List.getD,hlt]
     rw[e] at h;exact⟨_,h,fun next Q hn=>wp_value (loadAt_run h7 ho hx) (hn _ _ _ (hS.put (by simp only[Rep];exact h8) _))⟩
    ·cases h
  ·cases h
 ·rename_i t' n i hxe;rw[hxe] at hx;split at h
  ·rename_i cs hH;obtain⟨inf,hi,hr⟩:=hS.rows t' _ hH;simp only[Rep,hi] at hx;cases inf with
   |arr=>exact hr.elim
   |box b m=>
    obtain⟨h1,h2,vs,h3,h4⟩:=hr;obtain⟨hin,hx⟩:i<n∧a.eval x=.pointer (some ⟨b,i,none⟩):=hx;obtain⟨hc,h⟩:=ifT_some h;have hna:k'.isAgg=false:=by
     cases hk:k'.isAgg with
     |false=>rfl
     |true=>rw[hk] at hc;cases hc
    rw[hna] at hc;have hle:n≤cs.length:=by
     have:=Nat.le_of_ble_eq_true (show Nat.ble n (lenA cs)=true from hc)
     rwa [lenA_eq] at this
    split at h
    ·rename_i xs hxs;have hmap:=cellsT_map hxs;rw[takeA_eq] at hmap;have hl:xs.length=n:=by
      have:=congrArg List.length hmap;rw[List.length_take,List.length_map] at this;omega
     have hy:cs[i]?=some (.v k' (List.getD (α:=k'.T) xs i k'.dflt)):=by
      have e1:(cs.take n)[i]?=cs[i]?:=List.getElem?_take_of_lt hin;rw[←e1,hmap,List.getElem?_map,List.getElem?_eq_getElem (by omega)];simp[List.getD,List.getElem?_eq_getElem (show i<xs.length by omega)]
     have hy':getA none (mapA some cs) i=some (.v k' (List.getD (α:=k'.T) xs i k'.dflt)):=by
      have:∀(l:List AVal) (j:Nat),getA none (mapA some l) j=l[j]?:=by
       intro l
       induction l with
       |nil=>intro j;simp[mapA,getA]
       |cons z l ih=>intro j;cases j with
        |zero=>rfl
        |succ j=>simpa[mapA,getA] using ih j
      rw[this];exact hy
     obtain⟨u,hu,hru⟩:=h3.at hy';obtain⟨hlt,hu⟩:=List.getElem?_eq_some_iff.1 hu;have hc:=h4 i hlt;rw[hu] at hc;exact⟨_,h,fun next Q hn=>wp_value (loadAt_run (run_loadVar_leaf hvar hna hc) ho hx) (hn _ _ _ (hS.put hru _))⟩
    ·cases h
  ·cases h
 ·rename_i k y hxe;rw[hxe] at hx;simp only[Rep] at hx;obtain⟨b,off,cs,hx,h1,h2⟩:=hx;split at h
  ·rename_i gs hg;obtain⟨h3,h4⟩:=fp_field hg h1 h2;obtain⟨v,h5,h6⟩:=load_data (b:=b) (off:=off) hvar h3 (fun j hj=>by simpa using(h4 j hj).1);exact⟨_,h,fun next Q hn=>wp_value (loadAt_run h5 ho hx) (hn _ _ _ (hS.put (by simp only[Rep];exact h6) _))⟩
  ·cases h
 ·cases h
/-! ### stores -/
theorem setCell_block(w:World)(b o:Nat)(v:Value){arr:Array Value}{e:TypeId}{fz:Nat×Nat}(h:w.heap[b]?=some (.cells arr e fz)):
  (w.setCell ⟨b,o,none⟩ v).heap[b]?=some (.cells (arr.setIfInBounds o v) e fz):=by
 simp only[World.setCell,Array.getElem?_modify,if_true,h,Option.map_some];rfl
theorem setCells_wrote(b:Nat):∀(vs:List Value) (o:Nat) (w:World),Wrote w (w.setCells b o vs) b
 |[],_,w=>⟨rfl,rfl,rfl,rfl,fun _ _=>rfl,rfl⟩
 |v::vs,o,w=>by
  have ih:=setCells_wrote b vs (o+1) (w.setCell ⟨b,o,none⟩ v);exact⟨ih.os,ih.tape,ih.output,ih.size.trans (by simp[World.setCell]),fun k hk=>(ih.block k hk).trans (Below.heap_setCell _ _ _ _ (by simpa using hk)),ih.drawn⟩
theorem setCells_nofz(b:Nat){N lo:Nat}:∀(vs:List Value) (o:Nat) (w:World),NoFz w b N lo→NoFz (w.setCells b o vs) b N lo
 |[],_,_,h=>h
 |v::vs,o,w,h=>by
  refine setCells_nofz b vs (o+1) _ ?_;obtain⟨arr,e,fz,h1,h2,h3⟩:=h;exact⟨_,e,fz,setCell_block w b o v h1,by simp[h2],h3⟩
theorem NoFz.free{b N lo o:Nat}(h:NoFz w b N lo)(h1:lo≤o)(h2:o<N):w.frozen? ⟨b,o,none⟩=false:=by
 obtain⟨arr,e,fz,h3,h4,h5⟩:=h;have:=h5 o h1 h2;unfold World.frozen?;simp only[h3];simp;omega
theorem NoFz.cell{b N lo o:Nat}(h:NoFz w b N lo)(h2:o<N):(w.cell? ⟨b,o,none⟩).isSome=true:=by
 obtain⟨arr,e,fz,h3,h4,h5⟩:=h;unfold World.cell?;simp only[h3];simp;omega
theorem setCells_list{b off c:Nat}{vs us:List Value}(h:∀j (hj:j<vs.length),w.cell? ⟨b,off+j,none⟩=some vs[j])(hc:c+us.length≤vs.length):
  ∀j (hj:j<(vs.take c++us++vs.drop (c+us.length)).length),(w.setCells b (off+c) us).cell? ⟨b,off+j,none⟩=some (vs.take c++us++vs.drop (c+us.length))[j]:=by
 intro j hj;have hlen:(vs.take c++us++vs.drop (c+us.length)).length=vs.length:=by
  simp only[List.length_append,List.length_take,List.length_drop];omega
 rw[hlen] at hj
 by_cases h1:j<c
 ·rw[World.cell?_setCells_out b us (off+c) w _ (fun _ _=>.inl (by simp;omega)),h j hj];congr 1;rw[List.getElem_append_left (by simp;omega),List.getElem_append_left (by simp;omega),List.getElem_take]
 ·by_cases h2:j<c+us.length
  ·have:=World.cell?_setCells_in b us (off+c) w (fun q hq=>by
    have:=h (c+q) (by omega);rw[Nat.add_assoc,this];rfl) (j-c) (by omega)
   rw[show off+c+(j-c)=off+j by omega] at this;rw[this];congr 1;rw[List.getElem_append_left (by simp;omega),List.getElem_append_right (by simp;omega)];congr 1;simp;omega
  ·rw[World.cell?_setCells_out b us (off+c) w _ (fun _ _=>.inr (by simp;omega)),h j hj];congr 1;rw[List.getElem_append_right (by simp;omega),List.getElem_drop];congr 1;simp;omega
theorem RepC.ones{Wr:WrP}:∀{k:Kd} {cs:List Value} {x:k.T},RepC w Wr k cs x→∀u∈cs,u.oneCell'=true
 |.int _,_,_,h,u,hu=>by simp only[RepC] at h;subst h;simp at hu;subst hu;rfl
 |.bool,_,_,h,u,hu=>by simp only[RepC] at h;subst h;simp at hu;subst hu;rfl
 |.str,_,_,h,u,hu=>by simp only[RepC] at h;subst h;simp at hu;subst hu;rfl
 |.err,_,_,h,u,hu=>by
  simp only[RepC] at h
  rcases h with⟨_,rfl⟩|⟨_,t,q,rfl⟩<;>(simp at hu;subst hu;rfl)
 |.unit,_,_,h,u,hu=>by simp only[RepC] at h;subst h;cases hu
 |.sl _,_,_,h,u,hu=>by
  simp only[RepC] at h;obtain⟨A,cap,rfl,_⟩:=h;simp at hu;subst hu;rfl
 |.pt,_,_,h,u,hu=>by
  simp only[RepC] at h;obtain⟨n,h⟩:=h;obtain⟨A,l,cap,rfl⟩:=h.len;simp at hu;subst hu;rfl
 |.pair p q,_,_,h,u,hu=>by
  simp only[RepC] at h;obtain⟨c1,c2,rfl,h1,h2⟩:=h
  rcases List.mem_append.1 hu with hu|hu
  ·exact RepC.ones h1 u hu
  ·exact RepC.ones h2 u hu
theorem leafV_one{Wr:WrP}{y:AVal}{u:Value}(h:leafV y=true)(hr:Rep P w Wr I y u):u.oneCell'=true:=by
 cases y<;>simp only[Rep] at hr
 case undef=>cases h
 case tup=>cases h
 case agg=>cases h
 case nil=>rw[hr];rfl
 case v k x=>
  have hg:k.isAgg=false:=by
   simp only[leafV,ifT] at h;cases hk:k.isAgg with
   |false=>rfl
   |true=>rw[hk] at h;cases h
  exact RepC.ones ((RepC.one hg).1 hr) u (by simp)
 case ref=>
  split at hr
  ·obtain⟨_,_,A,cap,hr,_⟩:=hr;rw[hr];rfl
  ·exact hr.elim
 case ptr=>
  split at hr
  ·rw[hr];rfl
  ·exact hr.elim
 case ep=>
  split at hr
  ·obtain⟨_,b,base,_,hr⟩:=hr;rw[hr];rfl
  ·exact hr.elim
 case pi=>
  split at hr
  ·rw[hr.2];rfl
  ·exact hr.elim
 case fp=>obtain⟨b,off,cs,hr,_⟩:=hr;rw[hr];rfl
 case fn=>obtain⟨vs,hr,_⟩:=hr;rw[hr];rfl
 case clo=>rcases Clo.form hr with⟨g,caps,hr⟩|⟨b,off,hr⟩<;>(rw[hr];rfl)
theorem leafVs_ones{Wr:WrP}:∀{ys:List AVal} {us:List Value},leafVs ys=true→RepL P w Wr I ys us→∀u∈us,u.oneCell'=true
 |[],[],_,_,u,hu=>by cases hu
 |[],_::_,_,h,_,_=>by simp only[RepL] at h
 |_::_,[],_,h,_,_=>by simp only[RepL] at h
 |y::ys,v::us,hl,h,u,hu=>by
  simp only[RepL] at h;simp only[leafVs] at hl;have hl:leafV y=true∧leafVs ys=true:=by
   unfold ifT at hl;split at hl
   ·rename_i e;exact⟨e,hl⟩
   ·cases hl
  rcases List.mem_cons.1 hu with rfl|hu
  ·exact leafV_one hl.1 h.1
  ·exact leafVs_ones hl.2 h.2 u hu
theorem run_storeVar{t:TypeId}{k:Kd}(hv:VarOk P t k){b off:Nat}{v:Value}(hl:v.cells.size=k.size)(hc:∀j,j<v.cells.size→(w.cell? ⟨b,off+j,none⟩).isSome=true)
  (hf:∀j,j<v.cells.size→w.frozen? ⟨b,off+j,none⟩=false) (h1:∀u∈v.cells.toList,u.oneCell'=true):
  (storeVar t ⟨b,off,none⟩ v).run P w=.ok () (w.setCells b off v.cells.toList):=by
 obtain⟨i,hi,hs,_⟩:=hv.info;unfold storeVar;rw[Sem.run_bind,run_sizeOf_of hi];simp only[Result.andThen_ok];rw[if_neg (by rw[hl,hs];simp)];have:=run_storeCells_cells (P:=P) b off v.cells.toList 0 w (fun j hj=>by simpa using hc j (by simpa using hj)) (fun j hj=>by simpa using hf j (by simpa using hj)) h1;simpa using this
theorem storeAt_run{t:TypeId}{b off:Nat}{w':World}(h:(storeVar t ⟨b,off,none⟩ (a.eval y)).run P w=.ok () w')(ho:o.op=.store t x y)(hx:a.eval x=.pointer (some ⟨b,off,none⟩)):
  (execOp a.eval o).run P w=.ok .skip w':=by
 simp only[execOp,ho,hx,Instr.storeAt,Instr.sureAddr];rw[Sem.run_bind,Sem.run_bind];simp only[Sem.run_pure,Result.andThen_ok];rw[h];rfl
theorem keep_setCells{Wr:WrP}{b o:Nat}{us:List Value}(h:∀j,j<us.length→Wr b (o+j)):Keep w Wr (w.setCells b o us) Wr:=by
 refine⟨fun b' o' v h1 h2=>⟨?_,h2⟩⟩;rw[World.cell?_setCells_out b us o w ⟨b',o',none⟩ ?_]
 ·exact h1
 ·intro hb _;simp only at hb⊢;subst hb;apply Classical.byContradiction;intro hn;exact h2 (by have:=h (o'-o) (by omega);rwa [show o+(o'-o)=o' by omega] at this)
theorem store_ptr_step(hE:TysOk P E){t:TypeId}{k':Kd}(hk':kdOf E t=some k')(ho:o.op=.store t x y){t' c:Nat}(hxe:∀{w:World} {Wr:WrP} {I:Info} {v:Value},Rep P w Wr I (S.eval x) v→Rep P w Wr I (.ptr t' c) v){cs:List AVal}(hH:S.heap t'=some (.box cs))
  (h:ifT (okV (S.eval y)) (ifT (leafVs (S.eval y).cells) (ifEq (lenA (S.eval y).cells) k'.size (ifT (Nat.ble (c+lenA (S.eval y).cells) (lenA cs)) (K ((S.setH t' (.box (appA (takeA c cs) (appA (S.eval y).cells (dropA (c+lenA (S.eval y).cells) cs))))).put o.dst .undef)) none) none) none) none=some r):
  StepSim P Wr0 w0 o S K r:=by
 intro I a w hS;obtain⟨hok,h1⟩:=ifT_some h;obtain⟨hlf,h2⟩:=ifT_some h1;obtain⟨hsz,h3⟩:=ifEq_some h2;obtain⟨hle,h4⟩:=ifT_some h3;have hle:=Nat.le_of_ble_eq_true hle;rw[lenA_eq,lenA_eq] at hle;rw[lenA_eq] at hsz;have hx:=hxe (hS.eval x);have hy:=hS.eval y;obtain⟨i,hi,hr⟩:=hS.rows t' _ hH;simp only[Rep,hi] at hx;cases i with
 |arr=>exact hr.elim
 |box b n=>
  have hx:a.eval x=.pointer (some ⟨b,c,none⟩):=hx;obtain⟨e1,e2,vs,e3,e4⟩:=hr;have hL:=cells_rep hok hy;generalize hus:(a.eval y).cells.toList=us at hL;have hul:=hL.length;have hvl:=e3.length;have hcs:(a.eval y).cells.size=us.length:=by rw[←hus,Array.length_toList]
  have hrun:=run_storeVar (P:=P) (b:=b) (off:=c) (kd_var hE hk') (v:=a.eval y) (by omega) (fun j hj=>e2.cell (by omega)) (fun j hj=>e2.free (by omega) (by omega)) (by rw[hus];exact leafVs_ones hlf hL);rw[hus] at hrun;have hw:=setCells_wrote b us c w;have hown:∀j,j<us.length→WrOf Wr0 S.heap I b (c+j):=fun j hj=>.inr ⟨t',_,_,hH,hi,rfl⟩;have hk:=keep_setCells (w:=w) hown;have hlenA:lenA (S.eval y).cells=us.length:=by rw[lenA_eq,hul]
  have key:=hS.update (r':=.box (appA (takeA c cs) (appA (S.eval y).cells (dropA (c+lenA (S.eval y).cells) cs)))) hH (by simp) hi rfl (by simp) (fun b o h=>h) hw hk ?_
  ·exact⟨_,h4,fun next Q hn=>wp_skipped (storeAt_run hrun ho hx) (hn _ _ _ (key.put (by simp only[Rep]) _))⟩
  ·have hk':Keep w (WrOf Wr0 S.heap I) (w.setCells b c us) (WrOf Wr0 (S.setH t' (.box (appA (takeA c cs) (appA (S.eval y).cells (dropA (c+lenA (S.eval y).cells) cs))))).heap I):=by
    refine⟨fun b o v h1 h2=>⟨(hk.cell b o v h1 h2).1,fun h3=>h2 ?_⟩⟩
    rcases h3 with h3|⟨p,q,j,g1,g2,g3⟩
    ·exact .inl h3
    ·by_cases ep:p=t'
     ·subst ep;simp only[St.setH,ifEq_pos rfl] at g1;obtain rfl:=Option.some.inj g1;rw[hi] at g2;obtain rfl:=Option.some.inj g2;exact .inr ⟨p,_,_,hH,hi,g3⟩
     ·simp only[St.setH,ifEq_neg ep] at g1;exact .inr ⟨p,q,j,g1,g2,g3⟩
   have hLk:=hL.keep hk' (InfoLe.refl I);have hVk:=e3.keep hk' (InfoLe.refl I);have hnew:=(hVk.take c).app (hLk.app (hVk.drop (c+lenA (S.eval y).cells)));rw[←List.append_assoc,hlenA] at hnew;refine⟨?_,setCells_nofz b us c w e2,vs.take c++us++vs.drop (c+us.length),by rw[hlenA];exact hnew, ?_⟩
   ·rw[hlenA];have:=hnew.length;rw[this];simp only[List.length_append,List.length_take,List.length_drop];omega
   ·intro j hj;have:=setCells_list (w:=w) (b:=b) (off:=0) (c:=c) (vs:=vs) (us:=us) (fun q hq=>by rw[Nat.zero_add];exact e4 q hq) (by omega) j hj;simpa using this
theorem putAt_eq{k:Kd}(y:k.T):∀(xs:List k.T) (i j:Nat),i<xs.length→putAt k y (j+i) j xs=(xs.map fun x=>AVal.v k x).take i++.v k y::(xs.map fun x=>AVal.v k x).drop (i+1)
 |[],_,_,h=>absurd h (Nat.not_lt_zero _)
 |x::xs,0,j,_=>by
  have:∀(l:List k.T) (m:Nat),j<m→putAt k y j m l=l.map fun x=>AVal.v k x:=by
   intro l
   induction l with
   |nil=>intro m _;rfl
   |cons z l ih=>
    intro m hm;have e:Nat.beq j m=false:=by
     cases hb:Nat.beq j m with
     |false=>rfl
     |true=>exact absurd (Nat.eq_of_beq_eq_true hb) (by omega)
    simp only[putAt,e,cond_false,List.map_cons,ih (m+1) (by omega)]
  simp only[putAt,Nat.add_zero,Nat.beq_refl,cond_true,List.map_cons,List.take_zero,List.nil_append,List.drop_succ_cons,List.drop_zero,this xs (j+1) (by omega)]
 |x::xs,i+1,j,h=>by
  have e:Nat.beq (j+(i+1)) j=false:=by
   cases hb:Nat.beq (j+(i+1)) j with
   |false=>rfl
   |true=>exact absurd (Nat.eq_of_beq_eq_true hb) (by omega)
  have ih:=putAt_eq y xs i (j+1) (Nat.lt_of_succ_lt_succ h);rw[show j+1+i=j+(i+1) by omega] at ih;simp only[putAt,e,cond_false,List.map_cons,List.take_succ_cons,List.drop_succ_cons,ih,List.cons_append]
theorem store_pi_step(hE:TysOk P E){t:TypeId}{k':Kd}(hk':kdOf E t=some k')(ho:o.op=.store t x y){t' n i:Nat}(hxe:S.eval x=.pi t' n i){cs:List AVal}(hH:S.heap t'=some (.box cs))
  (h:ifT (ifT k'.isAgg false (Nat.ble n (lenA cs))) (match S.eval y with
     |.v ky y0=>match castK (k:=ky) (k':=k') y0,cellsT k' (takeA n cs) with
      |some y',some xs=>K ((S.setH t' (.box (appA (putAt k' y' i 0 xs) (dropA n cs)))).put o.dst .undef)
      |_,_=>none
     |_=>none) none=some r):StepSim P Wr0 w0 o S K r:=by
 intro I a w hS;have hin:i<n:=by
  have hx:=hS.eval x;rw[hxe] at hx;simp only[Rep] at hx;split at hx
  ·exact hx.1
  ·exact hx.elim
 obtain⟨hc,h⟩:=ifT_some h;have hna:k'.isAgg=false:=by
  cases hk:k'.isAgg with
  |false=>rfl
  |true=>rw[hk] at hc;cases hc
 rw[hna] at hc;have hle:n≤cs.length:=by
  have:=Nat.le_of_ble_eq_true (show Nat.ble n (lenA cs)=true from hc)
  rwa [lenA_eq] at this
 split at h
 ·rename_i ky y0 hy;split at h
  ·rename_i y' xs hy' hxs;unfold castK at hy';split at hy'
   ·rename_i e;subst e;obtain rfl:=Option.some.inj hy';have hmap:=cellsT_map hxs;rw[takeA_eq] at hmap;have hl:xs.length=n:=by
     have:=congrArg List.length hmap;rw[List.length_take,List.length_map] at this;omega
    have hcells:(S.eval y).cells=[.v ky y0]:=by
     rw[hy];cases ky<;>first|rfl|cases hna
    have hsize:ky.size=1:=by cases ky<;>first|rfl|cases hna
    refine store_ptr_step hE hk' ho (t':=t') (c:=i) (fun{w Wr I v} hr=> ?_) hH ?_ I a w hS
    ·rw[hxe] at hr;simp only[Rep] at hr⊢;split at hr
     ·rename_i b m hI;exact hr.2
     ·exact hr.elim
    ·have e0:=putAt_eq y0 xs i 0 (by omega);rw[Nat.zero_add] at e0;have heap:appA (putAt ky y0 i 0 xs) (dropA n cs)=appA (takeA i cs) (appA [.v ky y0] (dropA (i+1) cs)):=by
      have hcs:cs=xs.map (fun x=>AVal.v ky x)++cs.drop n:=by rw[←hmap,List.take_append_drop]
      have a1:∀l k:List AVal,appA l k=l++k:=by
       intro l k
       induction l with
       |nil=>rfl
       |cons z l ih=>simp only[appA,ih,List.cons_append]
      rw[a1,a1,a1,dropA_eq,dropA_eq,takeA_eq,e0];have g1:cs.take i=(xs.map fun x=>AVal.v ky x).take i:=by
       rw[←hmap,List.take_take];congr 1;omega
      have g2:cs.drop (i+1)=(xs.map fun x=>AVal.v ky x).drop (i+1)++cs.drop n:=by
       conv=>lhs;rw[hcs]
       rw[List.drop_append_of_le_length (by rw[List.length_map];omega)]
      rw[g1,g2];simp
     rw[heap] at h;rw[hcells];have ok1:okV (S.eval y)=true:=by rw[hy];rfl
     have ok2:leafVs [AVal.v ky y0]=true:=by
      simp only[leafVs,leafV,hna];rfl
     have ok3:lenA [AVal.v ky y0]=ky.size:=by rw[hsize];rfl
     have ok4:Nat.ble (i+lenA [AVal.v ky y0]) (lenA cs)=true:=by
      rw[lenA_eq,lenA_eq];exact Nat.ble_eq_true_of_le (by show i+1≤_;omega)
     rw[ok1,ok2,ok4];simp only[ifT];rw[show ifEq (lenA [AVal.v ky y0]) ky.size _ none=_ from ifEq_pos ok3 _ _];exact h
   ·cases hy'
  ·cases h
 ·cases h
theorem store_ep_step(hE:TysOk P E){t:TypeId}{k':Kd}(hk':kdOf E t=some k')(ho:o.op=.store t x y){t' i c:Nat}(hxe:S.eval x=.ep t' i c){k:Kd}{xs:List k.T}(hH:Am.sealV S.heap (S.eval y) t'=some (.arr k xs false))
  {gs} (hg:Kd.at k' k c=some gs) {y':k'.T} (hy':Am.toT true (Am.sealV S.heap (S.eval y)) k' (S.eval y)=some y')
  (h:K (({S with heap:=Am.sealV S.heap (S.eval y)}:St).setH t' (.arr k (List.set (α:=k.T) xs i (gs.2 (List.getD (α:=k.T) xs i k.dflt) y')) false) |>.put o.dst .undef)=some r):
  StepSim P Wr0 w0 o S K r:=by
 intro I a w hS0;have hS:=hS0.sealV (S.eval y);have hx:=hS.eval (S:={S with heap:=Am.sealV S.heap (S.eval y)}) x;have hy:=hS.eval (S:={S with heap:=Am.sealV S.heap (S.eval y)}) y;have hye:({S with heap:=Am.sealV S.heap (S.eval y)}:St).eval y=S.eval y:=by cases y<;>rfl
 have hxe':({S with heap:=Am.sealV S.heap (S.eval y)}:St).eval x=.ep t' i c:=by rw[←hxe];cases x<;>rfl
 rw[hye] at hy;rw[hxe'] at hx;have hdat:=(hS.toT hy' hy).cells;obtain⟨inf,hi,hr⟩:=hS.rows t' _ hH;simp only[Rep,hi] at hx;cases inf with
 |box=>exact hr.elim
 |arr k2 n loc N=>
  obtain⟨rfl,rfl,hr⟩:=hr;obtain⟨hlt,b,base,hl,hx⟩:=hx;subst hl;obtain⟨h1,h2,h3⟩:=hr;obtain⟨cs,h4,h5⟩:=h3 i hlt;have hl4:=h4.length;have hle:=at_len hg;generalize hus:(a.eval y).cells.toList=us at hdat;have hul:=hdat.length;have hcs:(a.eval y).cells.size=us.length:=by rw[←hus,Array.length_toList]
  have hbd:base+i*k2.size+k2.size≤N:=by
   have:(i+1)*k2.size≤xs.length*k2.size:=Nat.mul_le_mul_right _ hlt;rw[Nat.add_mul] at this;have h1':base+xs.length*k2.size≤N:=h1;omega
  have hrun:=run_storeVar (P:=P) (b:=b) (off:=base+i*k2.size+c) (kd_var hE hk') (v:=a.eval y) (by omega) (fun j hj=>h2.cell (by omega)) (fun j hj=>h2.free (by show base≤_;omega) (by omega)) (by rw[hus];exact hdat.ones);rw[hus] at hrun;have hw:=setCells_wrote b us (base+i*k2.size+c) w;have hown:∀j,j<us.length→WrOf Wr0 ({S with heap:=Am.sealV S.heap (S.eval y)}:St).heap I b (base+i*k2.size+c+j):=fun j hj=>.inr ⟨t',_,_,hH,hi,rfl,fun e=>by cases e⟩;have hk:=keep_setCells (w:=w) hown;have hset:List.getD (α:=k2.T) xs i k2.dflt=List.get (α:=k2.T) xs ⟨i,hlt⟩:=by simp[List.getD,hlt]
  have key:=hS.update (S:={S with heap:=Am.sealV S.heap (S.eval y)}) (r':=.arr k2 (List.set (α:=k2.T) xs i (gs.2 (List.getD (α:=k2.T) xs i k2.dflt) y')) false) hH (by simp) hi rfl (by simp) (fun b o h=>by simpa[Owns] using h) hw hk ?_
  ·exact⟨_,h,fun next Q hn=>wp_skipped (storeAt_run hrun ho hx) (hn _ _ _ (key.put (by simp only[Rep]) _))⟩
  ·have hk':Keep w (WrOf Wr0 ({S with heap:=Am.sealV S.heap (S.eval y)}:St).heap I) (w.setCells b (base+i*k2.size+c) us) (WrOf Wr0 (({S with heap:=Am.sealV S.heap (S.eval y)}:St).setH t' (.arr k2 (List.set (α:=k2.T) xs i (gs.2 (List.getD (α:=k2.T) xs i k2.dflt) y')) false)).heap I):=by
    refine⟨fun b o v h1 h2=>⟨(hk.cell b o v h1 h2).1,fun h3=>h2 ?_⟩⟩
    rcases h3 with h3|⟨p,q,j,g1,g2,g3⟩
    ·exact .inl h3
    ·by_cases ep:p=t'
     ·subst ep;simp only[St.setH,ifEq_pos rfl] at g1;obtain rfl:=Option.some.inj g1;rw[hi] at g2;obtain rfl:=Option.some.inj g2;exact .inr ⟨p,_,_,hH,hi,g3.1,fun e=>by cases e⟩
     ·simp only[St.setH,ifEq_neg ep] at g1;exact .inr ⟨p,q,j,g1,g2,g3⟩
   refine⟨rfl,by simp,by simpa using h1,setCells_nofz b us _ w h2,fun q hq=> ?_⟩;rw[List.length_set] at hq
   by_cases hqi:q=i
   ·subst hqi;refine⟨cs.take c++us++cs.drop (c+k'.size), ?_, ?_⟩
    ·have:=at_set hg (h4.keep hk') (hdat.keep hk');have e:(List.set (α:=k2.T) xs q (gs.2 (List.getD (α:=k2.T) xs q k2.dflt) y')).get ⟨q,by simpa using hlt⟩=gs.2 (List.get (α:=k2.T) xs ⟨q,hlt⟩) y':=by
      rw[List.get_eq_getElem,List.getElem_set_self];exact congrArg (fun z=>gs.2 z y') hset
     rw[e];exact this
    ·intro j hj;have:=setCells_list (w:=w) (b:=b) (off:=base+q*k2.size) (c:=c) (vs:=cs) (us:=us) (fun p hp=>h5 p hp) (by omega) j (by rw[hul];exact hj);rw[this];congr 1;simp only[hul]
   ·obtain⟨cs',g1,g2⟩:=h3 q hq;refine⟨cs', ?_,fun j hj=> ?_⟩
    ·have e:(List.set (α:=k2.T) xs i (gs.2 (List.getD (α:=k2.T) xs i k2.dflt) y')).get ⟨q,by simpa using hq⟩=List.get (α:=k2.T) xs ⟨q,hq⟩:=by
      simp[List.getElem_set,Ne.symm hqi]
     rw[e];exact g1.keep hk'
    ·have hg1l:=g1.length;rw[World.cell?_setCells_out b us _ w _ (fun _ _=> ?_)]
     ·exact g2 j hj
     ·simp only
      rcases Nat.lt_or_gt_of_ne hqi with hlt'|hgt
      ·left;have:(q+1)*k2.size≤i*k2.size:=Nat.mul_le_mul_right _ hlt';rw[Nat.add_mul] at this;omega
      ·right;have:(i+1)*k2.size≤q*k2.size:=Nat.mul_le_mul_right _ hgt;rw[Nat.add_mul] at this;omega
end
end Go.Proofs.YthkflageghfbgaaGreatDoor.Am
/- append. -/
namespace Go.Proofs.YthkflageghfbgaaGreatDoor.Am
open Go Go.RowKit
section
variable {P : Pg} {Wr0 : Base} {w0 : World} {S S' : St} {I : Info} {a : Act} {w : World} {E : Env} {o : Oper} {R : Type} {K : St → Option R} {r : R} {x y : Operand}
theorem Sim.kill(h:Sim P Wr0 w0 S I a w){t:Nat}{rw_:Row}(ht:S.heap t=some rw_):
  Sim P Wr0 w0 (S.setH t .dead) I a w∧Keep w (WrOf Wr0 S.heap I) w (WrOf Wr0 (S.setH t .dead).heap I):=by
 have hcase:∀{p:Nat} {q:Row},(S.setH t .dead).heap p=some q→(p=t∧q=.dead)∨(p≠t∧S.heap p=some q):=by
  intro p q hq
  by_cases e:p=t
  ·subst e;simp only[St.setH,ifEq_pos rfl] at hq;exact .inl ⟨rfl,(Option.some.inj hq).symm⟩
  ·simp only[St.setH,ifEq_neg e] at hq;exact .inr ⟨e,hq⟩
 have hk:Keep w (WrOf Wr0 S.heap I) w (WrOf Wr0 (S.setH t .dead).heap I):=by
  refine⟨fun b o v h1 h2=>⟨h1,fun h3=>h2 ?_⟩⟩
  rcases h3 with h3|⟨p,q,j,g1,g2,g3⟩
  ·exact .inl h3
  ·rcases hcase g1 with⟨_,rfl⟩|⟨_,g1⟩
   ·exact g3.elim
   ·exact .inr ⟨p,q,j,g1,g2,g3⟩
 refine⟨⟨h.defers,h.slots.keep hk (InfoLe.refl I),h.gh.keep hk (InfoLe.refl I), ?_, ?_, ?_, ?_,h.wr0,h.new,fun p j hp hne=>h.nm p j hp (fun hz=> ?_),h.nmt,h.below⟩,hk⟩
 rotate_left 4
 ·refine hne ?_;have e:p≠t:=by rintro rfl;rw[ht] at hz;cases hz
  simp only[St.setH,ifEq_neg e];exact hz
 ·intro p hp
  by_cases e:p=t
  ·subst e;simp only[St.setH,ifEq_pos rfl] at hp;cases hp
  ·simp only[St.setH,ifEq_neg e] at hp;exact h.free p hp
 ·intro p q hq
  rcases hcase hq with⟨rfl,rfl⟩|⟨_,hq⟩
  ·obtain⟨i,hi,hr⟩:=h.rows p _ ht;refine⟨i,hi, ?_⟩;cases i<;>trivial
  ·obtain⟨i,hi,hr⟩:=h.rows p q hq;exact⟨i,hi,hr.keep hk (InfoLe.refl I) fun _ _ _=>rfl⟩
 ·intro p p' q q' j j' b h1 h2 h3 h4 h5 h6 h7 h8
  rcases hcase h1 with⟨_,e⟩|⟨_,g1⟩
  ·exact absurd e h2
  ·rcases hcase h3 with⟨_,e⟩|⟨_,g3⟩
   ·exact absurd e h4
   ·exact h.inj p p' q q' j j' b g1 h2 g3 h4 h5 h6 h7 h8
 ·intro p q j b h1 h2 h3 h4
  rcases hcase h1 with⟨_,e⟩|⟨_,g1⟩
  ·exact absurd e h2
  ·exact h.fresh p q j b g1 h2 h3 h4
theorem exists_list{α:Type}{Q:Nat→α→Prop}:∀n,(∀i,i<n→∃c,Q i c)→∃cs:List α,cs.length=n∧∀i (h:i<cs.length),Q i cs[i]
 |0,_=>⟨[],rfl,fun _ h=>by simp at h⟩
 |n+1,h=>by
  obtain⟨cs,h1,h2⟩:=exists_list n (fun i hi=>h i (by omega));obtain⟨c,hc⟩:=h n (by omega);refine⟨cs++[c],by simp[h1],fun i hi=> ?_⟩
  by_cases e:i<cs.length
  ·rw[List.getElem_append_left e];exact h2 i e
  ·have:i=n:=by simp at hi;omega
   subst this;rw[List.getElem_append_right (by omega)];simpa[h1] using hc
theorem RepEs.of{Wr:WrP}{k:Kd}:∀{cs:List (List Value)} {xs:List k.T},cs.length=xs.length→(∀i (h:i<cs.length) (h':i<xs.length),RepC w Wr k cs[i] (xs.get ⟨i,h'⟩))→RepEs w Wr k cs xs
 |[],[],_,_=>trivial
 |[],_::_,h,_=>by simp at h
 |_::_,[],h,_=>by simp at h
 |c::cs,x::xs,h,hr=>⟨hr 0 (by simp) (by simp),RepEs.of (by simpa using h) fun i h1 h2=>hr (i+1) (by simpa using h1) (by simpa using h2)⟩
theorem flat_cells{b o m:Nat}(hm:0<m){cs:List (List Value)}(hc:∀c∈cs,c.length=m)(h:∀i (hi:i<cs.length) j (hj:j<cs[i].length),w.cell? ⟨b,o+i*m+j,none⟩=some cs[i][j]):
  ∀j (hj:j<(flatC cs).length),w.cell? ⟨b,o+j,none⟩=some (flatC cs)[j]:=by
 intro j hj;have hl:=flatC_length hc;have hlt:j/m<cs.length:=by
  rw[Nat.div_lt_iff_lt_mul hm];omega
 have hr:j%m<m:=Nat.mod_lt _ hm;have hci:=hc _ (List.getElem_mem hlt);have e1:j/m*m+j%m=j:=by rw[Nat.mul_comm];exact Nat.div_add_mod j m
 have h1:=h (j/m) hlt (j%m) (by omega);rw[Nat.add_assoc,e1] at h1;rw[h1];have h2:=flatC_get hc (j/m) hlt (j%m) hr;rw[e1,List.getElem?_eq_getElem hj,List.getElem?_eq_getElem (by omega)] at h2;exact h2.symm
/-- where the elements of a slice lie -/
def EltsAt(w:World)(Wr:WrP)(k:Kd)(ys:List k.T)(v:Value)(css:List (List Value)):Prop:=
 ∃A cap,v=.slice A ys.length cap∧ys.length≤cap∧RepEs w Wr k css ys∧(ys=[]∨∃b o,A=some ⟨b,o,none⟩∧∀j (hj:j<(flatC css).length),w.cell? ⟨b,o+j,none⟩=some (flatC css)[j])
theorem Sim.src(h:Sim P Wr0 w0 S I a w){k:Kd}(hp:0<k.size){x:AVal}{ys:List k.T}{v:Value}(hT:Am.srcT S.heap k x=some ys)(hx:Rep P w (WrOf Wr0 S.heap I) I x v):
  ∃css,EltsAt w (WrOf Wr0 S.heap I) k ys v css:=by
 unfold Am.srcT at hT;split at hT
 ·obtain rfl:=Option.some.inj hT;simp only[Rep] at hx;subst hx;exact⟨[],none,0,rfl,Nat.le_refl _,trivial,.inl rfl⟩
 ·rename_i k0 ys0;obtain⟨e0,e1⟩:=castK_some hT;subst e0;have e1:ys0=ys:=e1;subst e1;have ex:∃ys:List k.T,ys=ys0:=⟨ys0,rfl⟩;obtain⟨ys,rfl⟩:=ex;rw[rep_sl] at hx;obtain⟨A,cap,rfl,hcap,hm⟩:=hx
  rcases hm with hm|⟨b,off,rfl,hm⟩
  ·have hm:ys=[]:=hm;subst hm;exact⟨[],A,cap,rfl,hcap,trivial,.inl rfl⟩
  ·have hall:∀i,i<ys.length→∃c,(∀h:i<ys.length,RepC w (WrOf Wr0 S.heap I) k c (ys.get ⟨i,h⟩))∧MemAt w (WrOf Wr0 S.heap I) b (off+i*k.size) c:=by
    intro i hi;obtain⟨cs',h1,h2⟩:=hm i hi;exact⟨cs',fun _=>h1,h2⟩
   obtain⟨css,h1,h2⟩:=exists_list _ hall;have hes:RepEs w (WrOf Wr0 S.heap I) k css ys:=RepEs.of h1 fun i hi hi'=>(h2 i hi).1 hi';exact⟨css,_,cap,rfl,hcap,hes,.inr ⟨b,off,rfl,flat_cells hp hes.all fun i hi j hj=>((h2 i hi).2 j hj).1⟩⟩
 ·rename_i k' t off len;split at hT
  ·rename_i k2 xs ao hH;split at hT
   ·rename_i xs' hc;obtain⟨e,e2⟩:=castK_some hc;injection e with e;subst e;have e2:xs=xs':=e2;subst e2;obtain rfl:=Option.some.inj hT;obtain⟨rfl,hle,A,cap,rfl,hcap,hm⟩:=h.ref hx hH;have hlen:((List.drop off xs).take len).length=len:=by rw[List.length_take,List.length_drop];omega
    rcases hm with hm|⟨b,o,hA,hm⟩
    ·have:(List.drop off xs).take len=[]:=List.length_eq_zero_iff.1 (by rw[hlen];exact hm);refine⟨[],A,cap,by rw[hlen],by rw[hlen];exact hcap,by rw[this];trivial,.inl this⟩
    ·have hall:∀i,i<len→∃c:List Value,(∀h:off+i<xs.length,RepC w (WrOf Wr0 S.heap I) k' c (xs.get ⟨off+i,h⟩))∧∀j (hj:j<c.length),w.cell? ⟨b,o+i*k'.size+j,none⟩=some c[j]:=by
      intro i hi;obtain⟨cs,h1,h2⟩:=hm i (by omega) hi;exact⟨cs,fun _=>h1,fun j hj=>(h2 j hj).1⟩
     obtain⟨css,h1,h2⟩:=exists_list _ hall;have hes:RepEs w (WrOf Wr0 S.heap I) k' css ((List.drop off xs).take len):=RepEs.of (by rw[h1,hlen]) fun i hi hi'=>by
      rw[get_drop_take _ _ _ _ _ (by omega)];exact(h2 i hi).1 (by omega)
     exact⟨css,A,cap,by rw[hlen],by rw[hlen];exact hcap,hes,.inr ⟨b,o,hA,flat_cells hp hes.all fun i hi j hj=>(h2 i hi).2 j hj⟩⟩
   ·cases hT
  ·cases hT
 ·cases hT
theorem flatC_ones{Wr:WrP}{k:Kd}:∀{css:List (List Value)} {ys:List k.T},RepEs w Wr k css ys→∀u∈flatC css,u.oneCell'=true
 |[],[],_,u,hu=>by cases hu
 |[],_::_,h,_,_=>h.elim
 |_::_,[],h,_,_=>h.elim
 |c::cs,x::xs,h,u,hu=>by
  simp only[flatC] at hu
  rcases List.mem_append.1 hu with hu|hu
  ·exact h.1.ones u hu
  ·exact flatC_ones h.2 u hu
theorem EltsAt.toSrc{Wr:WrP}{k:Kd}{ys:List k.T}{v:Value}{css:List (List Value)}(h:EltsAt w Wr k ys v css){tx e':TypeId}(hu:P.p.underlying tx=some (.slice e')):Src P k.size tx v ys.length (flatC css) w:=by
 obtain⟨A,cap,rfl,hcap,hes,hm⟩:=h;have hl:=flatC_length hes.all;have hel:=hes.length;rw[hel] at hl;cases A with
 |none=>
  rcases hm with rfl|⟨b,o,hA,_⟩
  ·have:css=[]:=List.length_eq_zero_iff.1 (by simpa using hel);subst this;exact Src.ofNil w hu cap
  ·cases hA
 |some ad=>
  refine Src.ofSlice w hu ad _ cap _ hl ?_ (flatC_ones hes);intro j u hj;obtain⟨hlt,hj⟩:=List.getElem?_eq_some_iff.1 hj
  rcases hm with rfl|⟨b,o,hA,hm⟩
  ·simp at hl;rw[hl] at hlt;simp at hlt
  ·obtain rfl:=Option.some.inj hA;rw[add_none,hm j hlt,hj]
theorem append_run{s x:Operand}{args:Array Operand}{tys:Array TypeId}{t t2:TypeId}{tl:List TypeId}(ha:args.toList=[s,x])(ht:tys.toList=t::t2::tl)(ho:o.op=.call {callee:=.builtin .append,args:=args,argTypes:=tys}){v:Value}{w':World}
  (h:(Builtin.append_ #[t,t2] o.type #[a.eval s,a.eval x]).run P w=.ok v w'):(execOp a.eval o).run P w=.ok (.value v) w':=by
 have ea:args=#[s,x]:=Array.ext' (by simpa using ha);simp only[execOp,ho,resolve,invoke];rw[Sem.run_bind];simp only[Sem.run_pure,Result.andThen_ok];simp only[Go.builtin];rw[Sem.run_bind];have e0:tys[0]?=some t:=by rw[←Array.getElem?_toList,ht];rfl
 have e1:tys[1]?=some t2:=by rw[←Array.getElem?_toList,ht];rfl
 have:Builtin.append_ tys o.type (args.map a.eval)=Builtin.append_ #[t,t2] o.type #[a.eval s,a.eval x]:=by
  rw[ea];simp[Builtin.append_,e0,e1]
 rw[this,h];rfl
theorem new_step'(hS:Sim P Wr0 w0 S I a w){d:Nat}(hf:S.heap d=none)(hdl:d<200000){rw_:Row}{w':World}(hb:BelowD P.s w.heap.size w w'){i:TokI}{z:AVal}{v:Value}
  (hi:∀b,i.block=some b→w.heap.size≤b∧b<w'.heap.size)
  (hr:Keep w (WrOf Wr0 S.heap I) w' (WrOf Wr0 (S.setH d rw_).heap (I.set d i))→RowRep P w' (WrOf Wr0 (S.setH d rw_).heap (I.set d i)) (I.set d i) rw_ i∧Rep P w' (WrOf Wr0 (S.setH d rw_).heap (I.set d i)) (I.set d i) z v) (dd:Option Nat):
  Sim P Wr0 w0 ((S.setH d rw_).put dd z) (I.set d i) (a.put dd v) w':=by
 have hk:=hS.newKeep hb hf hi rw_;obtain⟨h3,h4⟩:=hr hk;exact(hS.add hb hf hdl hi h3).1.put h4 dd
theorem below_drew_alloc(w:World)(ob:Obj):BelowD P.s w.heap.size w (w.drew.alloc ob):=((BelowD.refl _ _).drew).alloc (Nat.le_refl _) ob
theorem size_drew_alloc(w:World)(ob:Obj):(w.drew.alloc ob).heap.size=w.heap.size+1:=by
 show(w.heap.push ob).size=_;simp
/-- an append for which there is no room -/
theorem grow_core(hE:TysOk P E)(hS:Sim P Wr0 w0 S I a w){s x:Operand}{args:Array Operand}{tys:Array TypeId}{t t2:TypeId}{tl:List TypeId}(ha:args.toList=[s,x])(ht:tys.toList=t::t2::tl)
  (ho:o.op=.call {callee:=.builtin .append,args:=args,argTypes:=tys}) {d:TyD} (hd:E.ty t=some d) (hok:okT E t (.sl d.elt)=true) (hok2:okT E t2 (.sl d.elt)=true)
  {A:Option Addr} {sLen sCap:Nat} (hs:a.eval s=.slice A sLen sCap) {css ocs:List (List Value)} {ys os:List d.elt.T} {Wr:WrP} (hos:os.length=sLen)
  (hold:RepEs w (WrOf Wr0 S.heap I) d.elt ocs os) (hofc:(Builtin.firstCells d.elt.size sLen (.slice A sLen sCap)).run P w.drew=.ok (flatC ocs).toArray w.drew)
  (hes:RepEs w (WrOf Wr0 S.heap I) d.elt css ys) (hsrc:Src P d.elt.size t2 (a.eval x) ys.length (flatC css) w) (hg:sCap<sLen+ys.length) (hfit:(sLen+ys.length)*d.bytes≤140737488355328)
  {d':Nat} (hf:S.heap d'=none) (hdlt:d'<200000) (ao:Bool) (dd:Option Nat):
  ∃w' v,(execOp a.eval o).run P w=.ok (.value v) w'∧∃I',Sim P Wr0 w0 ((S.setH d' (.arr d.elt (os++ys) ao)).put dd (.ref d.elt d' 0 (sLen+ys.length))) I' (a.put dd v) w':=by
 obtain⟨e,_,hu,_⟩:=und_sl hE hok;obtain⟨hk,i,z,hi,hsz,hby,hz,hzc,hp,hbp⟩:=elt_ok hE hd hu;have hn63:sLen+ys.length≤140737488355328:=by
  have:(sLen+ys.length)*1≤(sLen+ys.length)*d.bytes:=Nat.mul_le_mul_left _ hbp;omega
 rw[←hsz] at hofc hsrc;have hrun:=run_append_grow_src (P:=P) w t t2 o.type e i z hu hi hz A sLen sCap (flatC ocs) hofc (a.eval x) ys.length (flatC css) hsrc hg (by omega) (by rw[hby];exact growslice_fits hg hfit);rw[←hs] at hrun;have hx:=append_run ha ht ho hrun;refine⟨_,_,hx, ?_⟩;generalize hN:grownCap w (sLen+ys.length) sCap e=N at*
 have hNge:sLen+ys.length≤N:=by rw[←hN];exact grownCap_ge w _ _ e
 have hall:=hold.app hes;have hfl:=flatC_length hall.all;have hll:(ocs++css).length=sLen+ys.length:=by rw[hall.length,List.length_append,hos]
 rw[hll] at hfl;generalize hcells:(flatC ocs++flatC css).toArray++Builtin.zeroCells z.cells (N-(sLen+ys.length))=cells at*
 have hcsz:(sLen+ys.length)*d.elt.size≤cells.size:=by
  rw[←hcells,Array.size_append,List.size_toArray,←flatC_app,hfl];exact Nat.le_add_right _ _
 have hzsz:z.cells.size=d.elt.size:=by rw[←Array.length_toList,hzc];exact(zc_rep (w:=w) (Wr:=noWr) d.elt).length
 have hcN:cells.size=N*d.elt.size:=by
  rw[←hcells,Array.size_append,List.size_toArray,←flatC_app,hfl];simp only[Builtin.zeroCells,Array.size_map,Array.size_range,hzsz];rw[←Nat.add_mul];congr 1;omega
 refine⟨I.set d' (.arr d.elt (sLen+ys.length) (some (w.heap.size,0)) cells.size),new_step' hS hf hdlt (below_drew_alloc w _) (i:=.arr d.elt (sLen+ys.length) (some (w.heap.size,0)) cells.size) ?_ ?_ dd⟩
 ·intro b hb;obtain rfl:=Option.some.inj hb;rw[size_drew_alloc];exact⟨Nat.le_refl _,Nat.lt_succ_self _⟩
 ·intro hkeep;refine⟨?_, ?_⟩
  ·have:=rowRep_new (P:=P) (I:=I.set d' (.arr d.elt (sLen+ys.length) (some (w.heap.size,0)) cells.size)) (ao:=ao) (hall.keep hkeep) (new_nofz w.drew cells e 0) (by rw[List.length_append,hos];exact hcsz) ?_
   ·rw[List.length_append,hos] at this;exact this
   ·intro j hj;have:=new_cell w.drew cells e j;show(w.drew.alloc (.cells cells e)).cell? ⟨w.drew.heap.size,j,none⟩=_;rw[this,←hcells,Array.getElem?_append_left (by rw[List.size_toArray,←flatC_app];exact hj),List.getElem?_toArray,←flatC_app];exact List.getElem?_eq_getElem hj
  ·simp only[Rep,Info.set,if_true];refine⟨trivial,by omega,_,N,rfl,hNge,.inr ⟨_,_,rfl,by simp, ?_⟩⟩;rw[hcN];simp
theorem rowRep_at{Wr:WrP}{I:Info}{k:Kd}{cs:List (List Value)}{xs:List k.T}{ao:Bool}{b base N:Nat}(h:RepEs w Wr k cs xs)(hb:NoFz w b N base)(hN:base+xs.length*k.size≤N)
  (hc:∀j (hj:j<(flatC cs).length),w.cell? ⟨b,base+j,none⟩=some (flatC cs)[j]):RowRep P w Wr I (.arr k xs ao) (.arr k xs.length (some (b,base)) N):=by
 refine⟨rfl,rfl,hN,hb,fun i hi=> ?_⟩;have hl:=h.length;have hi':i<cs.length:=by omega
 refine⟨cs[i],h.get i hi' hi,fun j hj=> ?_⟩;have hj':j<k.size:=by rw[←h.all _ (List.getElem_mem hi')];exact hj
 have hlt:i*k.size+j<(flatC cs).length:=by
  rw[flatC_length h.all];have:(i+1)*k.size≤cs.length*k.size:=Nat.mul_le_mul_right _ (by omega);rw[Nat.add_mul] at this;omega
 have:=hc _ hlt;rw[Nat.add_assoc,this];have e:=flatC_get h.all i hi' j hj';rw[List.getElem?_eq_getElem hlt,List.getElem?_eq_getElem hj] at e;exact e
theorem NoFz.mono{b N lo lo':Nat}(h:NoFz w b N lo)(hl:lo≤lo'):NoFz w b N lo':=by
 obtain⟨arr,e,fz,h1,h2,h3⟩:=h;exact⟨arr,e,fz,h1,h2,fun o h4 h5=>h3 o (by omega) h5⟩
/-- nothing is appended -/
theorem run_append_none{t t2 ty e:TypeId}{i:TypeInfo}(hu:P.p.underlying t=some (.slice e))(hi:P.p.info? e=some i){A:Option Addr}{sLen sCap:Nat}(hle:sLen≤sCap){x:Value}(hs:Src P i.size t2 x 0 [] w):
  (Builtin.append_ #[t,t2] ty #[.slice A sLen sCap,x]).run P w=.ok (.slice A sLen sCap) w:=run_append_nothing w t t2 ty e i hu hi A sLen sCap hle x hs
theorem append_nil_step(hE:TysOk P E){s x:Operand}{args:Array Operand}{tys:Array TypeId}{t t2:TypeId}{tl:List TypeId}(ha:args.toList=[s,x])(ht:tys.toList=t::t2::tl)
  (ho:o.op=.call {callee:=.builtin .append,args:=args,argTypes:=tys}) {d:TyD} (hd:E.ty t=some d) (hok:okT E t (.sl d.elt)=true) (hok2:okT E t2 (.sl d.elt)=true)
  (hs:S.eval s=.nil) {ys:List d.elt.T} (hys:Am.srcT S.heap d.elt (S.eval x)=some ys)
  (h:(if List.length (α:=d.elt.T) ys*d.bytes≤140737488355328 then S.new o.dst (.arr d.elt ys false) (.ref d.elt · 0 (List.length (α:=d.elt.T) ys)) K else none)=some r):StepSim P Wr0 w0 o S K r:=by
 intro I a w hS;have h':=h;clear h;split at h'
 ·rename_i hfit;obtain⟨e,_,hu,_⟩:=und_sl hE hok;obtain⟨e2,_,hu2,_⟩:=und_sl hE hok2;obtain⟨hk,i,z,hi,hsz,hby,hz,hzc,hp,hbp⟩:=elt_ok hE hd hu;have hsv:=hS.eval s;rw[hs] at hsv;simp only[Rep] at hsv;obtain⟨css,hel⟩:=hS.src hp hys (hS.eval x);have hsrc:=hel.toSrc hu2;obtain⟨_,_,_,_,hes,_⟩:=hel;obtain⟨d',hd',⟨hf,hdlt⟩,hK⟩:=St.new_spec h'
  by_cases hn:ys.length=0
  ·have hys0:ys=[]:=List.length_eq_zero_iff.1 hn;subst hys0;have hcs:css=[]:=List.length_eq_zero_iff.1 (by simpa using hes.length);subst hcs;have hrun:=run_append_none (P:=P) (w:=w) (t:=t) (ty:=o.type) hu hi (A:=none) (Nat.le_refl 0) (by rw[hsz];exact hsrc);rw[←hsv] at hrun;have hx:=append_run ha ht ho hrun;refine⟨_,hK,fun next Q hnx=>wp_value hx ?_⟩;refine hnx _ _ _ (new_step' hS hf hdlt (BelowD.refl _ _) (i:=.arr d.elt 0 none 0) ?_ ?_ o.dst)
   ·intro b hb;cases hb
   ·intro hkeep;refine⟨⟨rfl,rfl,rfl⟩, ?_⟩;simp only[Rep,Info.set,if_true];rw[hsv];exact⟨trivial,by simp,none,0,rfl,Nat.le_refl _,.inl ⟨rfl,rfl⟩⟩
  ·obtain⟨w',v,hx,I',hsim⟩:=grow_core (Wr:=noWr) hE hS ha ht ho hd hok hok2 hsv (os:=[]) (ocs:=[]) (ys:=ys) rfl trivial (run_firstCells_none _ _ _ _ _) hes hsrc (by omega) (by rw[Nat.zero_add];exact hfit) hf hdlt false o.dst;rw[List.nil_append,Nat.zero_add] at hsim;exact⟨_,hK,fun next Q hnx=>wp_value hx (hnx _ _ _ hsim)⟩
 ·cases h'
theorem append_ref_step(hE:TysOk P E){s x:Operand}{args:Array Operand}{tys:Array TypeId}{t t2:TypeId}{tl:List TypeId}(ha:args.toList=[s,x])(ht:tys.toList=t::t2::tl)
  (ho:o.op=.call {callee:=.builtin .append,args:=args,argTypes:=tys}) {d:TyD} (hd:E.ty t=some d) (hok:okT E t (.sl d.elt)=true) (hok2:okT E t2 (.sl d.elt)=true)
  {k0:Kd} {t' off len:Nat} (hs:S.eval s=.ref k0 t' off len) {ys:List d.elt.T} (hys:Am.srcT S.heap d.elt (S.eval x)=some ys) {xs:List d.elt.T} {ao:Bool} (hH:S.heap t'=some (.arr d.elt xs ao))
  (h:(if off+len=List.length (α:=d.elt.T) xs∧(len+List.length (α:=d.elt.T) ys)*d.bytes≤140737488355328 then
    (S.setH t' .dead).new o.dst (.arr d.elt (List.drop (α:=d.elt.T) off xs++ys) ao) (.ref d.elt · 0 (len+List.length (α:=d.elt.T) ys)) K else none)=some r):StepSim P Wr0 w0 o S K r:=by
 intro I a w hS;have h':=h;clear h;split at h'
 ·rename_i hc;obtain⟨hend,hfit⟩:=hc;obtain⟨e,_,hu,_⟩:=und_sl hE hok;obtain⟨e2,_,hu2,_⟩:=und_sl hE hok2;obtain⟨hk,i,z,hi,hsz,hby,hz,hzc,hp,hbp⟩:=elt_ok hE hd hu;have hsv:=hS.eval s;rw[hs] at hsv;obtain⟨css,hel⟩:=hS.src hp hys (hS.eval x);have hsrc:=hel.toSrc hu2;obtain⟨_,_,_,_,hes,_⟩:=hel;obtain⟨d',hd',⟨hf',hdlt⟩,hK⟩:=St.new_spec h';have htd:d'*16≠t':=by
   intro e;rw[e] at hf';simp only[St.setH,ifEq_pos rfl] at hf';cases hf'
  have hf:S.heap (d'*16)=none:=by
   simp only[St.setH,ifEq_neg htd] at hf';exact hf'
  have hsT:Am.srcT S.heap d.elt (.ref k0 t' off len)=some ((List.drop off xs).take len):=by
   simp only[Am.srcT,hH];have:castK (k:=.sl d.elt) (k':=.sl d.elt) xs=some xs:=by simp[castK]
   rw[this]
  have hdl:(List.drop off xs).length=len:=by rw[List.length_drop];omega
  have hdt:(List.drop off xs).take len=List.drop off xs:=List.take_of_length_le (by omega);rw[hdt] at hsT;obtain⟨ocs,hoel⟩:=hS.src hp hsT hsv;have hosrc:=hoel.toSrc hu;obtain⟨A,cap,hav,hcap,hoes,hom⟩:=hoel;rw[hdl] at hav hcap hosrc;have hlen0:=hoes.length;obtain⟨inf,hinf,hrow⟩:=hS.rows t' _ hH;have hsv0:=hsv;simp only[Rep,hinf] at hsv;cases inf with
  |box=>exact hrow.elim
  |arr k2 n loc N=>
   obtain⟨rfl,rfl,hrow⟩:=hrow;obtain⟨rfl,hle,A2,cap2,hv2,hcap2,hm⟩:=hsv;rw[hav] at hv2;injection hv2 with hA2 _ hc2;subst hA2 hc2
   by_cases hroom:len+ys.length≤cap
   ·rcases hm with⟨hl0,hc0⟩|⟨b,base,hloc,hA,hN⟩
    ·--an empty slice without room
     have hn0:ys.length=0:=by omega
     have hys0:ys=[]:=List.length_eq_zero_iff.1 hn0;subst hys0;have hcs:css=[]:=List.length_eq_zero_iff.1 (by simpa using hes.length);subst hcs;have hd0:List.drop off xs=[]:=List.length_eq_zero_iff.1 (by omega);have hrun:=run_append_none (P:=P) (w:=w) (t:=t) (ty:=o.type) hu hi (A:=A) hcap (by rw[hsz];exact hsrc);rw[←hav] at hrun;have hx:=append_run ha ht ho hrun;obtain⟨hkill,hkk⟩:=hS.kill hH;refine⟨_,hK,fun next Q hnx=>wp_value hx ?_⟩;refine hnx _ _ _ (new_step' hkill hf' hdlt (BelowD.refl _ _) (i:=.arr d.elt 0 none 0) ?_ ?_ o.dst)
     ·intro b hb;cases hb
     ·intro hkeep;refine⟨⟨rfl,by rw[hd0];rfl,rfl⟩, ?_⟩;simp only[Rep,Info.set,if_true];rw[hav,hl0,hc0];exact⟨trivial,by simp,A,0,rfl,Nat.le_refl _,.inl ⟨rfl,rfl⟩⟩
    ·subst hloc;obtain⟨hr1,hr2,hr3⟩:=hrow;have hr1:base+xs.length*d.elt.size≤N:=hr1;have hr2:NoFz w b N base:=hr2;have hfl:=flatC_length hes.all;rw[hes.length] at hfl;have hend':off*d.elt.size+len*d.elt.size=xs.length*d.elt.size:=by rw[←Nat.add_mul,hend]
     have hNN:base+off*d.elt.size+(len+ys.length)*d.elt.size≤N:=by
      have:(off+(len+ys.length))*d.elt.size≤(off+cap)*d.elt.size:=Nat.mul_le_mul_right _ (by omega);rw[Nat.add_mul] at this;omega
     rw[Nat.add_mul len] at hNN;have hrun:=run_append_room_src (P:=P) w t t2 o.type e i hu hi b (base+off*d.elt.size) len cap (a.eval x) ys.length (flatC css) (by rw[hsz];exact hsrc) hroom
      (fun j hj=>by rw[hfl] at hj;rw[hsz];exact hr2.cell (by omega)) (fun j hj=>by rw[hfl] at hj;rw[hsz];exact hr2.free (by omega) (by omega))
     rw[←hA,←hav,hsz] at hrun;have hx:=append_run ha ht ho hrun;have hfo:(flatC ocs).length=len*d.elt.size:=by
      have:=flatC_length hoes.all;rw[hlen0,hdl] at this;exact this
     generalize hst:base+off*d.elt.size+len*d.elt.size=st at*
     have hw:=setCells_wrote b (flatC css) st w;have hown:∀j,j<(flatC css).length→WrOf Wr0 S.heap I b (st+j):=fun j hj=>.inr ⟨t',_,_,hH,hinf,rfl,fun _=>by show base+xs.length*d.elt.size≤_;omega⟩;have hkp:=keep_setCells (w:=w) hown;obtain⟨hsim,hle',hkeep⟩:=hS.move (rn:=.arr d.elt (List.drop off xs++ys) ao) (j:=.arr d.elt (len+ys.length) (some (b,base+off*d.elt.size)) N) hH (by simp) hinf rfl trivial hf hdlt rfl (fun b' o' hb'=>by
       obtain⟨h1,h2⟩:=hb';refine⟨h1,fun e=> ?_⟩;have:=h2 e;rw[List.length_append,hdl,Nat.add_mul] at this;show base+xs.length*d.elt.size≤o';simp only at this;omega) hw hkp (fun hkeep=>by
       have hall:=(hoes.app hes).keep hkeep;have:=rowRep_at (P:=P) (I:=I.set (d'*16) (.arr d.elt (len+ys.length) (some (b,base+off*d.elt.size)) N)) (ao:=ao) hall ((setCells_nofz b (flatC css) st w hr2).mono (by omega:base≤base+off*d.elt.size)) (by rw[List.length_append,hdl,Nat.add_mul];omega) ?_
       ·rw[List.length_append,hdl] at this;exact this
       ·intro j hj;rw[flatC_app] at hj;simp only[flatC_app]
        by_cases hj1:j<(flatC ocs).length
        ·rw[World.cell?_setCells_out b _ st w _ (fun _ _=>.inl (by simp only;omega)),List.getElem_append_left hj1]
         rcases hom with hom|⟨b2,o2,hA2,hom⟩
         ·rw[hom] at hdl;simp at hdl;rw[←hdl,Nat.zero_mul] at hfo;omega
         ·rw[hA] at hA2;obtain⟨rfl,rfl,_⟩:=Addr.mk.inj (Option.some.inj hA2);exact hom j hj1
        ·rw[List.length_append] at hj;have:=World.cell?_setCells_in b (flatC css) st w (fun q hq=>hr2.cell (by rw[hfl] at hq;omega)) (j-(flatC ocs).length) (by omega);rw[show base+off*d.elt.size+j=st+(j-(flatC ocs).length) by omega,this,List.getElem_append_right (by omega)])
     refine⟨_,hK,fun next Q hnx=>wp_value hx (hnx _ _ _ (hsim.put ?_ o.dst))⟩;simp only[Rep,Info.set,if_true];refine⟨trivial,by omega,A,cap,rfl,hroom,.inr ⟨b,_,rfl,by rw[hA];simp, ?_⟩⟩;rw[Nat.zero_add];have:(off+cap)*d.elt.size=off*d.elt.size+cap*d.elt.size:=Nat.add_mul _ _ _;omega
   ·obtain⟨hkill,hkk⟩:=hS.kill hH;obtain⟨w',v,hx,I',hsim⟩:=grow_core (S:=S.setH t' .dead) (Wr:=noWr) hE hkill ha ht ho hd hok hok2 hav (os:=List.drop off xs) (ocs:=ocs) (ys:=ys) hdl (hoes.keep hkk) (by rw[←hav];exact hosrc.cellsD) (hes.keep hkk) hsrc (by omega) hfit hf' hdlt ao o.dst;exact⟨_,hK,fun next Q hnx=>wp_value hx (hnx _ _ _ hsim)⟩
 ·cases h'
end
end Go.Proofs.YthkflageghfbgaaGreatDoor.Am
/- copy. -/
namespace Go.Proofs.YthkflageghfbgaaGreatDoor.Am
open Go Go.RowKit
section
variable {P : Pg} {Wr0 : Base} {w0 : World} {S S' : St} {I : Info} {a : Act} {w : World} {E : Env} {o : Oper} {R : Type} {K : St → Option R} {r : R} {x y : Operand}
theorem copy_run{s x:Operand}{args:Array Operand}{tys:Array TypeId}{t t2:TypeId}{tl:List TypeId}(ha:args.toList=[s,x])(ht:tys.toList=t::t2::tl)(ho:o.op=.call {callee:=.builtin .copy,args:=args,argTypes:=tys}){v:Value}{w':World}
  (h:(Builtin.copy_ #[t,t2] o.type #[a.eval s,a.eval x]).run P w=.ok v w'):(execOp a.eval o).run P w=.ok (.value v) w':=by
 have ea:args=#[s,x]:=Array.ext' (by simpa using ha);simp only[execOp,ho,resolve,invoke];rw[Sem.run_bind];simp only[Sem.run_pure,Result.andThen_ok];simp only[Go.builtin];rw[Sem.run_bind];have e0:tys[0]?=some t:=by rw[←Array.getElem?_toList,ht];rfl
 have:Builtin.copy_ tys o.type (args.map a.eval)=Builtin.copy_ #[t,t2] o.type #[a.eval s,a.eval x]:=by
  rw[ea];simp[Builtin.copy_,e0]
 rw[this,h];rfl
theorem RepEs.take{Wr:WrP}{k:Kd}:∀{cs:List (List Value)} {xs:List k.T} (n:Nat),RepEs w Wr k cs xs→RepEs w Wr k (cs.take n) (xs.take n)
 |_,_,0,_=>by simp[RepEs]
 |[],[],_+1,_=>trivial
 |[],_::_,_+1,h=>h.elim
 |_::_,[],_+1,h=>h.elim
 |c::cs,x::xs,n+1,h=>⟨h.1,RepEs.take n h.2⟩
theorem flatC_take1:∀{cs:List (List Value)} (_:∀c∈cs,c.length=1) (n:Nat),flatC (cs.take n)=(flatC cs).take n
 |_,_,0=>by simp[flatC]
 |[],_,_+1=>rfl
 |c::cs,h,n+1=>by
  obtain⟨u,rfl⟩:=List.length_eq_one_iff.1 (h c List.mem_cons_self);simp only[List.take_succ_cons,flatC,List.cons_append,List.nil_append];rw[flatC_take1 (fun c hc=>h c (List.mem_cons_of_mem _ hc)) n]
theorem flatC_get1:∀{cs:List (List Value)} (_:∀c∈cs,c.length=1) (i:Nat) (hi:i<cs.length) (hf:i<(flatC cs).length),cs[i]=[(flatC cs)[i]]
 |[],_,i,hi,_=>by simp at hi
 |c::cs,h,0,hi,hf=>by
  obtain⟨u,rfl⟩:=List.length_eq_one_iff.1 (h c List.mem_cons_self);rfl
 |c::cs,h,i+1,hi,hf=>by
  obtain⟨u,rfl⟩:=List.length_eq_one_iff.1 (h c List.mem_cons_self);exact flatC_get1 (fun c hc=>h c (List.mem_cons_of_mem _ hc)) i (by simpa using hi) (by simpa[flatC] using hf)
theorem copy_step(hE:TysOk P E){s x:Operand}{args:Array Operand}{tys:Array TypeId}{t t2:TypeId}{tl:List TypeId}(ha:args.toList=[s,x])(ht:tys.toList=t::t2::tl)
  (ho:o.op=.call {callee:=.builtin .copy,args:=args,argTypes:=tys}) {d:TyD} (hd:E.ty t=some d) (hok:okT E t (.sl d.elt)=true) (h1:d.elt.size=1)
  {k0:Kd} {t' off len:Nat} (hs:S.eval s=.ref k0 t' off len) {ys:List d.elt.T} (hys:Am.srcT S.heap d.elt (S.eval x)=some ys) {xs:List d.elt.T} (hH:S.heap t'=some (.arr d.elt xs false))
  (h:K ((S.setH t' (.arr d.elt (List.take (α:=d.elt.T) off xs++(List.take (α:=d.elt.T) len ys++List.drop (α:=d.elt.T) (off+List.length (List.take (α:=d.elt.T) len ys)) xs)) false)).put o.dst (.v (.int .i64) (List.length (List.take (α:=d.elt.T) len ys):Int)))=some r):StepSim P Wr0 w0 o S K r:=by
 intro I a w hS;obtain⟨e,_,hu,_⟩:=und_sl hE hok;obtain⟨hk,inf,z,hinf,hsz,hby,hz,hzc,hp,hbp⟩:=elt_ok hE hd hu;have hsv:=hS.eval s;rw[hs] at hsv;obtain⟨css,hel⟩:=hS.src hp hys (hS.eval x);obtain⟨i,hi,hr⟩:=hS.rows t' _ hH;simp only[Rep,hi] at hsv;generalize hzs:List.take (α:=d.elt.T) len ys=zs at h;have hzl:zs.length=min len ys.length:=by rw[←hzs,List.length_take]
 cases i with
 |box=>exact hr.elim
 |arr k2 n loc N=>
  obtain⟨rfl,rfl,hr⟩:=hr;obtain⟨rfl,hle,A,cap,hv,hcap,hm⟩:=hsv;obtain⟨A2,cap2,hv2,hcap2,hes,hm2⟩:=hel;have hi1:(P.p.info? e).map (·.size)=some 1:=by rw[hinf];simp only[Option.map_some];rw[hsz,h1]
  by_cases h0:zs.length=0
  ·have hz0:zs=[]:=List.length_eq_zero_iff.1 h0;subst hz0;have hrow:List.take off xs++(([]:List d.elt.T)++List.drop (off+([]:List d.elt.T).length) xs)=xs:=by simp
   rw[hrow] at h;have hSS:S.setH t' (.arr d.elt xs false)=S:=by
    unfold St.setH;have:(fun p=>ifEq p t' (some (.arr d.elt xs false)) (S.heap p))=S.heap:=by
     funext p
     by_cases ep:p=t'
     ·rw[ifEq_pos ep,ep,hH]
     ·rw[ifEq_neg ep]
    rw[this]
   rw[hSS] at h;have hrun:=run_copy_none (P:=P) w t t2 o.type e A A2 len cap ys.length cap2 hu hi1 (by show min ys.length len=0;have hzl':0=min len ys.length:=hzl;rw[Nat.min_comm];exact hzl'.symm);rw[←hv,←hv2] at hrun;refine⟨_,h,fun next Q hn=>wp_value (copy_run ha ht ho hrun) (hn _ _ _ (hS.put (rep_int.2 ?_) _))⟩;rfl
  ·have hlen:0<len:=by omega
   rcases hm with⟨hm,_⟩|⟨b,base,hl,hA,hN⟩
   ·omega
   ·subst hl;subst hA
    rcases hm2 with hm2|⟨b2,o2,hA2,hm2⟩
    ·have e0:ys.length=0:=by rw[hm2];rfl
     omega
    ·subst hA2;obtain⟨g1,g2,g3⟩:=hr;rw[h1] at hN g1;have hones:∀c∈css,c.length=1:=fun c hc=>by rw[hes.all c hc,h1]
     have hestk:RepEs w (WrOf Wr0 S.heap I) d.elt (css.take len) zs:=by rw[←hzs];exact hes.take len
     have hones':∀c∈css.take len,c.length=1:=fun c hc=>hones c (List.mem_of_mem_take hc);generalize hcs:flatC (css.take len)=cs;have hcl:cs.length=zs.length:=by
      rw[←hcs,flatC_length hones',hestk.length];omega
     have hpre:∀j v,cs[j]?=some v→w.cell? ((⟨b2,o2,none⟩:Addr).add j)=some v:=by
      intro j v hj;rw[←hcs,flatC_take1 hones] at hj;have hj2:(flatC css)[j]?=some v:=by
       rw[List.getElem?_take] at hj;split at hj
       ·exact hj
       ·cases hj
      obtain⟨hlt,hj2⟩:=List.getElem?_eq_some_iff.1 hj2;rw[add_none,hm2 j hlt,hj2]
     have hbd:∀j,j<cs.length→base+off+j<N:=by intro j hj;omega
     have hrun:=run_copy_cells (P:=P) w t t2 o.type e b (base+off) len cap ⟨b2,o2,none⟩ ys.length cap2 cs hu hi1 (by rw[hcl,hzl];show min len ys.length=min ys.length len;exact Nat.min_comm _ _) hpre
      (fun j hj=>g2.cell (by have:=hbd j hj;omega)) (fun j hj=>g2.free (by omega) (by have:=hbd j hj;omega)) (by rw[←hcs];exact flatC_ones hestk)
     rw[h1,Nat.mul_one] at hv;rw[←hv,←hv2] at hrun;have hw:=setCells_wrote b cs (base+off) w;have hown:∀j,j<cs.length→WrOf Wr0 S.heap I b (base+off+j):=fun j hj=>.inr ⟨t',_,_,hH,hi,rfl,fun e=>by cases e⟩;have hk:=keep_setCells (w:=w) hown;have key:=hS.update (r':=.arr d.elt (List.take off xs++(zs++List.drop (off+zs.length) xs)) false) hH (by simp) hi rfl (by simp) (fun b o h=>by simpa[Owns] using h) hw hk ?_
     ·refine⟨_,h,fun next Q hn=>wp_value (copy_run ha ht ho hrun) (hn _ _ _ (key.put (rep_int.2 ?_) _))⟩;rw[hcl];rfl
     ·have hk':Keep w (WrOf Wr0 S.heap I) (w.setCells b (base+off) cs) (WrOf Wr0 (S.setH t' (.arr d.elt (List.take off xs++(zs++List.drop (off+zs.length) xs)) false)).heap I):=by
       refine⟨fun b o v h1 h2=>⟨(hk.cell b o v h1 h2).1,fun h3=>h2 ?_⟩⟩
       rcases h3 with h3|⟨p,q,j,g1,g2,g3⟩
       ·exact .inl h3
       ·by_cases ep:p=t'
        ·subst ep;simp only[St.setH,ifEq_pos rfl] at g1;obtain rfl:=Option.some.inj g1;rw[hi] at g2;obtain rfl:=Option.some.inj g2;exact .inr ⟨p,_,_,hH,hi,g3.1,fun e=>by cases e⟩
        ·simp only[St.setH,ifEq_neg ep] at g1;exact .inr ⟨p,q,j,g1,g2,g3⟩
      have hnl:(List.take off xs++(zs++List.drop (off+zs.length) xs)).length=xs.length:=by
       simp only[List.length_append,List.length_take,List.length_drop];omega
      refine⟨rfl,hnl.symm,by rw[h1];exact g1,setCells_nofz b cs _ w g2,fun q hq=> ?_⟩
      by_cases hin:off≤q∧q<off+zs.length
      ·have hqz:q-off<zs.length:=by omega
       have hqc:q-off<(css.take len).length:=by rw[hestk.length];exact hqz
       have hrep:=hestk.get (q-off) hqc hqz;have hqf:q-off<cs.length:=by omega
       have hone:=flatC_get1 hones' (q-off) hqc (by rw[hcs];exact hqf);rw[hone] at hrep;refine⟨[cs[q-off]], ?_,fun j hj=> ?_⟩
       ·have e:(List.take off xs++(zs++List.drop (off+zs.length) xs)).get ⟨q,hq⟩=zs.get ⟨q-off,hqz⟩:=by
         have hto:(List.take off xs).length=off:=by rw[List.length_take];omega
         simp only[List.get_eq_getElem];rw[List.getElem_append_right (by rw[hto];exact hin.1),List.getElem_append_left (by rw[hto];exact hqz)];congr 1;rw[hto]
        rw[e];have hrep:=hrep.keep hk';have e2:(flatC (List.take len css))[q-off]'(by rw[hcs];exact hqf)=cs[q-off]:=by congr 1
        rw[e2] at hrep;exact hrep
       ·simp only[List.length_singleton,Nat.lt_one_iff] at hj;subst hj;have:=World.cell?_setCells_in b cs (base+off) w (fun j hj=>g2.cell (by have:=hbd j hj;omega)) (q-off) hqf;rw[show base+off+(q-off)=base+q*d.elt.size+0 by rw[h1];omega] at this;rw[this];rfl
      ·have hqx:q<xs.length:=by omega
       obtain⟨cs',c1,c2⟩:=g3 q hqx;have hc1:=c1.length;rw[h1] at hc1;refine⟨cs', ?_,fun j hj=> ?_⟩
       ·have e:(List.take off xs++(zs++List.drop (off+zs.length) xs)).get ⟨q,hq⟩=xs.get ⟨q,hqx⟩:=by
         have hto:(List.take off xs).length=off:=by rw[List.length_take];omega
         simp only[List.get_eq_getElem]
         by_cases hlo:q<off
         ·rw[List.getElem_append_left (by rw[hto];exact hlo),List.getElem_take]
         ·rw[List.getElem_append_right (by omega),List.getElem_append_right (by omega),List.getElem_drop];congr 1;omega
        rw[e];exact c1.keep hk'
       ·rw[World.cell?_setCells_out b cs _ w _ (fun _ _=> ?_)]
        ·exact c2 j hj
        ·simp only
         rw[h1];omega
end
end Go.Proofs.YthkflageghfbgaaGreatDoor.Am
/- What is told of a function, and a call of it. -/
namespace Go.Proofs.YthkflageghfbgaaGreatDoor.Am
open Go Go.RowKit

/-- the values that are handed in -/
def RepPs(P:Pg)(w:World)(Wr:WrP):(ps:List Prm)→List Value→PrmsT ps→Prop
 |[],vs,_=>vs=[]
 |.v k::ps,vs,x=>∃v us,vs=v::us∧RepV w Wr k x.1 v∧RepPs P w Wr ps us x.2
 |.clo ki ko::ps,vs,x=>∃v us,vs=v::us∧Clo P w Wr ki ko x.1 v∧RepPs P w Wr ps us x.2
 |.cap k::ps,vs,x=>∃v us,vs=v::us∧(∃b off cs,v=.pointer (some ⟨b,off,none⟩)∧RepC w Wr k cs x.1∧MemAt w Wr b off cs)∧RepPs P w Wr ps us x.2
def RepOuts(w:World)(Wr:WrP):(ks:List Kd)→List Value→OutsT ks→Prop
 |[],vs,_=>vs=[]
 |[k],vs,x=>∃v,vs=[v]∧RepV w Wr k x v
 |k::k'::ks,vs,x=>∃v us,vs=v::us∧RepV w Wr k x.1 v∧RepOuts w Wr (k'::ks) us x.2
/-- data whose top rows are one's own: a block for each -/
def OwnC(w:World)(Wr:WrP):(k:Kd)→List Value→k.T→List Nat→Prop
 |.pair a b,cs,x,bs=>∃c1 c2 b1 b2,cs=c1++c2∧bs=b1++b2∧OwnC w Wr a c1 x.1 b1∧OwnC w Wr b c2 x.2 b2
 |.sl k,cs,xs,bs=>∃A cap,cs=[.slice A (List.length (α:=k.T) xs) cap]∧List.length (α:=k.T) xs≤cap∧
   ((List.length (α:=k.T) xs=0∧cap=0∧bs=[])∨∃b base N,bs=[b]∧A=some ⟨b,base,none⟩∧base+cap*k.size≤N∧NoFz w b N base∧
    ∀i (h:i<List.length (α:=k.T) xs),∃cs',RepC w Wr k cs' (List.get (α:=k.T) xs ⟨i,h⟩)∧∀j (hj:j<cs'.length),w.cell? ⟨b,base+i*k.size+j,none⟩=some cs'[j])
 |k,cs,x,bs=>RepC w Wr k cs x∧bs=[]
def OwnV(w:World)(Wr:WrP)(k:Kd)(x:k.T)(v:Value)(bs:List Nat):Prop:=∃cs,OwnC w Wr k cs x bs∧v=mkV k cs
def OwnOuts(w:World)(Wr:WrP):(ks:List Kd)→List Value→OutsT ks→List Nat→Prop
 |[],vs,_,bs=>vs=[]∧bs=[]
 |[k],vs,x,bs=>∃v,vs=[v]∧OwnV w Wr k x v bs
 |k::k'::ks,vs,x,bs=>∃v us b1 b2,vs=v::us∧bs=b1++b2∧OwnV w Wr k x.1 v b1∧OwnOuts w Wr (k'::ks) us x.2 b2
def retV:List Value→Value
 |[v]=>v
 |vs=>.tuple vs.toArray
/-- what may be written where these blocks are one's own too -/
def withB(Wr:WrP)(bs:List Nat):WrP:=fun b o=>Wr b o∨b∈bs
def Outs(w w':World)(Wr:WrP)(own:Bool)(ks:List Kd)(r:OutsT ks)(vs:List Value):Prop:=
 match own with
 |false=>RepOuts w' Wr ks vs r
 |true=>∃bs,OwnOuts w' (withB Wr bs) ks vs r bs∧bs.Nodup∧∀b∈bs,w.heap.size≤b∧b<w'.heap.size
/-- function g does what f tells -/
def FnOk(P:Pg)(g:Nat)(f:FnA):Prop:=
 ∀xs r,f.F xs=some r→∀w Wr vs,(∀b o,Wr b o→b<w.heap.size)∧TabW P w→RepPs P w Wr f.ps vs xs→
  Calls P g vs.toArray w fun e w'=>∃us,e=.returned (retV us)∧BelowD P.s w.heap.size w w'∧Outs w w' Wr f.own f.outs r us
/-! ### functions that write into what is handed in -/
def ownB(J:Info)(rows:List (Nat×Row)):Nat→Prop:=fun b=>∃q∈rows,∃i,J q.1=some i∧i.block=some b
def wrM(Wr:WrP)(J:Info)(rows:List (Nat×Row)):WrP:=fun b o=>Wr b o∨ownB J rows b
structure IniM (P:Pg) (w:World) (Wr:WrP) (J:Info) (ps:List Ar) (xs:ArsT ps) (vs:List Value):Prop where
 vals:RepL P w (wrM Wr J (rowsM 12500 ps xs)) J (initMV 12500 ps xs) vs
 rows:∀q∈rowsM 12500 ps xs,∃i,J q.1=some i∧RowRep P w (wrM Wr J (rowsM 12500 ps xs)) J q.2 i
 only:∀t,t∉(rowsM 12500 ps xs).map (·.1)→J t=none
 inj:∀q∈rowsM 12500 ps xs,∀q'∈rowsM 12500 ps xs,∀i i' b,J q.1=some i→J q'.1=some i'→i.block=some b→i'.block=some b→q.1=q'.1
 fresh:∀q∈rowsM 12500 ps xs,∀i b,J q.1=some i→i.block=some b→b<w.heap.size∧∀o,¬Wr b o
 wr:∀b o,Wr b o→b<w.heap.size
 tab:TabW P w∧∀q∈rowsM 12500 ps xs,∀i b,J q.1=some i→i.block=some b→¬TabB P b
def OutsM(w w':World)(Wr:WrP)(own:Bool)(ks:List Kd)(r:OutsT ks)(vs:List Value)(bs:List Nat):Prop:=
 match own with
 |false=>bs=[]∧RepOuts w' Wr ks vs r
 |true=>OwnOuts w' (withB Wr bs) ks vs r bs∧bs.Nodup∧∀b∈bs,w.heap.size≤b∧b<w'.heap.size
def toksL(d:Nat):Kd→Nat→List Nat×Nat
 |.unit,j=>([],j)
 |.pair a b,j=>(appA (toksL d a j).1 (toksL d b (toksL d a j).2).1,(toksL d b (toksL d a j).2).2)
 |.sl _,j=>([d*16+j],j+1)
 |_,j=>([],j)
def toksM:Nat→List Ar→List Nat
 |_,[]=>[]
 |d,.v _::ps=>toksM (d+1) ps
 |d,.io k::ps=>appA (toksL d k 0).1 (toksM (d+1) ps)
 |d,.bx _::ps=>d*16::toksM (d+1) ps
/-- the function that is handed in last -/
def faV:Option Nat→List Value
 |none=>[]
 |some h=>[.func (.func h) #[] #[]]
/-- function g does what f tells, and writes into what is handed in -/
def FnMOk(P:Pg)(g:Nat)(f:FnM):Prop:=
 ∀xs r,f.F xs=some r→∀w Wr J vs,IniM P w Wr J f.ps xs vs→
  Calls P g (vs++faV f.fa).toArray w fun e w'=>∃us bs,e=.returned (retV us)∧BelowM P.s (fun b=>w.heap.size≤b∨ownB J (rowsM 12500 f.ps xs) b) w w'∧
   (∀q∈rowsM 12500 f.ps (mergeM f.ps xs r.2),∃i,J q.1=some i∧RowRep P w' (withB (wrM Wr J (rowsM 12500 f.ps xs)) bs) J q.2 i)∧
   OutsM w w' (wrM Wr J (rowsM 12500 f.ps xs)) f.own f.outs r.1 us bs
/-- function g hands back a new box -/
def FnBOk(P:Pg)(g:Nat)(f:FnB):Prop:=
 ∀xs x,f.F xs=some x→∀w Wr vs,(∀b o,Wr b o→b<w.heap.size)∧TabW P w→RepPs P w Wr f.ps vs xs→
  Calls P g vs.toArray w fun e w'=>∃b cs,e=.returned (.pointer (some ⟨b,0,none⟩))∧BelowD P.s w.heap.size w w'∧(w.heap.size≤b∧b<w'.heap.size)∧NoFz w' b f.k.size 0∧
   RepC w' (withB Wr [b]) f.k cs x∧∀j (h:j<cs.length),w'.cell? ⟨b,j,none⟩=some cs[j]
def toExit:Ex→Exit
 |.normal=>.normal
 |.ret=>.ret
 |.exit id=>.exit id
/-- function g's code, run in place, does what is told -/
def InlOk(P:Pg)(d g:Nat)(c:CallD):Prop:=
 nodupN (toksF c.sh)=true∧∃fn,P.p.funcs[g]?=some fn∧(fn.name== "runtime.NumGoroutine")=false∧fn.body.isSome=true∧fn.ntmps=c.n∧
  ∀s y,c.f s=some y→∀Wr0 w0 I (a:Act) w (us:List Value),a.defers=[]→a.tmps.size=c.ne→(c.ar≠0→us.length=c.ar)→
   Sim P {Wr0 with gh:=a.tmps.toList++Wr0.gh} w0 (embS c.n c.sh s) I {tmps:=us.toArray++Array.replicate (c.n-us.length) Go.undef,defers:=[]} w→
   Calls P g us.toArray w fun e w'=>∃v,e=.returned v∧∃I',Sim P Wr0 w0 (embS c.ne c.xsh y) I' (a.put (some d) v) w'
structure FnsOk (P:Pg) (E:Env):Prop where
 fn:∀g f,E.fn g=some f→FnOk P g f∧∃fn,P.p.funcs[g]?=some fn∧(fn.name== "runtime.NumGoroutine")=false∧fn.body.isSome=true
 bs:∀g f,E.bs g=some f→FnBOk P g f∧∃fn,P.p.funcs[g]?=some fn∧(fn.name== "runtime.NumGoroutine")=false∧fn.body.isSome=true
 il:∀d gc,E.il d=some gc→InlOk P d gc.1 gc.2
 sp:∀t,E.sp t=1→FtOk P t
 ms:∀g f,E.ms g=some f→FnMOk P g f∧nodupN (toksM 12500 f.ps)=true∧∃fn,P.p.funcs[g]?=some fn∧(fn.name== "runtime.NumGoroutine")=false∧fn.body.isSome=true

/-! ### a result's rows get tokens -/
section thaw
variable {P : Pg} {w : World} {Wr : WrP}
def blocks(l:List (Nat×TokI)):List Nat:=l.filterMap fun p=>p.2.block
structure Thawed (P:Pg) (w:World) (Wr:WrP) (avs:List AVal) (vs:List Value) (rows:List (Nat×Row)) (lo hi:Nat) (bs:List Nat) (infos:List (Nat×TokI)):Prop where
 toks:infos.map (·.1)=rows.map (·.1)
 bnd:∀p∈infos,lo≤p.1∧p.1<hi
 nodup:(infos.map (·.1)).Nodup
 blk:blocks infos=bs
 le:lo≤hi
 vals:∀I:Info,(∀p∈infos,I p.1=some p.2)→RepL P w Wr I avs vs
 rows:∀I:Info,∀p∈rows,∃i,(p.1,i)∈infos∧RowRep P w Wr I p.2 i
theorem appA_eq{α:Type}:∀a b:List α,appA a b=a++b
 |[],_=>rfl
 |x::a,b=>by simp only[appA,appA_eq a b,List.cons_append]
theorem Thawed.app{a1 a2:List AVal}{v1 v2:List Value}{r1 r2:List (Nat×Row)}{lo mid hi:Nat}{b1 b2:List Nat}{i1 i2:List (Nat×TokI)}
  (h:Thawed P w Wr a1 v1 r1 lo mid b1 i1) (k:Thawed P w Wr a2 v2 r2 mid hi b2 i2):Thawed P w Wr (appA a1 a2) (v1++v2) (appA r1 r2) lo hi (b1++b2) (i1++i2):=by
 refine⟨by rw[appA_eq,List.map_append,List.map_append,h.toks,k.toks], ?_, ?_,by rw[←h.blk,←k.blk];exact List.filterMap_append,Nat.le_trans h.le k.le, ?_, ?_⟩
 ·intro p hp;have:=h.le;have:=k.le
  rcases List.mem_append.1 hp with hp|hp
  ·have:=h.bnd p hp;omega
  ·have:=k.bnd p hp;omega
 ·rw[List.map_append,List.nodup_append];refine⟨h.nodup,k.nodup, ?_⟩;intro x hx y hy;obtain⟨p,hp,rfl⟩:=List.mem_map.1 hx;obtain⟨q,hq,rfl⟩:=List.mem_map.1 hy;have:=h.bnd p hp;have:=k.bnd q hq;omega
 ·intro I hI;exact(h.vals I fun p hp=>hI p (List.mem_append_left _ hp)).app (k.vals I fun p hp=>hI p (List.mem_append_right _ hp))
 ·intro I p hp;rw[appA_eq] at hp
  rcases List.mem_append.1 hp with hp|hp
  ·obtain⟨i,h1,h2⟩:=h.rows I p hp;exact⟨i,List.mem_append_left _ h1,h2⟩
  ·obtain⟨i,h1,h2⟩:=k.rows I p hp;exact⟨i,List.mem_append_right _ h1,h2⟩
theorem Thawed.flat{avs:List AVal}{vs:List Value}{lo:Nat}(h:∀I,RepL P w Wr I avs vs):Thawed P w Wr avs vs [] lo lo [] []:=
 ⟨rfl,by simp,by simp,rfl,Nat.le_refl _,fun I _=>h I,by simp⟩
theorem thaw_sl{k:Kd}{cs:List Value}{xs:List k.T}{bs:List Nat}(h:OwnC w Wr (.sl k) cs xs bs)(t:Nat):
  ∃v,cs=[v]∧∃infos,Thawed P w Wr [.ref k t 0 (List.length (α:=k.T) xs)] [v] [(t,.arr k xs false)] t (t+1) bs infos:=by
 simp only[OwnC] at h;obtain⟨A,cap,rfl,hc,h⟩:=h;refine⟨_,rfl, ?_⟩
 rcases h with⟨h0,hc0,rfl⟩|⟨b,base,N,rfl,rfl,hN,hz,hel⟩
 ·refine⟨[(t,.arr k 0 none 0)],rfl,by simp,by simp,rfl,by omega, ?_, ?_⟩
  ·intro I hI;have:=hI _ (List.mem_singleton.2 rfl);simp only at this;simp only[RepL,Rep,this];exact⟨⟨trivial,by omega,A,cap,rfl,by omega,.inl ⟨h0,hc0⟩⟩,trivial⟩
  ·intro I p hp;obtain rfl:=List.mem_singleton.1 hp;exact⟨_,List.mem_singleton.2 rfl,rfl,h0.symm,rfl⟩
 ·refine⟨[(t,.arr k xs.length (some (b,base)) N)],rfl,by simp,by simp,rfl,by omega, ?_, ?_⟩
  ·intro I hI;have:=hI _ (List.mem_singleton.2 rfl);simp only at this;simp only[RepL,Rep,this];exact⟨⟨trivial,by omega,_,cap,rfl,hc,.inr ⟨b,base,rfl,by simp,by simpa using hN⟩⟩,trivial⟩
  ·intro I p hp;obtain rfl:=List.mem_singleton.1 hp;refine⟨_,List.mem_singleton.2 rfl,rfl,rfl, ?_⟩;refine⟨?_,hz,hel⟩;show base+xs.length*k.size≤N;have:xs.length*k.size≤cap*k.size:=Nat.mul_le_mul_right _ hc;omega
theorem leaf_val{k:Kd}(hk:k.isAgg=false){x:k.T}{cs:List Value}(h:RepC w Wr k cs x)(I:Info):∃v,cs=[v]∧RepL P w Wr I [.v k x] [v]:=by
 have hl:=h.length;have h1:cs.length=1:=by
  rw[hl];cases k<;>first|rfl|cases hk
 obtain⟨v,rfl⟩:=List.length_eq_one_iff.1 h1;refine⟨v,rfl, ?_⟩;simp only[RepL,Rep];exact⟨⟨[v],h,by simp[mkV,hk]⟩,trivial⟩
theorem thawL_ok(d:Nat):∀{k:Kd} {cs:List Value} {x:k.T} {bs:List Nat} (_:OwnC w Wr k cs x bs) (j:Nat),
  ∃infos,Thawed P w Wr (thawL d k x j).1 cs (thawL d k x j).2.1 (d*16+j) (d*16+(thawL d k x j).2.2) bs infos
 |.unit,_,_,_,h,j=>by
  simp only[OwnC,RepC] at h;obtain⟨rfl,rfl⟩:=h;exact⟨[],Thawed.flat fun I=>by simp[thawL,RepL]⟩
 |.pair a b,_,x,_,h,j=>by
  simp only[OwnC] at h;obtain⟨c1,c2,b1,b2,rfl,rfl,h1,h2⟩:=h;obtain⟨i1,k1⟩:=thawL_ok d h1 j;obtain⟨i2,k2⟩:=thawL_ok d h2 (thawL d a x.1 j).2.2;exact⟨i1++i2,k1.app k2⟩
 |.sl k,_,xs,_,h,j=>by
  obtain⟨v,rfl,infos,hh⟩:=thaw_sl h (d*16+j);exact⟨infos,hh⟩
 |.int ik,_,x,_,h,j=>by
  simp only[OwnC] at h;obtain⟨h,rfl⟩:=h;obtain⟨v,rfl,_⟩:=leaf_val (P:=P) (k:=.int ik) rfl h (fun _=>none);refine⟨[],Thawed.flat fun I=> ?_⟩;obtain⟨u,e,h2⟩:=leaf_val (P:=P) (k:=.int ik) rfl h I;obtain rfl:=(List.cons.inj e).1;exact h2
 |.bool,_,x,_,h,j=>by
  simp only[OwnC] at h;obtain⟨h,rfl⟩:=h;obtain⟨v,rfl,_⟩:=leaf_val (P:=P) (k:=.bool) rfl h (fun _=>none);refine⟨[],Thawed.flat fun I=> ?_⟩;obtain⟨u,e,h2⟩:=leaf_val (P:=P) (k:=.bool) rfl h I;obtain rfl:=(List.cons.inj e).1;exact h2
 |.str,_,x,_,h,j=>by
  simp only[OwnC] at h;obtain⟨h,rfl⟩:=h;obtain⟨v,rfl,_⟩:=leaf_val (P:=P) (k:=.str) rfl h (fun _=>none);refine⟨[],Thawed.flat fun I=> ?_⟩;obtain⟨u,e,h2⟩:=leaf_val (P:=P) (k:=.str) rfl h I;obtain rfl:=(List.cons.inj e).1;exact h2
 |.err,_,x,_,h,j=>by
  simp only[OwnC] at h;obtain⟨h,rfl⟩:=h;obtain⟨v,rfl,_⟩:=leaf_val (P:=P) (k:=.err) rfl h (fun _=>none);refine⟨[],Thawed.flat fun I=> ?_⟩;obtain⟨u,e,h2⟩:=leaf_val (P:=P) (k:=.err) rfl h I;obtain rfl:=(List.cons.inj e).1;exact h2
 |.pt,_,x,_,h,j=>by
  simp only[OwnC] at h;obtain⟨h,rfl⟩:=h;obtain⟨v,rfl,_⟩:=leaf_val (P:=P) (k:=.pt) rfl h (fun _=>none);refine⟨[],Thawed.flat fun I=> ?_⟩;obtain⟨u,e,h2⟩:=leaf_val (P:=P) (k:=.pt) rfl h I;obtain rfl:=(List.cons.inj e).1;exact h2
theorem thaw1_ok(d:Nat){k:Kd}{x:k.T}{v:Value}{bs:List Nat}(h:OwnV w Wr k x v bs)(j:Nat):
  ∃infos,Thawed P w Wr [(thaw1 d k x j).1] [v] (thaw1 d k x j).2.1 (d*16+j) (d*16+(thaw1 d k x j).2.2) bs infos:=by
 obtain⟨cs,h,rfl⟩:=h;cases k with
 |pair a b=>
  obtain⟨infos,hh⟩:=thawL_ok (P:=P) d h j;refine⟨infos,hh.toks,hh.bnd,hh.nodup,hh.blk,hh.le, ?_,hh.rows⟩;intro I hI;simp only[thaw1,mkV,Kd.isAgg,if_true,RepL,Rep];exact⟨⟨cs,rfl,hh.vals I hI⟩,trivial⟩
 |sl k=>
  obtain⟨v,rfl,infos,hh⟩:=thaw_sl (P:=P) h (d*16+j);exact⟨infos,hh⟩
 |unit=>
  simp only[OwnC] at h;obtain⟨h,rfl⟩:=h;refine⟨[],Thawed.flat fun I=> ?_⟩;simp only[thaw1,RepL,Rep];exact⟨⟨cs,h,rfl⟩,trivial⟩
 |_=>
  simp only[OwnC] at h;obtain⟨h,rfl⟩:=h;refine⟨[],Thawed.flat fun I=> ?_⟩;simp only[thaw1,RepL,Rep];exact⟨⟨cs,h,rfl⟩,trivial⟩
theorem thaws_ok(d:Nat):∀{ks:List Kd} {vs:List Value} {x:OutsT ks} {bs:List Nat} (_:OwnOuts w Wr ks vs x bs) (j:Nat),
  ∃infos hi,Thawed P w Wr (thaws d ks x j).1 vs (thaws d ks x j).2 (d*16+j) hi bs infos
 |[],_,_,_,h,j=>by
  simp only[OwnOuts] at h;obtain⟨rfl,rfl⟩:=h;exact⟨[],_,Thawed.flat fun I=>by simp[thaws,RepL]⟩
 |[k],_,x,_,h,j=>by
  simp only[OwnOuts] at h;obtain⟨v,rfl,h⟩:=h;obtain⟨infos,hh⟩:=thaw1_ok (P:=P) d h j;exact⟨infos,_,hh⟩
 |k::k'::ks,_,x,_,h,j=>by
  simp only[OwnOuts] at h;obtain⟨v,us,b1,b2,rfl,rfl,h1,h2⟩:=h;obtain⟨i1,k1⟩:=thaw1_ok (P:=P) d h1 j;obtain⟨i2,hi,k2⟩:=thaws_ok d h2 (thaw1 d k x.1 j).2.2;exact⟨i1++i2,hi,k1.app k2⟩
end thaw
/-! ### many new rows -/
section news
variable {P : Pg} {Wr0 : Base} {w0 : World} {S : St} {I : Info} {a : Act} {w : World}
theorem Sim.news(h:Sim P Wr0 w0 S I a w){w':World}(hb:BelowD P.s w.heap.size w w'){H:Nat→Option Row}{J:Info}
  (hold:∀p r,S.heap p=some r→H p=some r∧J p=I p) (hnone:∀p,H p=none→J p=none)
  (hnew:∀p r,S.heap p=none→H p=some r→∃i,J p=some i∧(∀b,i.block=some b→w.heap.size≤b∧b<w'.heap.size)∧RowRep P w' (WrOf Wr0 H J) J r i)
  (hinj:∀p p' i i' b,S.heap p=none→S.heap p'=none→J p=some i→J p'=some i'→i.block=some b→i'.block=some b→p=p') (hlt:∀p r,S.heap p=none→H p=some r→p<200000):
  Sim P Wr0 w0 {S with heap:=H} J a w'∧Keep w (WrOf Wr0 S.heap I) w' (WrOf Wr0 H J)∧InfoLe I J:=by
 have hle:InfoLe I J:=by
  intro p i hi;cases hp:S.heap p with
  |none=>rw[h.free p hp] at hi;cases hi
  |some r=>rw[(hold p r hp).2];exact hi
 have hk:Keep w (WrOf Wr0 S.heap I) w' (WrOf Wr0 H J):=below_keepW hb fun b o hlt h1=>by
  rcases h1 with h1|⟨p,r,i,h1,h2,h3⟩
  ·exact .inl h1
  ·cases hp:S.heap p with
   |none=>
    obtain⟨i',e,hi',_⟩:=hnew p r hp h1;rw[h2] at e;obtain rfl:=Option.some.inj e;have:=hi' b h3.block;omega
   |some r'=>
    obtain⟨e1,e2⟩:=hold p r' hp;rw[h1] at e1;obtain rfl:=Option.some.inj e1;rw[e2] at h2;exact .inr ⟨p,r,i,hp,h2,h3⟩
 refine⟨⟨h.defers,h.slots.keep hk hle,h.gh.keep hk hle,hnone, ?_, ?_, ?_,h.wr0,h.new,fun p i hp hne=> ?_,h.nmt,h.below.grow hb⟩,hk,hle⟩
 rotate_left 3
 ·cases hq:S.heap p with
  |none=>
   exfalso;cases hr:H p with
   |none=>exact hne hr
   |some r=>
    have:=hlt p r hq hr;have:=h.nmt p i hp;omega
  |some r=>rw[(hold p r hq).2];exact h.nm p i hp (by rw[hq];simp)
 ·intro p r hr;cases hp:S.heap p with
  |none=>
   obtain⟨i,h1,_,h2⟩:=hnew p r hp hr;exact⟨i,h1,h2⟩
  |some r'=>
   obtain⟨e1,e2⟩:=hold p r' hp;rw[show H p=some r from hr] at e1;obtain rfl:=Option.some.inj e1;obtain⟨i,h1,h2⟩:=h.rows p r hp;exact⟨i,by rw[e2];exact h1,h2.keep hk hle fun hd b hib=>hb.block b (h.fresh p r i b hp hd h1 hib).2⟩
 ·intro p p' r r' i i' b h1 h2 h3 h4 h5 h6 h7 h8;cases hp:S.heap p with
  |none=>
   cases hp':S.heap p' with
   |none=>exact hinj p p' i i' b hp hp' h5 h6 h7 h8
   |some q=>
    obtain⟨e1,e2⟩:=hold p' q hp';rw[show H p'=some r' from h3] at e1;obtain rfl:=Option.some.inj e1;rw[e2] at h6;have:=h.fresh p' r' i' b hp' h4 h6 h8;obtain⟨i2,e,hi',_⟩:=hnew p r hp h1;rw[h5] at e;obtain rfl:=Option.some.inj e;have:=hi' b h7;omega
  |some q=>
   obtain⟨e1,e2⟩:=hold p q hp;rw[show H p=some r from h1] at e1;obtain rfl:=Option.some.inj e1;rw[e2] at h5;cases hp':S.heap p' with
   |none=>
    have:=h.fresh p r i b hp h2 h5 h7;obtain⟨i2,e,hi',_⟩:=hnew p' r' hp' h3;rw[h6] at e;obtain rfl:=Option.some.inj e;have:=hi' b h8;omega
   |some q'=>
    obtain⟨e1,e2⟩:=hold p' q' hp';rw[show H p'=some r' from h3] at e1;obtain rfl:=Option.some.inj e1;rw[e2] at h6;exact h.inj p p' r r' i i' b hp h2 hp' h4 h5 h6 h7 h8
 ·intro p r i b h1 h2 h3 h4;cases hp:S.heap p with
  |none=>
   obtain⟨i2,e,hi',_⟩:=hnew p r hp h1;rw[h3] at e;obtain rfl:=Option.some.inj e;have:=hi' b h4;exact⟨h.fit this.1,this.2⟩
  |some q=>
   obtain⟨e1,e2⟩:=hold p q hp;rw[show H p=some r from h1] at e1;obtain rfl:=Option.some.inj e1;rw[e2] at h3;have:=h.fresh p r i b hp h2 h3 h4;exact⟨this.1,Nat.lt_of_lt_of_le this.2 hb.size⟩
theorem setHs_in:∀{rows:List (Nat×Row)} {S:St} {p:Nat} {r:Row},(rows.map (·.1)).Nodup→(p,r)∈rows→(S.setHs rows).heap p=some r
 |[],_,_,_,_,h=>by cases h
 |q::rows,S,p,r,hn,h=>by
  simp only[St.setHs];rw[List.map_cons,List.nodup_cons] at hn
  rcases List.mem_cons.1 h with rfl|h
  ·have:∀(rows:List (Nat×Row)) (S:St),p∉rows.map (·.1)→(S.setHs rows).heap p=S.heap p:=by
    intro rows
    induction rows with
    |nil=>intro S _;rfl
    |cons q rows ih=>
     intro S hp;simp only[St.setHs];rw[List.map_cons,List.mem_cons,not_or] at hp;rw[ih _ hp.2];simp only[St.setH,ifEq_neg hp.1]
   rw[this rows _ hn.1];simp only[St.setH,ifEq_pos rfl]
  ·exact setHs_in hn.2 h
theorem setHs_out:∀{rows:List (Nat×Row)} {S:St} {p:Nat},p∉rows.map (·.1)→(S.setHs rows).heap p=S.heap p
 |[],_,_,_=>rfl
 |q::rows,S,p,hp=>by
  simp only[St.setHs];rw[List.map_cons,List.mem_cons,not_or] at hp;rw[setHs_out hp.2];simp only[St.setH,ifEq_neg hp.1]
theorem setHs_slots:∀(rows:List (Nat×Row)) (S:St),(S.setHs rows).slots=S.slots
 |[],_=>rfl
 |q::rows,S=>by simp only[St.setHs];rw[setHs_slots rows];rfl
theorem setHs_gh:∀(rows:List (Nat×Row)) (S:St),(S.setHs rows).gh=S.gh
 |[],_=>rfl
 |q::rows,S=>by simp only[St.setHs];rw[setHs_gh rows];rfl
theorem allFree_mem{H:Nat→Option Row}:∀{rows:List (Nat×Row)},allFree H rows=true→∀p∈rows.map (·.1),H p=none
 |[],_,_,h=>by cases h
 |q::rows,h,p,hp=>by
  simp only[allFree] at h;have hq:isFree H q.1=true∧allFree H rows=true:=by
   cases e:isFree H q.1 with
   |true=>rw[e] at h;exact⟨rfl,h⟩
   |false=>rw[e] at h;cases h
  rw[List.map_cons] at hp
  rcases List.mem_cons.1 hp with rfl|hp
  ·have:=hq.1;unfold isFree at this;split at this
   ·assumption
   ·cases this
  ·exact allFree_mem hq.2 p hp
theorem allFree_lt{H:Nat→Option Row}:∀{rows:List (Nat×Row)},allFree H rows=true→∀p∈rows.map (·.1),p<200000
 |[],_,_,h=>by cases h
 |q::rows,h,p,hp=>by
  simp only[allFree] at h;have hq:isFree H q.1=true∧allFree H rows=true:=by
   cases e:isFree H q.1 with
   |true=>rw[e] at h;exact⟨rfl,h⟩
   |false=>rw[e] at h;cases h
  rw[List.map_cons] at hp
  rcases List.mem_cons.1 hp with rfl|hp
  ·exact isFree_lt hq.1
  ·exact allFree_lt hq.2 p hp
def lookI(infos:List (Nat×TokI))(I:Info):Info:=fun p=>match infos.find? (·.1==p) with|some q=>some q.2|none=>I p
theorem lookI_in{infos:List (Nat×TokI)}(hn:(infos.map (·.1)).Nodup){I:Info}{q:Nat×TokI}(h:q∈infos):lookI infos I q.1=some q.2:=by
 unfold lookI;have:infos.find? (·.1==q.1)=some q:=by
  induction infos with
  |nil=>cases h
  |cons x l ih=>
   rw[List.map_cons,List.nodup_cons] at hn
   rcases List.mem_cons.1 h with rfl|h
   ·simp
   ·rw[List.find?_cons_of_neg]
    ·exact ih hn.2 h
    ·intro e;have:x.1=q.1:=by simpa using e
     exact hn.1 (by rw[this];exact List.mem_map.2 ⟨q,h,rfl⟩)
 rw[this]
theorem lookI_out{infos:List (Nat×TokI)}{I:Info}{p:Nat}(h:p∉infos.map (·.1)):lookI infos I p=I p:=by
 unfold lookI;have:infos.find? (·.1==p)=none:=by
  rw[List.find?_eq_none];intro x hx e;exact h (List.mem_map.2 ⟨x,hx,by simpa using e⟩)
 rw[this]
theorem blocks_inj:∀{infos:List (Nat×TokI)},(blocks infos).Nodup→∀{q q':Nat×TokI} {b:Nat},q∈infos→q'∈infos→q.2.block=some b→q'.2.block=some b→q=q'
 |[],_,_,_,_,h,_,_,_=>by cases h
 |x::l,hn,q,q',b,h,h',e,e'=>by
  have mem:∀{y:Nat×TokI},y∈l→y.2.block=some b→b∈blocks l:=fun hy ey=>List.mem_filterMap.2 ⟨_,hy,ey⟩;unfold blocks at hn
  rcases List.mem_cons.1 h with h1|h1
  ·rcases List.mem_cons.1 h' with h2|h2
   ·rw[h1,h2]
   ·subst h1;simp only[List.filterMap_cons,e,List.nodup_cons] at hn;exact absurd (mem h2 e') hn.1
  ·rcases List.mem_cons.1 h' with h2|h2
   ·subst h2;simp only[List.filterMap_cons,e',List.nodup_cons] at hn;exact absurd (mem h1 e) hn.1
   ·have hn':(blocks l).Nodup:=by
     cases ex:x.2.block with
     |none=>simp only[List.filterMap_cons,ex] at hn;exact hn
     |some c=>simp only[List.filterMap_cons,ex,List.nodup_cons] at hn;exact hn.2
    exact blocks_inj hn' h1 h2 e e'
theorem Sim.thawed(h:Sim P Wr0 w0 S I a w){w':World}(hb:BelowD P.s w.heap.size w w'){Wr:WrP}{avs:List AVal}{vs:List Value}{rows:List (Nat×Row)}{lo hi:Nat}{bs:List Nat}{infos:List (Nat×TokI)}
  (hT:Thawed P w' (withB Wr bs) avs vs rows lo hi bs infos) (hWr:∀b o,WrOf Wr0 S.heap I b o→Wr b o∨∀v,w'.cell? ⟨b,o,none⟩≠some v) (hfr:allFree S.heap rows=true) (hnd:bs.Nodup) (hbs:∀b∈bs,w.heap.size≤b∧b<w'.heap.size):
  ∃J,Sim P Wr0 w0 (S.setHs rows) J a w'∧RepL P w' (WrOf Wr0 (S.setHs rows).heap J) J avs vs:=by
 have htok:=hT.toks;have hfree:=allFree_mem hfr;have hnodup:(rows.map (·.1)).Nodup:=by rw[←htok];exact hT.nodup
 let H:=(S.setHs rows).heap
 let J:=lookI infos I
 have hWH:∀b o,WrOf Wr0 H J b o→WrOf Wr0 S.heap I b o∨b∈bs:=by
  rintro b o (h1|⟨p,r,i,h1,h2,h3⟩)
  ·exact .inl (.inl h1)
  ·by_cases hp:p∈rows.map (·.1)
   ·obtain⟨q,hq,rfl⟩:=List.mem_map.1 (by rw[htok];exact hp:p∈infos.map (·.1));have:J q.1=some q.2:=lookI_in hT.nodup hq;rw[this] at h2;obtain rfl:=Option.some.inj h2;refine .inr ?_;rw[←hT.blk];exact List.mem_filterMap.2 ⟨q,hq,h3.block⟩
   ·have e1:H p=S.heap p:=setHs_out hp;have e2:J p=I p:=lookI_out (by rw[htok];exact hp);rw[e1] at h1;rw[e2] at h2;exact .inl (.inr ⟨p,r,i,h1,h2,h3⟩)
 have hkk:Keep w' (withB Wr bs) w' (WrOf Wr0 H J):=⟨fun b o v h1 h2=>⟨h1,fun h3=>by
  rcases hWH b o h3 with h3|h3
  ·rcases hWr b o h3 with h4|h4
   ·exact h2 (.inl h4)
   ·exact h4 v h1
  ·exact h2 (.inr h3)⟩⟩
 have hJ:∀q∈infos,J q.1=some q.2:=fun q hq=>lookI_in hT.nodup hq;have hnew:∀p r,S.heap p=none→H p=some r→(p,r)∈rows:=by
  intro p r h1 h2
  by_cases hp:p∈rows.map (·.1)
  ·obtain⟨q,hq,rfl⟩:=List.mem_map.1 hp;have:=setHs_in (S:=S) hnodup hq;rw[show(S.setHs rows).heap q.1=some r from h2] at this;obtain rfl:=Option.some.inj this;exact hq
  ·rw[show H p=S.heap p from setHs_out hp,h1] at h2;cases h2
 suffices hh:Sim P Wr0 w0 {S with heap:=H} J a w'∧Keep w (WrOf Wr0 S.heap I) w' (WrOf Wr0 H J)∧InfoLe I J by
  obtain⟨g1,g2,g3⟩:=hh;refine⟨J, ?_,(hT.vals J hJ).keep hkk (InfoLe.refl J)⟩;have:(S.setHs rows)={S with heap:=H}:=by
   have e:=setHs_slots rows S;have e2:=setHs_gh rows S;cases hS:S.setHs rows with
   |mk sl hp g=>
    rw[hS] at e e2;simp only at e e2;subst e e2;show _=St.mk _ (S.setHs rows).heap _;rw[hS]
  rw[this];exact g1
 refine h.news (H:=H) (J:=J) hb ?_ ?_ ?_ ?_ fun p r h1 h2=>allFree_lt hfr p (List.mem_map.2 ⟨_,hnew p r h1 h2,rfl⟩)
 ·intro p r hp;have:p∉rows.map (·.1):=fun hm=>by rw[hfree p hm] at hp;cases hp
  exact⟨by rw[show H p=S.heap p from setHs_out this];exact hp,lookI_out (by rw[htok];exact this)⟩
 ·intro p hp
  by_cases hm:p∈rows.map (·.1)
  ·obtain⟨q,hq,rfl⟩:=List.mem_map.1 hm;have:=setHs_in (S:=S) hnodup hq;rw[show(S.setHs rows).heap q.1=none from hp] at this;cases this
  ·rw[show H p=S.heap p from setHs_out hm] at hp;rw[show J p=I p from lookI_out (by rw[htok];exact hm)];exact h.free p hp
 ·intro p r h1 h2;obtain⟨i,h3,h4⟩:=hT.rows J (p,r) (hnew p r h1 h2);refine⟨i,hJ _ h3,fun b hb'=>hbs b ?_,h4.keep hkk (InfoLe.refl J) fun _ _ _=>rfl⟩;rw[←hT.blk];exact List.mem_filterMap.2 ⟨(p,i),h3,hb'⟩
 ·intro p p' i i' b h1 h2 h3 h4 h5 h6;have mem:∀{p:Nat} {i:TokI},S.heap p=none→J p=some i→(p,i)∈infos:=by
   intro p i g1 g2
   by_cases hm:p∈infos.map (·.1)
   ·obtain⟨q,hq,rfl⟩:=List.mem_map.1 hm;have:=hJ q hq;rw[g2] at this;obtain rfl:=Option.some.inj this;exact hq
   ·rw[show J p=I p from lookI_out hm,h.free p g1] at g2;cases g2
  have:=blocks_inj (by rw[hT.blk];exact hnd) (mem h1 h3) (mem h2 h4) h5 h6;exact congrArg Prod.fst this
end news
end Go.Proofs.YthkflageghfbgaaGreatDoor.Am
/- A call of a function of which something is told. -/
namespace Go.Proofs.YthkflageghfbgaaGreatDoor.Am
open Go Go.RowKit
section
variable {P : Pg} {Wr0 : Base} {w0 : World} {S S' : St} {I : Info} {a : Act} {w : World} {E : Env} {o : Oper} {R : Type} {K : St → Option R} {r : R} {x y : Operand}

theorem flat_rep{w w':World}{Wr Wr':WrP}:∀{k:Kd} {cs:List Value} {x:k.T},k.flat=true→RepC w Wr k cs x→RepC w' Wr' k cs x
 |.int _,_,_,_,h=>h
 |.bool,_,_,_,h=>h
 |.str,_,_,_,h=>h
 |.err,_,_,_,h=>h
 |.unit,_,_,_,h=>h
 |.pair a b,_,_,hf,h=>by
  simp only[Kd.flat] at hf;have hab:a.flat=true∧b.flat=true:=by
   cases e:a.flat with
   |true=>rw[e] at hf;exact⟨rfl,hf⟩
   |false=>rw[e] at hf;cases hf
  simp only[RepC] at h⊢;obtain⟨c1,c2,rfl,h1,h2⟩:=h;exact⟨c1,c2,rfl,flat_rep hab.1 h1,flat_rep hab.2 h2⟩
theorem flat1_own{w:World}{Wr Wr':WrP}:∀{k:Kd} {cs:List Value} {x:k.T} {bs:List Nat},k.flat1=true→OwnC w Wr k cs x bs→OwnC w Wr' k cs x bs
 |.int _,_,_,_,_,h=>h
 |.bool,_,_,_,_,h=>h
 |.str,_,_,_,_,h=>h
 |.err,_,_,_,_,h=>h
 |.unit,_,_,_,_,h=>h
 |.pair a b,_,_,_,hf,h=>by
  simp only[Kd.flat1] at hf;have hab:a.flat1=true∧b.flat1=true:=by
   cases e:a.flat1 with
   |true=>rw[e] at hf;exact⟨rfl,hf⟩
   |false=>rw[e] at hf;cases hf
  simp only[OwnC] at h⊢;obtain⟨c1,c2,b1,b2,rfl,rfl,h1,h2⟩:=h;exact⟨c1,c2,b1,b2,rfl,rfl,flat1_own hab.1 h1,flat1_own hab.2 h2⟩
 |.sl k,_,_,_,hf,h=>by
  simp only[Kd.flat1] at hf;simp only[OwnC] at h⊢;obtain⟨A,cap,rfl,hc,h⟩:=h;refine⟨A,cap,rfl,hc,h.imp id ?_⟩;rintro⟨b,base,N,h1,h2,h3,h4,h5⟩;refine⟨b,base,N,h1,h2,h3,h4,fun i hi=> ?_⟩;obtain⟨cs',h6,h7⟩:=h5 i hi;exact⟨cs',flat_rep hf h6,h7⟩
theorem flats_own{w:World}{Wr Wr':WrP}:∀{ks:List Kd} {vs:List Value} {x:OutsT ks} {bs:List Nat},flats ks=true→OwnOuts w Wr ks vs x bs→OwnOuts w Wr' ks vs x bs
 |[],_,_,_,_,h=>h
 |[k],_,_,_,hf,h=>by
  simp only[flats] at hf;have hk:k.flat1=true:=by
   cases e:k.flat1 with
   |true=>rfl
   |false=>rw[e] at hf;cases hf
  simp only[OwnOuts] at h⊢;obtain⟨v,rfl,cs,h1,h2⟩:=h;exact⟨v,rfl,cs,flat1_own hk h1,h2⟩
 |k::k'::ks,_,_,_,hf,h=>by
  have hk:k.flat1=true∧flats (k'::ks)=true:=by
   rw[flats] at hf;cases e:k.flat1 with
   |true=>rw[e] at hf;exact⟨rfl,hf⟩
   |false=>rw[e] at hf;cases hf
  simp only[OwnOuts] at h⊢;obtain⟨v,us,b1,b2,rfl,rfl,⟨cs,h1,h2⟩,h3⟩:=h;exact⟨v,us,b1,b2,rfl,rfl,⟨cs,flat1_own hk.1 h1,h2⟩,flats_own hk.2 h3⟩
theorem asIs_rep{Wr:WrP}:∀{ks:List Kd} {vs:List Value} {x:OutsT ks},RepOuts w Wr ks vs x→RepL P w Wr I (asIs ks x) vs
 |[],_,_,h=>by
  simp only[RepOuts] at h;subst h;simp[asIs,RepL]
 |[k],_,x,h=>by
  simp only[RepOuts] at h;obtain⟨v,rfl,h⟩:=h;simp only[asIs,RepL,Rep];exact⟨h,trivial⟩
 |k::k'::ks,_,x,h=>by
  simp only[RepOuts] at h;obtain⟨v,us,rfl,h1,h2⟩:=h;simp only[asIs,RepL,Rep];exact⟨h1,asIs_rep h2⟩
theorem one_rep{Wr:WrP}{xs:List AVal}{vs:List Value}(h:RepL P w Wr I xs vs):Rep P w Wr I (one xs) (retV vs):=by
 have hl:=h.length
 match xs,vs,h,hl with
 |[],[],h,_=>simp only[one,retV,Rep];exact⟨[],rfl,h⟩
 |[x],[v],h,_=>simp only[RepL] at h;exact h.1
 |x::x'::xs,v::v'::vs,h,_=>simp only[one,retV,Rep];exact⟨_,rfl,h⟩
theorem gather_ok(hS:Sim P Wr0 w0 S I a w){st:Bool}:∀{ps:List Prm} {xs:List AVal} {vs:List Value} {y:PrmsT ps},gather st S.heap ps xs=some y→RepL P w (WrOf Wr0 S.heap I) I xs vs→
  RepPs P w (stWr st (WrOf Wr0 S.heap I)) ps vs y
 |[],[],vs,_,_,hL=>by
  have:=hL.length;simp only[RepPs];exact List.length_eq_zero_iff.1 this.symm
 |[],_::_,_,_,h,_=>by simp[gather] at h
 |.v k::ps,[],_,_,h,_=>by simp[gather] at h
 |.clo _ _::ps,_,_,_,h,_=>by simp[gather] at h
 |.cap _::ps,_,_,_,h,_=>by simp[gather] at h
 |.v k::ps,x::xs,[],_,h,hL=>by simp only[RepL] at hL
 |.v k::ps,x::xs,v::vs,y,h,hL=>by
  simp only[RepL] at hL;simp only[gather] at h;split at h
  ·rename_i z hz;split at h
   ·rename_i q hq;obtain rfl:=Option.some.inj h;simp only[RepPs];exact⟨v,vs,rfl,hS.toT hz hL.1,gather_ok hS hq hL.2⟩
   ·cases h
  ·cases h
theorem evals_rep(hS:Sim P Wr0 w0 S I a w):∀l:List Operand,RepL P w (WrOf Wr0 S.heap I) I (mapA S.eval l) (l.map a.eval)
 |[]=>by simp[mapA,RepL]
 |x::l=>by simp only[mapA,List.map_cons,RepL];exact⟨hS.eval x,evals_rep hS l⟩
theorem wp_enter{g:Nat}{fn:Func}{args:Array Operand}{tys:Array TypeId}(hf:P.p.funcs[g]?=some fn)(hname:(fn.name== "runtime.NumGoroutine")=false)(hb:fn.body.isSome=true)
  (ho:o.op=.call {callee:=.value (.func g),args:=args,argTypes:=tys}) {next:Act→World→Prop} {Q:Exit→Act→World→Prop}
  (h:Calls P g (args.map a.eval) w fun e w'=>∃v,e=.returned v∧next (a.put o.dst v) w'):o.wp P a w next Q:=by
 have h1:fn.name≠ "runtime.NumGoroutine" :=by simpa using hname
 obtain⟨c,hc⟩:=Option.isSome_iff_exists.1 hb;have he:(callFunc g (args.map a.eval)).run P w=.ok (.enter g (args.map a.eval)) w:=by simp[callFunc,hf,h1,hc]
 have hrun:(execOp a.eval o).run P w=.ok (.enter g (args.map a.eval)) w:=by
  unfold execOp;simp[ho,resolve,Deferred.ofValue,invoke,Act.eval,he]
 unfold Oper.wp;rw[hrun,Oper.upon_enter];refine h.mono fun e w'' hh=> ?_;obtain⟨v,rfl,hk⟩:=hh;exact hk
/-- the state behind a call -/
def St.gotS(S:St)(d:Option Nat)(own:Bool)(ks:List Kd)(x:OutsT ks):St:=
 match own,d with
 |true,some d'=>(S.setHs (thaws d' ks x 0).2).put d (one (thaws d' ks x 0).1)
 |true,none=>S
 |false,d=>S.put d (one (asIs ks x))
theorem got_some{d:Option Nat}{own:Bool}{ks:List Kd}{x:OutsT ks}(h:S.got d own ks x K=some r):
  K (S.gotS d own ks x)=some r∧(∀d',own=true→d=some d'→allFree S.heap (thaws d' ks x 0).2=true):=by
 unfold St.got at h;cases own with
 |false=>exact⟨h,fun _ e=>by cases e⟩
 |true=>
  simp only[ifT] at h;cases d with
  |none=>exact⟨h,fun _ _ e=>by cases e⟩
  |some d'=>
   simp only at h;split at h
   ·rename_i hfr;exact⟨h,fun _ _ e=>by obtain rfl:=Option.some.inj e;exact hfr⟩
   ·cases h
theorem got_sim(hS:Sim P Wr0 w0 S I a w){w':World}(hb:BelowD P.s w.heap.size w w'){d:Option Nat}{own:Bool}{ks:List Kd}{x:OutsT ks}{us:List Value}
  (hO:Outs w w' (WrOf Wr0 S.heap I) own ks x us) (hfr:∀d',own=true→d=some d'→allFree S.heap (thaws d' ks x 0).2=true):
  ∃J,Sim P Wr0 w0 (S.gotS d own ks x) J (a.put d (retV us)) w':=by
 cases own with
 |false=>exact⟨I,(hS.grow hb).put (one_rep (asIs_rep hO)) d⟩
 |true=>
  cases d with
  |none=>exact⟨I,hS.grow hb⟩
  |some d'=>
   obtain⟨bs,h1,h2,h3⟩:=hO;obtain⟨infos,hi,hT⟩:=thaws_ok (P:=P) d' h1 0;obtain⟨J,g1,g2⟩:=hS.thawed hb hT (fun _ _ h=>.inl h) (hfr d' rfl rfl) h2 h3;exact⟨J,g1.put (one_rep g2) (some d')⟩
theorem call_step(hF:FnsOk P E){g:Nat}{args:Array Operand}{tys:Array TypeId}(ho:o.op=.call {callee:=.value (.func g),args:=args,argTypes:=tys})
  (h:step E o S K=some r):StepSim P Wr0 w0 o S K r:=by
 intro I a w hS;unfold step at h;simp only[ho] at h;split at h
 ·cases h
 ·rename_i f hf;obtain⟨hok,fn,hfn,hname,hbody⟩:=hF.fn g f hf;generalize hl:ifT f.own (flats f.outs) false=loose at h;cases loose with
  |true=>
   simp only[ifT] at h;split at h
   ·cases h
   ·rename_i xs hg;obtain⟨y,hy,h⟩:=Option.bind_eq_some_iff.1 h;obtain⟨h1,h2⟩:=got_some h;have hps:=gather_ok hS hg (evals_rep hS args.toList);refine⟨_,h1,fun next Q hnx=>wp_enter hfn hname hbody ho ?_⟩;have:=hok xs y hy w noWr _ ⟨fun _ _ h=>h.elim,hS.tab⟩ hps;rw[show(args.toList.map a.eval).toArray=args.map a.eval from Array.ext' (by simp)] at this;refine this.mono fun e w' he=> ?_;obtain⟨us,rfl,hb,hO⟩:=he;have how:f.own=true∧flats f.outs=true:=by
     cases e:f.own with
     |true=>rw[e] at hl;exact⟨rfl,hl⟩
     |false=>rw[e] at hl;cases hl
    have hO':Outs w w' (WrOf Wr0 S.heap I) f.own f.outs y us:=by
     rw[how.1] at hO⊢;obtain⟨bs,g1,g2,g3⟩:=hO;exact⟨bs,flats_own how.2 g1,g2,g3⟩
    obtain⟨J,hJ⟩:=got_sim (d:=o.dst) hS hb hO' h2;exact⟨_,rfl,hnx _ _ _ hJ⟩
  |false=>
   simp only[ifT] at h;have hS1:=hS.sealVs (mapA S.eval args.toList);split at h
   ·cases h
   ·rename_i xs hg;obtain⟨y,hy,h⟩:=Option.bind_eq_some_iff.1 h;obtain⟨h1,h2⟩:=got_some h;have hev:=evals_rep hS1 args.toList;have hps:=gather_ok hS1 hg hev;refine⟨_,h1,fun next Q hnx=>wp_enter hfn hname hbody ho ?_⟩;have hlt:∀b o,WrOf Wr0 (Am.sealVs S.heap (mapA S.eval args.toList)) I b o→b<w.heap.size:=by
     rintro b o (h3|⟨t,q,i,h3,h4,h5⟩)
     ·exact Nat.lt_of_lt_of_le (hS.wr0.1 b o h3).1 hS.below.size
     ·exact(hS1.fresh t q i b h3 h5.alive h4 h5.block).2
    have:=hok xs y hy w _ _ ⟨hlt,hS1.tab⟩ hps;rw[show(args.toList.map a.eval).toArray=args.map a.eval from Array.ext' (by simp)] at this;refine this.mono fun e w' he=> ?_;obtain⟨us,rfl,hb,hO⟩:=he;obtain⟨J,hJ⟩:=got_sim (d:=o.dst) hS1 hb hO h2;exact⟨_,rfl,hnx _ _ _ hJ⟩
end
end Go.Proofs.YthkflageghfbgaaGreatDoor.Am
/- Calls of function values. -/
namespace Go.Proofs.YthkflageghfbgaaGreatDoor.Am
open Go Go.RowKit
section
variable {P : Pg} {Wr0 : Base} {w0 : World} {S : St} {I : Info} {a : Act} {w : World} {E : Env} {o : Oper} {R : Type} {K : St → Option R} {r : R}
theorem ksT_ok(hS:Sim P Wr0 w0 S I a w):∀{ks:List Kd} {xs:List AVal} {vs:List Value} {y:KsT ks},ksT S.heap ks xs=some y→RepL P w (WrOf Wr0 S.heap I) I xs vs→RepKs w noWr ks vs y
 |[],[],vs,_,_,hL=>by
  simp only[RepKs];exact List.length_eq_zero_iff.1 hL.length.symm
 |[],_::_,_,_,h,_=>by simp[ksT] at h
 |_::_,[],_,_,h,_=>by simp[ksT] at h
 |k::ks,x::xs,[],_,_,hL=>by simp only[RepL] at hL
 |k::ks,x::xs,v::vs,y,h,hL=>by
  simp only[RepL] at hL;simp only[ksT] at h;split at h
  ·rename_i z hz;split at h
   ·rename_i q hq;obtain rfl:=Option.some.inj h;exact⟨v,vs,rfl,hS.toT (st:=false) hz hL.1,ksT_ok hS hq hL.2⟩
   ·cases h
  ·cases h
theorem Sim.wr_lt(hS:Sim P Wr0 w0 S I a w):∀b o,WrOf Wr0 S.heap I b o→b<w.heap.size:=by
 rintro b o (h3|⟨t,q,i,h3,h4,h5⟩)
 ·exact Nat.lt_of_lt_of_le (hS.wr0.1 b o h3).1 hS.below.size
 ·exact(hS.fresh t q i b h3 h5.alive h4 h5.block).2
theorem wp_enterV{g:Nat}{fn:Func}{x:Operand}{caps:Array Value}{args:Array Operand}{tys:Array TypeId}(hf:P.p.funcs[g]?=some fn)(hname:(fn.name== "runtime.NumGoroutine")=false)(hb:fn.body.isSome=true)
  (ho:o.op=.call {callee:=.value x,args:=args,argTypes:=tys}) (hx:a.eval x=.func (.func g) #[] caps) {next:Act→World→Prop} {Q:Exit→Act→World→Prop}
  (h:Calls P g (args.map a.eval++caps) w fun e w'=>∃v,e=.returned v∧next (a.put o.dst v) w'):o.wp P a w next Q:=by
 have h1:fn.name≠ "runtime.NumGoroutine" :=by simpa using hname
 obtain⟨c,hc⟩:=Option.isSome_iff_exists.1 hb;have he:(callFunc g (args.map a.eval++caps)).run P w=.ok (.enter g (args.map a.eval++caps)) w:=by simp[callFunc,hf,h1,hc]
 have hrun:(execOp a.eval o).run P w=.ok (.enter g (args.map a.eval++caps)) w:=by
  unfold execOp;simp[ho,resolve,hx,Deferred.ofValue,invoke,he]
 unfold Oper.wp;rw[hrun,Oper.upon_enter];refine h.mono fun e w'' hh=> ?_;obtain⟨v,rfl,hk⟩:=hh;exact hk
theorem callV_step{p':Nat}{args:Array Operand}{tys:Array TypeId}(ho:o.op=.call {callee:=.value (.tmp p'),args:=args,argTypes:=tys})(h:callV o.dst S (S.eval (.tmp p')) (mapA S.eval args.toList) K=some r):StepSim P Wr0 w0 o S K r:=by
 intro I a w hS;unfold callV at h;split at h
 case h_2=>cases h
 rename_i ki ko φ hx;obtain⟨hfl,h⟩:=ifT_some h;have hdir:direct ki=true:=by
  cases e:ko.flat1<;>rw[e] at hfl
  ·cases hfl
  ·exact hfl
 split at h
 case h_2=>cases h
 rename_i xs hg;obtain⟨y,hy,h⟩:=Option.bind_eq_some_iff.1 h;have hv:=hS.eval (.tmp p');rw[hx] at hv;simp only[Rep] at hv;obtain⟨g,caps,hu,⟨fn,hfn,hname,hbody⟩,hc⟩:=(Clo.of hdir).1 hv;have hks:=ksT_ok hS hg (evals_rep hS args.toList);refine⟨_,h,fun next Q hnx=>wp_enterV hfn hname hbody ho hu ?_⟩;have:=hc w (Keep.no _ _) hS.tab xs y hy _ hks;rw[show(args.toList.map a.eval).toArray=args.map a.eval from Array.ext' (by simp)] at this;refine this.mono fun e w' he=> ?_;obtain⟨v,rfl,hb,cs,h1,rfl⟩:=he;refine⟨_,rfl,hnx _ _ _ ((hS.grow hb).put ?_ _)⟩;simp only[Rep];exact⟨cs,h1.keep ⟨fun b o v g1 g2=>⟨g1,fun g3=>g2 (hS.wr_lt b o g3)⟩⟩,rfl⟩
end
end Go.Proofs.YthkflageghfbgaaGreatDoor.Am
/- An operation does what the abstract machine tells; and what it tells does not hang on what follows. -/
namespace Go.Proofs.YthkflageghfbgaaGreatDoor.Am
open Go Go.RowKit
section
variable {P : Pg} {Wr0 : Base} {w0 : World} {S S' : St} {I : Info} {a : Act} {w : World} {E : Env} {o : Oper} {R : Type} {K : St → Option R} {r : R} {x y : Operand}
theorem castK_self{k k':Kd}{xs:(Kd.sl k).T}{ys:(Kd.sl k').T}(h:castK (k:=.sl k) (k':=.sl k') xs=some ys):∃e:k=k',e▸xs=ys:=by
 obtain⟨e,h⟩:=castK_some h;have e':k=k':=by injection e
 subst e';exact⟨rfl,h⟩
theorem step_ok(hE:TysOk P E)(hF:FnsOk P E)(h:step E o S K=some r):StepSim P Wr0 w0 o S K r:=by
 have h0:=h;unfold step at h;split at h
 ·rename_i ho;exact box_step h ho
 ·rename_i t ho;split at h
  ·rename_i k hk;exact alloc_step hE hk h ho
  ·cases h
 ·rename_i t x ho;split at h
  ·split at h
   ·rename_i y hy;exact ldClo_step (hF.sp t) ho hy h
   ·cases h
  ·rename_i k' hk';exact load_step hE hk' ho h
 ·rename_i t x y ho;split at h
  ·cases h
  ·rename_i k' hk';split at h
   ·rename_i t' c hx;split at h
    ·rename_i cs hH;exact store_ptr_step hE hk' ho (fun hr=>by rwa [hx] at hr) hH h
    ·cases h
   ·rename_i t' i c hx;split at h
    ·rename_i k xs hH;split at h
     ·rename_i gs y' hg hy;exact store_ep_step hE hk' ho hx hH hg hy h
     ·cases h
    ·cases h
   ·rename_i t' n i hx;split at h
    ·rename_i cs hH;exact store_pi_step hE hk' ho hx hH h
    ·cases h
   ·cases h
 ·rename_i t l c ho;split at h
  ·rename_i d k1 l' k2 c' hd hx hy;exact makeSlice_step hE hd hx hy h ho
  ·cases h
 ·rename_i t n parts ho;split at h
  ·rename_i d hd;exact buildSlice_step hE hd h ho
  ·cases h
 ·rename_i args tys ho;split at h
  ·rename_i s x t t2 tl ha ht;split at h
   ·cases h
   ·rename_i d hd;obtain⟨hok,h⟩:=ifT_some h;have hoks:okT E t (.sl d.elt)=true∧okT E t2 (.sl d.elt)=true:=by
     cases e:okT E t (.sl d.elt) with
     |true=>rw[e] at hok;exact⟨rfl,hok⟩
     |false=>rw[e] at hok;cases hok
    split at h
    ·rename_i ys hs hys;exact append_nil_step hE ha ht ho hd hoks.1 hoks.2 hs hys h
    ·rename_i k0 t' off len ys hs hys;split at h
     ·rename_i k xs ao hH;split at h
      ·rename_i xs' hc;obtain⟨rfl,rfl⟩:=castK_self hc;exact append_ref_step hE ha ht ho hd hoks.1 hoks.2 hs hys hH h
      ·cases h
     ·cases h
    ·cases h
  ·cases h
 ·rename_i args tys ho;split at h
  ·rename_i s x t t2 tl ha ht;split at h
   ·cases h
   ·rename_i d hd;obtain⟨hok,h⟩:=ifT_some h;have hoks:okT E t (.sl d.elt)=true∧d.elt.size=1:=by
     cases e:okT E t (.sl d.elt) with
     |true=>
      rw[e] at hok;simp only[ifT] at hok;split at hok
      ·exact⟨rfl,Nat.eq_of_beq_eq_true hok⟩
      ·cases hok
     |false=>rw[e] at hok;cases hok
    split at h
    ·rename_i k0 t' off len ys hs hys;split at h
     ·rename_i k xs hH;split at h
      ·rename_i xs' hc;obtain⟨rfl,rfl⟩:=castK_self hc;exact copy_step hE ha ht ho hd hoks.1 hoks.2 hs hys hH h
      ·cases h
     ·cases h
    ·cases h
  ·cases h
 ·rename_i g args tys ho;exact call_step hF ho h0
 ·rename_i p args tys ho;exact callV_step ho h
 ·exact vact_step hE h
theorem shareB_eq{α R:Type}(b:Bool)(x:α)(K:α→Option R):shareB b x K=K x:=by cases b<;>rfl
theorem storeS_eq(E:Env)(o:Oper)(S:St)(K:St→Option R):storeS E o S K=step E o S K:=by
 unfold storeS;simp only[shareB_eq];split
 ·rename_i t x y ho;split
  ·rename_i hk;unfold step;simp only[ho,hk]
  ·rename_i k' hk;split
   ·rfl
   ·rfl
   ·rename_i t' i c hx;unfold step;simp only[ho,hk,hx]
   ·rename_i h1 h2;unfold step;simp only[ho,hk]
 ·rfl
end
end Go.Proofs.YthkflageghfbgaaGreatDoor.Am
/- Calls that write into what is handed in. -/
namespace Go.Proofs.YthkflageghfbgaaGreatDoor.Am
open Go Go.RowKit
section
variable {P : Pg} {Wr0 : Base} {w0 : World} {S : St} {I : Info} {a : Act} {w : World}
/-- a row whose block is all its owner's -/
def Whole:Row→Prop
 |.arr _ _ false=>True
 |.box _=>True
 |_=>False
theorem Whole.alive{r:Row}(h:Whole r):r≠ .dead:=by rintro rfl;exact h
theorem Whole.owns{r:Row}(h:Whole r){w:World}{Wr:WrP}{I:Info}{i:TokI}(hr:RowRep P w Wr I r i){b:Nat}(hb:i.block=some b)(o:Nat):Owns r i b o:=by
 cases r with
 |dead=>exact h.elim
 |box cs=>
  cases i with
  |box b' n=>exact(Option.some.inj hb).symm
  |arr=>exact hr.elim
 |arr k xs ao=>
  cases ao with
  |true=>exact h.elim
  |false=>
   cases i with
   |box=>exact hr.elim
   |arr k' n loc N=>
    cases loc with
    |none=>cases hb
    |some l=>exact⟨(Option.some.inj hb).symm,fun e=>by cases e⟩
/-! ### many new rows, and some that are written -/
theorem Sim.newsM(h:Sim P Wr0 w0 S I a w){w':World}{M:Nat→Prop}(hb:BelowM P.s (fun b=>w.heap.size≤b∨M b) w w')
  (hM:∀b,M b→∃p r i,S.heap p=some r∧I p=some i∧i.block=some b∧∀o,Owns r i b o) {H:Nat→Option Row} {J:Info}
  (hold:∀p r,S.heap p=some r→∃r',H p=some r'∧J p=I p∧((r'=r∧∀i b,I p=some i→r≠ .dead→i.block=some b→¬M b)∨
   (r≠ .dead∧r'≠ .dead∧(∀i b o,I p=some i→Owns r' i b o→Owns r i b o)∧∃i,I p=some i∧RowRep P w' (WrOf Wr0 H J) J r' i)))
  (hnone:∀p,H p=none→J p=none)
  (hnew:∀p r,S.heap p=none→H p=some r→∃i,J p=some i∧(∀b,i.block=some b→w.heap.size≤b∧b<w'.heap.size)∧RowRep P w' (WrOf Wr0 H J) J r i)
  (hinj:∀p p' i i' b,S.heap p=none→S.heap p'=none→J p=some i→J p'=some i'→i.block=some b→i'.block=some b→p=p') (hlt:∀p r,S.heap p=none→H p=some r→p<200000):
  Sim P Wr0 w0 {S with heap:=H} J a w'∧Keep w (WrOf Wr0 S.heap I) w' (WrOf Wr0 H J)∧InfoLe I J:=by
 have hle:InfoLe I J:=by
  intro p i hi;cases hp:S.heap p with
  |none=>rw[h.free p hp] at hi;cases hi
  |some r=>
   obtain⟨_,_,e,_⟩:=hold p r hp;rw[e];exact hi
 have old:∀p r,S.heap p=some r→r≠ .dead→∀q,H p=some q→q≠ .dead∧∀i b o,I p=some i→Owns q i b o→Owns r i b o:=by
  intro p r hp hd q hq;obtain⟨r',e1,e2,e3⟩:=hold p r hp;rw[hq] at e1;obtain rfl:=Option.some.inj e1
  rcases e3 with⟨rfl,_⟩|⟨_,g1,g2,_⟩
  ·exact⟨hd,fun _ _ _ _ h=>h⟩
  ·exact⟨g1,g2⟩
 have oldd:∀p r q,S.heap p=some r→H p=some q→q≠ .dead→r≠ .dead:=by
  intro p r q hp hq hd;obtain⟨r',e1,e2,e3⟩:=hold p r hp;rw[hq] at e1;obtain rfl:=Option.some.inj e1
  rcases e3 with⟨rfl,_⟩|⟨g0,_⟩
  ·exact hd
  ·exact g0
 have hk:Keep w (WrOf Wr0 S.heap I) w' (WrOf Wr0 H J):=by
  refine⟨fun b o v h1 h2=> ?_⟩;have hlt:b<w.heap.size:=World.block_lt_of_cell? w ⟨b,o,none⟩ h1;have hnM:¬M b:=by
   intro hm;obtain⟨p,r,i,g1,g2,g3,g4⟩:=hM b hm;exact h2 (.inr ⟨p,r,i,g1,g2,g4 o⟩)
  refine⟨?_,fun h3=>h2 ?_⟩
  ·have:=hb.block b hlt (by rintro(g|g);omega;exact hnM g);unfold World.cell? at h1⊢;show(match w'.heap[b]? with|some (.cells c _ _)=>if(none:Option Nat).isSome then none else c[o]?|_=>none)=_;rw[this];exact h1
  ·rcases h3 with h3|⟨p,r,i,h3,h4,h5⟩
   ·exact .inl h3
   ·cases hp:S.heap p with
    |none=>
     obtain⟨i',e,hi',_⟩:=hnew p r hp h3;rw[h4] at e;obtain rfl:=Option.some.inj e;have:=hi' b h5.block;omega
    |some r'=>
     obtain⟨_,_,e2,_⟩:=hold p r' hp;rw[e2] at h4;have hd:=oldd p r' r hp h3 h5.alive;exact .inr ⟨p,r',i,hp,h4,(old p r' hp hd r h3).2 i b o h4 h5⟩
 refine⟨⟨h.defers,h.slots.keep hk hle,h.gh.keep hk hle,hnone, ?_, ?_, ?_,h.wr0,h.new,fun p i hp hne=> ?_,h.nmt,h.below.trans hb ?_⟩,hk,hle⟩
 rotate_left 3
 ·cases hq:S.heap p with
  |none=>
   exfalso;cases hr:H p with
   |none=>exact hne hr
   |some r=>
    have:=hlt p r hq hr;have:=h.nmt p i hp;omega
  |some r=>
   obtain⟨_,_,e,_⟩:=hold p r hq;rw[e];exact h.nm p i hp (by rw[hq];simp)
 ·intro b hb1 hm
  rcases hm with hm|hm
  ·omega
  ·obtain⟨p,r,i,g1,g2,g3,g4⟩:=hM b hm;exact(h.fresh p r i b g1 (g4 0).alive g2 g3).1
 ·intro p r hr;cases hp:S.heap p with
  |none=>
   obtain⟨i,h1,_,h2⟩:=hnew p r hp hr;exact⟨i,h1,h2⟩
  |some r'=>
   obtain⟨q,e1,e2,e3⟩:=hold p r' hp;rw[show H p=some r from hr] at e1;obtain rfl:=Option.some.inj e1;obtain⟨i,h1,h2⟩:=h.rows p r' hp
   rcases e3 with⟨rfl,g1⟩|⟨_,_,_,i',g1,g2⟩
   ·exact⟨i,by rw[e2];exact h1,h2.keep hk hle fun hd b hib=>hb.block b (h.fresh p r i b hp hd h1 hib).2 (by
     rintro(g|g)
     ·have:=(h.fresh p r i b hp hd h1 hib).2;omega
     ·exact g1 i b h1 hd hib g)⟩
   ·exact⟨i',by rw[e2];exact g1,g2⟩
 ·intro p p' r r' i i' b h1 h2 h3 h4 h5 h6 h7 h8;cases hp:S.heap p with
  |none=>
   cases hp':S.heap p' with
   |none=>exact hinj p p' i i' b hp hp' h5 h6 h7 h8
   |some q=>
    obtain⟨_,_,e2,_⟩:=hold p' q hp';rw[e2] at h6;have:=h.fresh p' q i' b hp' (oldd p' q r' hp' h3 h4) h6 h8;obtain⟨i2,e,hi',_⟩:=hnew p r hp h1;rw[h5] at e;obtain rfl:=Option.some.inj e;have:=hi' b h7;omega
  |some q=>
   obtain⟨_,_,e2,_⟩:=hold p q hp;rw[e2] at h5;have hd:=oldd p q r hp h1 h2;cases hp':S.heap p' with
   |none=>
    have:=h.fresh p q i b hp hd h5 h7;obtain⟨i2,e,hi',_⟩:=hnew p' r' hp' h3;rw[h6] at e;obtain rfl:=Option.some.inj e;have:=hi' b h8;omega
   |some q'=>
    obtain⟨_,_,e2,_⟩:=hold p' q' hp';rw[e2] at h6;exact h.inj p p' q q' i i' b hp hd hp' (oldd p' q' r' hp' h3 h4) h5 h6 h7 h8
 ·intro p r i b h1 h2 h3 h4;cases hp:S.heap p with
  |none=>
   obtain⟨i2,e,hi',_⟩:=hnew p r hp h1;rw[h3] at e;obtain rfl:=Option.some.inj e;have:=hi' b h4;exact⟨h.fit this.1,this.2⟩
  |some q=>
   obtain⟨_,_,e2,_⟩:=hold p q hp;rw[e2] at h3;have:=h.fresh p q i b hp (oldd p q r hp h1 h2) h3 h4;exact⟨this.1,Nat.lt_of_lt_of_le this.2 hb.size⟩
theorem Sim.thawedM(h:Sim P Wr0 w0 S I a w){w':World}{M:Nat→Prop}(hb:BelowM P.s (fun b=>w.heap.size≤b∨M b) w w')
  (hM:∀b,M b→∃p r i,S.heap p=some r∧I p=some i∧i.block=some b∧∀o,Owns r i b o) {H1:Nat→Option Row} {Wr:WrP} {avs:List AVal} {vs:List Value} {rows:List (Nat×Row)} {lo hi:Nat} {bs:List Nat} {infos:List (Nat×TokI)}
  (hdom:∀p,S.heap p=none→H1 p=none)
  (hold:∀p r,S.heap p=some r→∃r',H1 p=some r'∧((r'=r∧∀i b,I p=some i→r≠ .dead→i.block=some b→¬M b)∨
   (r≠ .dead∧r'≠ .dead∧(∀i b o,I p=some i→Owns r' i b o→Owns r i b o)∧∃i,I p=some i∧∀J,InfoLe I J→RowRep P w' (withB Wr bs) J r' i)))
  (hT:Thawed P w' (withB Wr bs) avs vs rows lo hi bs infos) (hWr:∀b o,WrOf Wr0 S.heap I b o→Wr b o) (hfr:allFree H1 rows=true) (hnd:bs.Nodup) (hbs:∀b∈bs,w.heap.size≤b∧b<w'.heap.size):
  ∃J,Sim P Wr0 w0 (St.setHs {S with heap:=H1} rows) J a w'∧RepL P w' (WrOf Wr0 (St.setHs {S with heap:=H1} rows).heap J) J avs vs:=by
 have htok:=hT.toks;have hfree:=allFree_mem hfr;have hnodup:(rows.map (·.1)).Nodup:=by rw[←htok];exact hT.nodup
 let S1:St:={S with heap:=H1}
 let H:=(S1.setHs rows).heap
 let J:=lookI infos I
 have hfreeS:∀p∈rows.map (·.1),S.heap p=none:=by
  intro p hp;cases hq:S.heap p with
  |none=>rfl
  |some r=>
   obtain⟨r',e,_⟩:=hold p r hq;have:=hfree p hp;rw[e] at this;cases this
 have hJo:∀p,p∉rows.map (·.1)→J p=I p:=fun p hp=>lookI_out (by rw[htok];exact hp);have hJ:∀q∈infos,J q.1=some q.2:=fun q hq=>lookI_in hT.nodup hq;have hle:InfoLe I J:=by
  intro p i hi
  by_cases hp:p∈rows.map (·.1)
  ·rw[h.free p (hfreeS p hp)] at hi;cases hi
  ·rw[hJo p hp];exact hi
 have hWH:∀b o,WrOf Wr0 H J b o→WrOf Wr0 S.heap I b o∨b∈bs:=by
  rintro b o (h1|⟨p,r,i,h1,h2,h3⟩)
  ·exact .inl (.inl h1)
  ·by_cases hp:p∈rows.map (·.1)
   ·obtain⟨q,hq,rfl⟩:=List.mem_map.1 (by rw[htok];exact hp:p∈infos.map (·.1));have:J q.1=some q.2:=lookI_in hT.nodup hq;rw[this] at h2;obtain rfl:=Option.some.inj h2;refine .inr ?_;rw[←hT.blk];exact List.mem_filterMap.2 ⟨q,hq,h3.block⟩
   ·have e1:H p=H1 p:=setHs_out (S:=S1) hp;rw[hJo p hp] at h2;rw[e1] at h1;cases hq:S.heap p with
    |none=>rw[hdom p hq] at h1;cases h1
    |some r0=>
     obtain⟨r',e2,e3⟩:=hold p r0 hq;rw[h1] at e2;obtain rfl:=Option.some.inj e2
     rcases e3 with⟨rfl,_⟩|⟨_,_,g,_⟩
     ·exact .inl (.inr ⟨p,r,i,hq,h2,h3⟩)
     ·exact .inl (.inr ⟨p,r0,i,hq,h2,g i b o h2 h3⟩)
 have hkk:Keep w' (withB Wr bs) w' (WrOf Wr0 H J):=⟨fun b o v h1 h2=>⟨h1,fun h3=>by
  rcases hWH b o h3 with h3|h3
  ·exact h2 (.inl (hWr b o h3))
  ·exact h2 (.inr h3)⟩⟩
 have hnew:∀p r,S.heap p=none→H p=some r→(p,r)∈rows:=by
  intro p r h1 h2
  by_cases hp:p∈rows.map (·.1)
  ·obtain⟨q,hq,rfl⟩:=List.mem_map.1 hp;have:=setHs_in (S:=S1) hnodup hq;rw[show(S1.setHs rows).heap q.1=some r from h2] at this;obtain rfl:=Option.some.inj this;exact hq
  ·rw[show H p=H1 p from setHs_out (S:=S1) hp,hdom p h1] at h2;cases h2
 suffices hh:Sim P Wr0 w0 {S with heap:=H} J a w'∧Keep w (WrOf Wr0 S.heap I) w' (WrOf Wr0 H J)∧InfoLe I J by
  obtain⟨g1,g2,g3⟩:=hh;refine⟨J, ?_,(hT.vals J hJ).keep hkk (InfoLe.refl J)⟩;have:(S1.setHs rows)={S with heap:=H}:=by
   have e:=setHs_slots rows S1;have e2:=setHs_gh rows S1;cases hS:S1.setHs rows with
   |mk sl hp g=>
    rw[hS] at e e2;simp only at e e2;subst e e2;show _=St.mk _ (S1.setHs rows).heap _;rw[hS]
  rw[show St.setHs {S with heap:=H1} rows=S1.setHs rows from rfl,this];exact g1
 refine h.newsM (H:=H) (J:=J) hb hM ?_ ?_ ?_ ?_ fun p r h1 h2=>allFree_lt hfr p (List.mem_map.2 ⟨_,hnew p r h1 h2,rfl⟩)
 ·intro p r hp;have hn:p∉rows.map (·.1):=fun hm=>by rw[hfreeS p hm] at hp;cases hp
  obtain⟨r',e1,e2⟩:=hold p r hp;refine⟨r',by rw[show H p=H1 p from setHs_out (S:=S1) hn];exact e1,hJo p hn, ?_⟩
  rcases e2 with e2|⟨g0,g1,g2,i,g3,g4⟩
  ·exact .inl e2
  ·exact .inr ⟨g0,g1,g2,i,g3,(g4 J hle).keep hkk (InfoLe.refl J) fun _ _ _=>rfl⟩
 ·intro p hp
  by_cases hm:p∈rows.map (·.1)
  ·obtain⟨q,hq,rfl⟩:=List.mem_map.1 hm;have:=setHs_in (S:=S1) hnodup hq;rw[show(S1.setHs rows).heap q.1=none from hp] at this;cases this
  ·rw[show H p=H1 p from setHs_out (S:=S1) hm] at hp;rw[hJo p hm];cases hq:S.heap p with
   |none=>exact h.free p hq
   |some r=>
    obtain⟨r',e,_⟩:=hold p r hq;rw[hp] at e;cases e
 ·intro p r h1 h2;obtain⟨i,h3,h4⟩:=hT.rows J (p,r) (hnew p r h1 h2);refine⟨i,hJ _ h3,fun b hb'=>hbs b ?_,h4.keep hkk (InfoLe.refl J) fun _ _ _=>rfl⟩;rw[←hT.blk];exact List.mem_filterMap.2 ⟨(p,i),h3,hb'⟩
 ·intro p p' i i' b h1 h2 h3 h4 h5 h6;have mem:∀{p:Nat} {i:TokI},S.heap p=none→J p=some i→(p,i)∈infos:=by
   intro p i g1 g2
   by_cases hm:p∈infos.map (·.1)
   ·obtain⟨q,hq,rfl⟩:=List.mem_map.1 hm;have:=hJ q hq;rw[g2] at this;obtain rfl:=Option.some.inj this;exact hq
   ·rw[show J p=I p from lookI_out hm,h.free p g1] at g2;cases g2
  have:=blocks_inj (by rw[hT.blk];exact hnd) (mem h1 h3) (mem h2 h4) h5 h6;exact congrArg Prod.fst this
end
end Go.Proofs.YthkflageghfbgaaGreatDoor.Am
/- What a call lends, and the call itself. -/
namespace Go.Proofs.YthkflageghfbgaaGreatDoor.Am
open Go Go.RowKit
section
variable {P : Pg} {Wr0 : Base} {w0 : World} {S : St} {I : Info} {a : Act} {w : World} {E : Env} {o : Oper} {R : Type} {K : St → Option R} {r : R}
theorem memN_no{t:Nat}:∀{l:List Nat},memN t l=false→t∉l
 |[],_=>by simp
 |u::l,h=>by
  simp only[memN] at h
  by_cases e:t=u
  ·rw[ifEq_pos e] at h;cases h
  ·rw[ifEq_neg e] at h;rw[List.mem_cons,not_or];exact⟨e,memN_no h⟩
theorem nodupN_nd:∀{l:List Nat},nodupN l=true→l.Nodup
 |[],_=>List.nodup_nil
 |t::l,h=>by
  simp only[nodupN] at h;cases e:memN t l with
  |true=>rw[e] at h;cases h
  |false=>rw[e] at h;exact List.nodup_cons.2 ⟨memN_no e,nodupN_nd h⟩
theorem ifT_no{α:Type}{b:Bool}{x:Option α}{y:α}(h:ifT b none x=some y):b=false∧x=some y:=by
 cases b with
 |true=>cases h
 |false=>exact⟨rfl,h⟩
/-! ### tokens of what is lent -/
theorem thawL_toks(d:Nat):∀(k:Kd) (x:k.T) (j:Nat),(thawL d k x j).2.1.map (·.1)=(toksL d k j).1∧(thawL d k x j).2.2=(toksL d k j).2
 |.unit,_,_=>⟨rfl,rfl⟩
 |.pair p q,x,j=>by
  obtain⟨h1,h2⟩:=thawL_toks d p x.1 j;obtain⟨h3,h4⟩:=thawL_toks d q x.2 (thawL d p x.1 j).2.2;rw[h2] at h3 h4;refine⟨?_, ?_⟩
  ·simp only[thawL,toksL,appA_eq,List.map_append,h1,h2,h3]
  ·simp only[thawL,toksL,h2,h4]
 |.sl _,_,_=>⟨rfl,rfl⟩
 |.int _,_,_=>⟨rfl,rfl⟩
 |.bool,_,_=>⟨rfl,rfl⟩
 |.str,_,_=>⟨rfl,rfl⟩
 |.err,_,_=>⟨rfl,rfl⟩
 |.pt,_,_=>⟨rfl,rfl⟩
theorem thaw1_L(d:Nat){k:Kd}(hk:k.isAgg=false)(x:k.T)(j:Nat):thawL d k x j=([(thaw1 d k x j).1],(thaw1 d k x j).2):=by
 cases k<;>first|rfl|cases hk
theorem thaw1_toks(d:Nat)(k:Kd)(x:k.T):(thaw1 d k x 0).2.1.map (·.1)=(toksL d k 0).1:=by
 cases k with
 |pair p q=>exact(thawL_toks d (.pair p q) x 0).1
 |_=>rfl
theorem rowsM_toks:∀(d:Nat) (ps:List Ar) (xs:ArsT ps),(rowsM d ps xs).map (·.1)=toksM d ps
 |_,[],_=>rfl
 |d,.v _::ps,xs=>rowsM_toks (d+1) ps xs.2
 |d,.io k::ps,xs=>by
  simp only[rowsM,toksM,appA_eq,List.map_append,thaw1_toks,rowsM_toks (d+1) ps xs.2]
 |d,.bx k::ps,xs=>by
  simp only[rowsM,toksM,List.map_cons,rowsM_toks (d+1) ps xs.2]
theorem thawL_whole(d:Nat):∀(k:Kd) (x:k.T) (j:Nat),∀q∈(thawL d k x j).2.1,Whole q.2
 |.pair p q,x,j=>by
  intro z hz;simp only[thawL,appA_eq] at hz
  rcases List.mem_append.1 hz with hz|hz
  ·exact thawL_whole d p _ _ z hz
  ·exact thawL_whole d q _ _ z hz
 |.sl _,_,_=>by
  intro z hz;obtain rfl:=List.mem_singleton.1 hz;trivial
 |.unit,_,_=>fun z hz=>by cases hz
 |.int _,_,_=>fun z hz=>by cases hz
 |.bool,_,_=>fun z hz=>by cases hz
 |.str,_,_=>fun z hz=>by cases hz
 |.err,_,_=>fun z hz=>by cases hz
 |.pt,_,_=>fun z hz=>by cases hz
theorem thaw1_whole(d:Nat)(k:Kd)(x:k.T):∀q∈(thaw1 d k x 0).2.1,Whole q.2:=by
 cases k with
 |pair p q=>exact thawL_whole d (.pair p q) x 0
 |sl k=>exact thawL_whole d (.sl k) x 0
 |_=>exact fun z hz=>by cases hz
theorem rowsM_whole:∀(d:Nat) (ps:List Ar) (xs:ArsT ps),∀q∈rowsM d ps xs,Whole q.2
 |_,[],_=>fun z hz=>by cases hz
 |d,.v _::ps,xs=>rowsM_whole (d+1) ps xs.2
 |d,.io k::ps,xs=>by
  intro z hz;simp only[rowsM,appA_eq] at hz
  rcases List.mem_append.1 hz with hz|hz
  ·exact thaw1_whole d k _ z hz
  ·exact rowsM_whole (d+1) ps xs.2 z hz
 |d,.bx k::ps,xs=>by
  intro z hz;simp only[rowsM] at hz
  rcases List.mem_cons.1 hz with rfl|hz
  ·trivial
  ·exact rowsM_whole (d+1) ps xs.2 z hz
theorem leaves_any{w:World}{Wr:WrP}{I J:Info}:∀{k:Kd} {x:k.T} {vs:List Value},RepL P w Wr I (k.leaves x) vs→RepL P w Wr J (k.leaves x) vs
 |.unit,_,[],h=>by simp only[Kd.leaves,RepL]
 |.unit,_,v::vs,h=>by simp only[Kd.leaves,RepL] at h
 |.pair p q,x,vs,h=>by
  simp only[Kd.leaves] at h⊢;have h1:=h.take (lenA (p.leaves x.1));have h2:=h.drop (lenA (p.leaves x.1));have e1:∀(l m:List AVal),takeA (lenA l) (appA l m)=l:=by
   intro l m
   induction l with
   |nil=>rfl
   |cons x l ih=>simp only[lenA,appA,takeA,ih]
  have e2:∀(l m:List AVal),dropA (lenA l) (appA l m)=m:=by
   intro l m
   induction l with
   |nil=>rfl
   |cons x l ih=>simp only[lenA,appA,dropA,ih]
  rw[e1] at h1;rw[e2] at h2;have:=(leaves_any (J:=J) h1).app (leaves_any (J:=J) h2)
  rwa [List.take_append_drop] at this
 |.sl _,_,[],h=>by simp only[Kd.leaves,RepL] at h
 |.sl _,_,v::vs,h=>by simp only[Kd.leaves,RepL,Rep] at h⊢;exact⟨h.1,by cases vs<;>simp_all [RepL]⟩
 |.int _,_,[],h=>by simp only[Kd.leaves,RepL] at h
 |.int _,_,v::vs,h=>by simp only[Kd.leaves,RepL,Rep] at h⊢;exact⟨h.1,by cases vs<;>simp_all [RepL]⟩
 |.bool,_,[],h=>by simp only[Kd.leaves,RepL] at h
 |.bool,_,v::vs,h=>by simp only[Kd.leaves,RepL,Rep] at h⊢;exact⟨h.1,by cases vs<;>simp_all [RepL]⟩
 |.str,_,[],h=>by simp only[Kd.leaves,RepL] at h
 |.str,_,v::vs,h=>by simp only[Kd.leaves,RepL,Rep] at h⊢;exact⟨h.1,by cases vs<;>simp_all [RepL]⟩
 |.err,_,[],h=>by simp only[Kd.leaves,RepL] at h
 |.err,_,v::vs,h=>by simp only[Kd.leaves,RepL,Rep] at h⊢;exact⟨h.1,by cases vs<;>simp_all [RepL]⟩
 |.pt,_,[],h=>by simp only[Kd.leaves,RepL] at h
 |.pt,_,v::vs,h=>by simp only[Kd.leaves,RepL,Rep] at h⊢;exact⟨h.1,by cases vs<;>simp_all [RepL]⟩
theorem thawL_any(d:Nat){w:World}{Wr:WrP}{I J:Info}:∀(k:Kd) (x:k.T) (j:Nat),∀q∈(thawL d k x j).2.1,∀i,RowRep P w Wr I q.2 i→RowRep P w Wr J q.2 i
 |.pair p q,x,j=>by
  intro z hz;simp only[thawL,appA_eq] at hz
  rcases List.mem_append.1 hz with hz|hz
  ·exact thawL_any d p _ _ z hz
  ·exact thawL_any d q _ _ z hz
 |.sl _,_,_=>by
  intro z hz i hi;obtain rfl:=List.mem_singleton.1 hz;cases i<;>exact hi
 |.unit,_,_=>fun z hz=>by cases hz
 |.int _,_,_=>fun z hz=>by cases hz
 |.bool,_,_=>fun z hz=>by cases hz
 |.str,_,_=>fun z hz=>by cases hz
 |.err,_,_=>fun z hz=>by cases hz
 |.pt,_,_=>fun z hz=>by cases hz
theorem rowsM_any{w:World}{Wr:WrP}{I J:Info}:∀(d:Nat) (ps:List Ar) (xs:ArsT ps),∀q∈rowsM d ps xs,∀i,RowRep P w Wr I q.2 i→RowRep P w Wr J q.2 i
 |_,[],_=>fun z hz=>by cases hz
 |d,.v _::ps,xs=>rowsM_any (d+1) ps xs.2
 |d,.io k::ps,xs=>by
  intro z hz;simp only[rowsM,appA_eq] at hz
  rcases List.mem_append.1 hz with hz|hz
  ·cases k with
   |pair p q=>exact thawL_any d (.pair p q) _ _ z hz
   |sl k=>exact thawL_any d (.sl k) _ 0 z hz
   |_=>cases hz
  ·exact rowsM_any (d+1) ps xs.2 z hz
 |d,.bx k::ps,xs=>by
  intro z hz i hi;simp only[rowsM] at hz
  rcases List.mem_cons.1 hz with rfl|hz
  ·cases i with
   |arr=>exact hi.elim
   |box b n=>
    obtain⟨h1,h2,vs,h3,h4⟩:=hi;exact⟨h1,h2,vs,leaves_any h3,h4⟩
  ·exact rowsM_any (d+1) ps xs.2 z hz i hi
/-! ### what is lent -/
structure Lent (P:Pg) (w:World) (Wr:WrP) (H:Nat→Option Row) (I:Info) (avs:List AVal) (vs:List Value) (rows:List (Nat×Row)) (ts:List Nat):Prop where
 len:rows.length=ts.length
 each:∀p∈rows.zip ts,∃r i,H p.2=some r∧I p.2=some i∧Whole r∧RowRep P w Wr I r i∧∀J,RowRep P w Wr J p.1.2 i
 vals:∀J:Info,(∀p∈rows.zip ts,J p.1.1=I p.2)→RepL P w Wr J avs vs
theorem Lent.app{Wr:WrP}{H:Nat→Option Row}{a1 a2:List AVal}{v1 v2:List Value}{r1 r2:List (Nat×Row)}{t1 t2:List Nat}(h:Lent P w Wr H I a1 v1 r1 t1)(k:Lent P w Wr H I a2 v2 r2 t2):
  Lent P w Wr H I (appA a1 a2) (v1++v2) (appA r1 r2) (t1++t2):=by
 have hz:(appA r1 r2).zip (t1++t2)=r1.zip t1++r2.zip t2:=by rw[appA_eq];exact List.zip_append h.len
 refine⟨by rw[appA_eq,List.length_append,List.length_append,h.len,k.len], ?_, ?_⟩
 ·intro p hp;rw[hz] at hp
  rcases List.mem_append.1 hp with hp|hp
  ·exact h.each p hp
  ·exact k.each p hp
 ·intro J hJ;rw[hz] at hJ;exact(h.vals J fun p hp=>hJ p (List.mem_append_left _ hp)).app (k.vals J fun p hp=>hJ p (List.mem_append_right _ hp))
theorem Lent.plain{Wr:WrP}{H:Nat→Option Row}{avs:List AVal}{vs:List Value}(h:∀J,RepL P w Wr J avs vs):Lent P w Wr H I avs vs [] []:=⟨rfl,by simp,fun J _=>h J⟩
theorem val_any{Wr:WrP}{I J:Info}{k:Kd}{x:k.T}{v:Value}(h:Rep P w Wr I (.v k x) v):RepL P w Wr J [.v k x] [v]:=by
 simp only[Rep] at h;simp only[RepL,Rep];exact⟨h,trivial⟩
theorem ioL_ok{R:Type}(hS:Sim P Wr0 w0 S I a w)(d:Nat):∀{k:Kd} {cs:List AVal} {ts:List Nat} {K:k.T→List AVal→List Nat→Option R} {r:R} {vs:List Value} (j:Nat),ioL S.heap k cs ts K=some r→RepL P w (WrOf Wr0 S.heap I) I cs vs→
  ∃x rest tn v1 v2,K x rest (ts++tn)=some r∧vs=v1++v2∧RepL P w (WrOf Wr0 S.heap I) I rest v2∧Lent P w (WrOf Wr0 S.heap I) S.heap I (thawL d k x j).1 v1 (thawL d k x j).2.1 tn∧(∀t∈tn,t∉ts)∧tn.Nodup:=by
 intro k;have leaf:∀{k:Kd} (hk:∀x j,thawL d k x j=([.v k x],[],j)) {k':Kd} {x:k'.T} {cs:List AVal} {ts:List Nat} {K:k.T→List AVal→List Nat→Option R} {r:R} {vs:List Value} (j:Nat),
   (match castK (k:=k') (k':=k) x with|some y=>K y cs ts|none=>none)=some r→RepL P w (WrOf Wr0 S.heap I) I (.v k' x::cs) vs→
   ∃x rest tn v1 v2,K x rest (ts++tn)=some r∧vs=v1++v2∧RepL P w (WrOf Wr0 S.heap I) I rest v2∧Lent P w (WrOf Wr0 S.heap I) S.heap I (thawL d k x j).1 v1 (thawL d k x j).2.1 tn∧(∀t∈tn,t∉ts)∧tn.Nodup:=by
  intro k hk k' x cs ts K r vs j h hL;split at h
  ·rename_i y hy;obtain⟨e,rfl⟩:=castK_some hy;subst e
   match vs,hL with
   |[],hL=>simp only[RepL] at hL
   |v::vs,hL=>
    simp only[RepL] at hL;refine⟨x,cs,[],[v],vs,by rw[List.append_nil];exact h,rfl,hL.2, ?_,by simp,List.nodup_nil⟩;rw[hk];exact Lent.plain fun J=>val_any hL.1
  ·cases h
 induction k with
 |unit=>
  intro cs ts K r vs j h hL;simp only[ioL] at h;exact⟨(),cs,[],[],vs,by rw[List.append_nil];exact h,rfl,hL,Lent.plain fun J=>by simp only[thawL,RepL],by simp,List.nodup_nil⟩
 |pair p q ih1 ih2=>
  intro cs ts K r vs j h hL;simp only[ioL] at h;obtain⟨x,c1,t1,v1,v2,h1,rfl,h2,h3,h4,h5⟩:=ih1 j h hL;obtain⟨y,c2,t2,v3,v4,g1,rfl,g2,g3,g4,g5⟩:=ih2 (thawL d p x j).2.2 h1 h2;refine⟨(x,y),c2,t1++t2,v1++v3,v4,by rw[←List.append_assoc];exact g1,by rw[List.append_assoc],g2,h3.app g3, ?_, ?_⟩
  ·intro t ht
   rcases List.mem_append.1 ht with ht|ht
   ·exact h4 t ht
   ·exact fun hm=>g4 t ht (List.mem_append_left _ hm)
  ·rw[List.nodup_append];exact⟨h5,g5,fun x hx y hy e=>g4 y hy (List.mem_append_right _ (e▸hx))⟩
 |sl k _=>
  intro cs ts K r vs j h hL
  match cs,h,hL with
  |[],h,_=>simp[ioL] at h
  |.ref k2 t off len::cs,h,hL=>
   match vs,hL with
   |[],hL=>simp only[RepL] at hL
   |v::vs,hL=>
    simp only[RepL] at hL;simp only[ioL] at h;obtain⟨hm,h⟩:=ifT_no h;have hm:=memN_no hm;obtain⟨rfl,h⟩:=ifEq_yes h;split at h
    ·rename_i k' xs hH;split at h
     ·rename_i xs' hc;obtain⟨e2,h2⟩:=castK_self hc;subst e2;subst h2;split at h
      ·rename_i hlen;obtain⟨inf,hinf,hrow⟩:=hS.rows t _ hH;refine⟨xs,cs,[t],[v],vs,by rw[←appA_eq];exact h,rfl,hL.2,⟨rfl, ?_, ?_⟩, ?_,by simp⟩
       ·intro p hp;simp only[thawL,List.zip_cons_cons,List.zip_nil_right,List.mem_singleton] at hp;subst hp;refine⟨_,inf,hH,hinf,trivial,hrow,fun J=> ?_⟩;cases inf<;>exact hrow
       ·intro J hJ;have e:=hJ ((d*16+j,.arr k' xs false),t) (by simp[thawL]);have h1:=hL.1;simp only[thawL,RepL,Rep,e,hinf] at h1⊢;refine⟨?_,trivial⟩;cases inf with
        |box=>exact h1.elim
        |arr k3 n loc N=>
         obtain⟨g1,g2,g3⟩:=h1;obtain⟨rfl,rfl,_⟩:=hrow;rw[hlen] at g3;exact⟨rfl,by omega,g3⟩
       ·intro t' ht';obtain rfl:=List.mem_singleton.1 ht';exact hm
      ·cases h
     ·cases h
    ·cases h
  |.undef::cs,h,_=>simp[ioL] at h
  |.nil::cs,h,_=>simp[ioL] at h
  |.v _ _::cs,h,_=>simp[ioL] at h
  |.agg _::cs,h,_=>simp[ioL] at h
  |.ptr _ _::cs,h,_=>simp[ioL] at h
  |.ep _ _ _::cs,h,_=>simp[ioL] at h
  |.fp _ _::cs,h,_=>simp[ioL] at h
  |.tup _::cs,h,_=>simp[ioL] at h
  |.fn _ _::cs,h,_=>simp[ioL] at h
  |.clo _ _ _::cs,h,_=>simp[ioL] at h
 |_=>
  intro cs ts K r vs j h hL;unfold ioL at h;split at h<;>first|exact leaf (fun _ _=>rfl) j h hL|cases h|skip
  all_goals first|contradiction|simp_all
theorem Lent.one{Wr:WrP}{H:Nat→Option Row}{k:Kd}(hk:k.isAgg=false){d:Nat}{x:k.T}{v:Value}{tn:List Nat}(h:Lent P w Wr H I (thawL d k x 0).1 [v] (thawL d k x 0).2.1 tn):
  Lent P w Wr H I [(thaw1 d k x 0).1] [v] (thaw1 d k x 0).2.1 tn:=by
 rw[thaw1_L d hk] at h;exact h
theorem Lent.agg{Wr:WrP}{H:Nat→Option Row}{k:Kd}(hk:k.isAgg=true){d:Nat}{x:k.T}{us:List Value}{tn:List Nat}(h:Lent P w Wr H I (thawL d k x 0).1 us (thawL d k x 0).2.1 tn):
  Lent P w Wr H I [(thaw1 d k x 0).1] [.agg us.toArray] (thaw1 d k x 0).2.1 tn:=by
 cases k with
 |pair p q=>
  refine⟨h.len,h.each,fun J hJ=> ?_⟩;simp only[thaw1,RepL,Rep];exact⟨⟨us,rfl,h.vals J hJ⟩,trivial⟩
 |unit=>
  refine⟨h.len,h.each,fun J hJ=> ?_⟩;have:=(h.vals J hJ).length;simp only[thawL,List.length_nil] at this;have:us=[]:=List.length_eq_zero_iff.1 this.symm;subst this;simp only[thaw1,RepL,Rep];exact⟨⟨[],rfl,rfl⟩,trivial⟩
 |_=>cases hk
theorem gatherM_ok{R:Type}(hS:Sim P Wr0 w0 S I a w):∀{ps:List Ar} {as:List AVal} {ts:List Nat} {K:ArsT ps→List Nat→Option R} {r:R} {vs:List Value} (d:Nat),gatherM S.heap ps as ts K=some r→RepL P w (WrOf Wr0 S.heap I) I as vs→
  ∃xs tn,K xs (ts++tn)=some r∧Lent P w (WrOf Wr0 S.heap I) S.heap I (initMV d ps xs) vs (rowsM d ps xs) tn∧(∀t∈tn,t∉ts)∧tn.Nodup
 |[],[],ts,K,r,vs,d,h,hL=>by
  simp only[gatherM] at h;have:vs=[]:=List.length_eq_zero_iff.1 hL.length.symm;subst this;exact⟨(),[],by rw[List.append_nil];exact h,Lent.plain fun J=>by simp only[initMV,RepL],by simp,List.nodup_nil⟩
 |[],_::_,_,_,_,_,_,h,_=>by simp[gatherM] at h
 |.v k::ps,[],_,_,_,_,_,h,_=>by simp[gatherM] at h
 |.io k::ps,[],_,_,_,_,_,h,_=>by simp[gatherM] at h
 |.bx k::ps,[],_,_,_,_,_,h,_=>by simp[gatherM] at h
 |p::ps,x::as,ts,K,r,[],d,h,hL=>by simp only[RepL] at hL
 |.v k::ps,x::as,ts,K,r,v::vs,d,h,hL=>by
  simp only[RepL] at hL;simp only[gatherM] at h;split at h
  ·rename_i y hy;obtain⟨xs,tn,h1,h2,h3,h4⟩:=gatherM_ok hS (d+1) h hL.2;have h5:=hS.toT hy hL.1;refine⟨(y,xs),tn,h1, ?_,h3,h4⟩;have:=(Lent.plain (I:=I) (H:=S.heap) (fun J=>val_any (J:=J) (I:=I) (P:=P) (by simp only[Rep];exact h5))).app h2;exact this
  ·cases h
 |.io k::ps,x::as,ts,K,r,v::vs,d,h,hL=>by
  simp only[RepL] at hL;have fin:∀{avs:List AVal} {us:List Value},RepL P w (WrOf Wr0 S.heap I) I avs us→(ioL S.heap k avs ts fun x cs ts=>match cs with|[]=>gatherM S.heap ps as ts fun y ts=>K (x,y) ts|_=>none)=some r→
    (∀(x:k.T) (tn:List Nat),Lent P w (WrOf Wr0 S.heap I) S.heap I (thawL d k x 0).1 us (thawL d k x 0).2.1 tn→Lent P w (WrOf Wr0 S.heap I) S.heap I [(thaw1 d k x 0).1] [v] (thaw1 d k x 0).2.1 tn)→
    ∃xs tn,K xs (ts++tn)=some r∧Lent P w (WrOf Wr0 S.heap I) S.heap I (initMV d (.io k::ps) xs) (v::vs) (rowsM d (.io k::ps) xs) tn∧(∀t∈tn,t∉ts)∧tn.Nodup:=by
   intro avs us hA h hto;obtain⟨y,rest,t1,v1,v2,h1,rfl,h2,h3,h4,h5⟩:=ioL_ok hS d 0 h hA;cases rest with
   |cons _ _=>cases h1
   |nil=>
    have:v2=[]:=List.length_eq_zero_iff.1 h2.length.symm;subst this;rw[List.append_nil] at hto;obtain⟨xs,t2,g1,g2,g3,g4⟩:=gatherM_ok hS (d+1) h1 hL.2;refine⟨(y,xs),t1++t2,by rw[←List.append_assoc];exact g1,(hto y t1 h3).app g2, ?_, ?_⟩
    ·intro t ht
     rcases List.mem_append.1 ht with ht|ht
     ·exact h4 t ht
     ·exact fun hm=>g3 t ht (List.mem_append_left _ hm)
    ·rw[List.nodup_append];exact⟨h5,g4,fun x hx y hy e=>g3 y hy (List.mem_append_right _ (e▸hx))⟩
  have other:∀{x:AVal},Rep P w (WrOf Wr0 S.heap I) I x v→ifT k.isAgg none (ioL S.heap k [x] ts fun x cs ts=>match cs with|[]=>gatherM S.heap ps as ts fun y ts=>K (x,y) ts|_=>none)=some r→
    ∃xs tn,K xs (ts++tn)=some r∧Lent P w (WrOf Wr0 S.heap I) S.heap I (initMV d (.io k::ps) xs) (v::vs) (rowsM d (.io k::ps) xs) tn∧(∀t∈tn,t∉ts)∧tn.Nodup:=by
   intro x hx h;obtain⟨hk,h⟩:=ifT_no h;exact fin (avs:=[x]) (us:=[v]) (by simp only[RepL];exact⟨hx,trivial⟩) h fun x tn hh=>hh.one hk
  cases x with
  |agg cs=>
   simp only[gatherM] at h;obtain⟨hk,h⟩:=ifT_some h;have hx:=hL.1;simp only[Rep] at hx;obtain⟨us,rfl,hx⟩:=hx;exact fin hx h fun x tn hh=>hh.agg hk
  |_=>simp only[gatherM] at h;exact other hL.1 h
 |.bx k::ps,x::as,ts,K,r,v::vs,d,h,hL=>by
  simp only[RepL] at hL;simp only[gatherM] at h;split at h
  ·rename_i t c;obtain⟨rfl,h⟩:=ifEq_yes h;obtain⟨hm,h⟩:=ifT_no h;have hm:=memN_no hm;split at h
   ·rename_i cs hH;split at h
    ·rename_i y hy;obtain⟨inf,hinf,hrow⟩:=hS.rows t _ hH;have hx:=hL.1;simp only[Rep,hinf] at hx;cases inf with
     |arr=>exact hrow.elim
     |box b n=>
      have hx:v=.pointer (some ⟨b,0,none⟩):=hx;obtain⟨xs,t2,g1,g2,g3,g4⟩:=gatherM_ok hS (d+1) h hL.2;have hrow':=hrow;obtain⟨e1,e2,us,e3,e4⟩:=hrow';obtain⟨v1,v2,rfl,f1,f2⟩:=hS.toTs hy e3;have:v2=[]:=List.length_eq_zero_iff.1 f2.length.symm;subst this;rw[List.append_nil] at e3 e4;have hone:Lent P w (WrOf Wr0 S.heap I) S.heap I [.ptr (d*16) 0] [v] [(d*16,.box (k.leaves y))] [t]:=by
       refine⟨rfl, ?_, ?_⟩
       ·intro p hp;simp only[List.zip_cons_cons,List.zip_nil_right,List.mem_singleton] at hp;subst hp;refine⟨_,_,hH,hinf,trivial,hrow,fun J=>⟨?_,e2,v1,leaves_rep f1,e4⟩⟩;rw[e1,e3.length,(leaves_rep (P:=P) (I:=J) f1).length]
       ·intro J hJ;have e:=hJ ((d*16,.box (k.leaves y)),t) (by simp);have e:J (d*16)=I t:=e;simp only[RepL,Rep,e,hinf];exact⟨hx,trivial⟩
      refine⟨(y,xs),t::t2, ?_,hone.app g2, ?_, ?_⟩
      ·rw[appA_eq,List.append_assoc] at g1;exact g1
      ·intro t' ht
       rcases List.mem_cons.1 ht with rfl|ht
       ·exact hm
       ·exact fun hm=>g3 t' ht (by rw[appA_eq];exact List.mem_append_left _ hm)
      ·rw[List.nodup_cons];exact⟨fun hh=>g3 t hh (by rw[appA_eq];simp),g4⟩
    ·cases h
   ·cases h
  ·cases h
end
end Go.Proofs.YthkflageghfbgaaGreatDoor.Am
/- A call that writes into what is handed in. -/
namespace Go.Proofs.YthkflageghfbgaaGreatDoor.Am
open Go Go.RowKit
section
theorem zip_left{α β:Type}:∀{l:List α} {m:List β},l.length=m.length→∀x∈l,∃y,(x,y)∈l.zip m
 |[],_,_,x,h=>by cases h
 |_::_,[],h,_,_=>by simp at h
 |a::l,b::m,h,x,hx=>by
  rcases List.mem_cons.1 hx with rfl|hx
  ·exact⟨b,by simp⟩
  ·obtain⟨y,hy⟩:=zip_left (l:=l) (m:=m) (by simpa using h) x hx;exact⟨y,by simp[hy]⟩
theorem zip_right{α β:Type}:∀{l:List α} {m:List β},l.length=m.length→∀y∈m,∃x,(x,y)∈l.zip m
 |_,[],_,y,h=>by cases h
 |[],_::_,h,_,_=>by simp at h
 |a::l,b::m,h,y,hy=>by
  rcases List.mem_cons.1 hy with rfl|hy
  ·exact⟨a,by simp⟩
  ·obtain⟨x,hx⟩:=zip_right (l:=l) (m:=m) (by simpa using h) y hy;exact⟨x,by simp[hx]⟩
theorem zip_mem{α β:Type}:∀{l:List α} {m:List β} {x:α} {y:β},(x,y)∈l.zip m→x∈l∧y∈m
 |[],_,_,_,h=>by simp at h
 |_::_,[],_,_,h=>by simp at h
 |a::l,b::m,x,y,h=>by
  rw[List.zip_cons_cons] at h
  rcases List.mem_cons.1 h with h|h
  ·obtain⟨rfl,rfl⟩:=Prod.mk.inj h;simp
  ·have:=zip_mem h;exact⟨List.mem_cons_of_mem _ this.1,List.mem_cons_of_mem _ this.2⟩
/-- the same place in two lists with the same keys -/
theorem zip_keys{α β γ:Type}{f:α→γ}{g:β→γ}{T:Type}:∀{l:List α} {m:List β} {n:List T},l.map f=m.map g→n.Nodup→∀{x:α} {y:β} {t:T},(x,t)∈l.zip n→(y,t)∈m.zip n→f x=g y
 |[],_,_,_,_,_,_,_,h,_=>by simp at h
 |_::_,[],_,hk,_,_,_,_,_,_=>by simp at hk
 |_::_,_::_,[],_,_,_,_,_,h,_=>by simp at h
 |a::l,b::m,c::n,hk,hn,x,y,t,h,k=>by
  rw[List.map_cons,List.map_cons] at hk;obtain⟨e1,e2⟩:=List.cons.inj hk;rw[List.nodup_cons] at hn;rw[List.zip_cons_cons] at h k
  rcases List.mem_cons.1 h with h1|h1
  ·obtain⟨rfl,rfl⟩:=Prod.mk.inj h1
   rcases List.mem_cons.1 k with k1|k1
   ·obtain⟨rfl,_⟩:=Prod.mk.inj k1;exact e1
   ·exact absurd (zip_mem k1).2 hn.1
  ·rcases List.mem_cons.1 k with k1|k1
   ·obtain⟨rfl,rfl⟩:=Prod.mk.inj k1;exact absurd (zip_mem h1).2 hn.1
   ·exact zip_keys e2 hn.2 h1 k1
theorem setRows_out:∀{ts:List Nat} {rs:List (Nat×Row)} {H:Nat→Option Row} {p:Nat},p∉ts→setRows H ts rs p=H p
 |[],_,_,_,_=>by simp[setRows]
 |_::_,[],_,_,_=>by simp[setRows]
 |t::ts,r::rs,H,p,h=>by
  rw[List.mem_cons,not_or] at h;simp only[setRows];rw[setRows_out h.2,ifEq_neg h.1]
theorem setRows_in:∀{ts:List Nat} {rs:List (Nat×Row)} {H:Nat→Option Row} {q:Nat×Row} {t:Nat},ts.Nodup→(q,t)∈rs.zip ts→setRows H ts rs t=some q.2
 |[],rs,_,_,_,_,h=>by simp at h
 |_::_,[],_,_,_,_,h=>by simp at h
 |u::ts,r::rs,H,q,t,hn,h=>by
  rw[List.nodup_cons] at hn;rw[List.zip_cons_cons] at h;simp only[setRows]
  rcases List.mem_cons.1 h with h|h
  ·obtain⟨rfl,rfl⟩:=Prod.mk.inj h;rw[setRows_out hn.1,ifEq_pos rfl]
  ·exact setRows_in hn.2 h
end
section
variable {P : Pg} {Wr0 : Base} {w0 : World} {S : St} {I : Info} {a : Act} {w : World} {E : Env} {o : Oper} {R : Type} {K : St → Option R} {r : R}
theorem lastFn_snoc:∀{l:List Operand} {h:Nat},lastFn l=some h→l=initA l++[.func h]
 |[],_,e=>by cases e
 |[x],h,e=>by
  unfold lastFn at e;split at e
  ·cases e
  ·rename_i h' e';obtain rfl:=Option.some.inj e;obtain⟨rfl,_⟩:=List.cons.inj e';rfl
  ·rename_i x' l' hne e';obtain⟨rfl,rfl⟩:=List.cons.inj e';cases e
 |x::y::l,h,e=>by
  have e:lastFn (y::l)=some h:=by
   unfold lastFn at e;split at e
   ·cases e
   ·rename_i h' e';cases e'
   ·rename_i x' l' hne e';obtain⟨rfl,rfl⟩:=List.cons.inj e';exact e
  have:=lastFn_snoc e;show x::y::l=x::(initA (y::l)++[.func h]);rw[←this]
theorem faOk_spec{f0 f:FnM}{o:Op}{g:Nat}{args:Array Operand}{tys:Array TypeId}(ho:o=.call {callee:=.value (.func g),args:=args,argTypes:=tys})(h:faOk f0 args.toList=some f):
  f0=f∧∀a:Act,((margsOf f o).map a.eval++faV f.fa).toArray=args.map a.eval:=by
 unfold faOk at h;split at h
 ·rename_i e;obtain rfl:=Option.some.inj h;refine⟨rfl,fun a=> ?_⟩;unfold margsOf;rw[e,ho];exact Array.ext' (by simp[argsOf,faV])
 ·rename_i h0 e;split at h
  case h_2=>cases h
  rename_i h' e2
  by_cases e3:h'=h0
  ·rw[ifEq_pos e3] at h;subst e3;obtain rfl:=Option.some.inj h;refine⟨rfl,fun a=> ?_⟩;unfold margsOf;rw[e,ho];have e4:=lastFn_snoc e2;refine Array.ext' ?_;show(initA args.toList).map a.eval++[.func (.func h') #[] #[]]=(args.map a.eval).toList;rw[Array.toList_map]
   conv=>rhs;rw[e4]
   simp[Act.eval]
  ·rw[ifEq_neg e3] at h;cases h
theorem callM_step(hF:FnsOk P E){f:FnM}(hm:msOf E o.op=some f)(h:callM f o.dst S (mapA S.eval (margsOf f o.op)) K=some r):StepSim P Wr0 w0 o S K r:=by
 intro I a w hS;unfold msOf at hm;split at hm
 case h_2=>cases hm
 rename_i g args tys ho;split at hm
 case h_2=>cases hm
 rename_i f0 hm0;obtain⟨rfl,e3⟩:=faOk_spec ho hm;obtain⟨hok,hnd,fn,hfn,hname,hbody⟩:=hF.ms g f0 hm0;generalize margsOf f0 o.op=as at h e3;unfold callM at h;simp only at h;have hS1:=hS.sealVs (sealsM S.heap f0.ps (mapA S.eval as));generalize hH:Am.sealVs S.heap (sealsM S.heap f0.ps (mapA S.eval as))=H at h hS1;have hev:=evals_rep hS1 as;obtain⟨xs,tn,h1,hL,_,hnd2⟩:=gatherM_ok hS1 12500 h hev;rw[List.nil_append] at h1;obtain⟨y,hy,h2⟩:=Option.bind_eq_some_iff.1 h1;obtain⟨h3,h4⟩:=got_some h2;refine⟨_,h3,fun next Q hnx=>wp_enter hfn hname hbody ho ?_⟩;have hnodup:((rowsM 12500 f0.ps xs).map (·.1)).Nodup:=by rw[rowsM_toks];exact nodupN_nd hnd
 generalize hrows:rowsM 12500 f0.ps xs=rows at hL hnodup
 let infos:=(rows.zip tn).map fun p=>(p.1.1,(I p.2).getD (.box 0 0))
 let J:Info:=lookI infos (fun _=>none)
 have hkeys:infos.map (·.1)=rows.map (·.1):=by
  have:∀(l:List (Nat×Row)) (m:List Nat),l.length=m.length→((l.zip m).map fun p=>(p.1.1,(I p.2).getD (.box 0 0))).map (·.1)=l.map (·.1):=by
   intro l
   induction l with
   |nil=>intro m _;simp
   |cons x l ih=>
    intro m hm;cases m with
    |nil=>simp at hm
    |cons t m=>simp only[List.zip_cons_cons,List.map_cons];rw[ih m (by simpa using hm)]
  exact this rows tn hL.len
 have hJ:∀p∈rows.zip tn,J p.1.1=I p.2:=by
  intro p hp;obtain⟨r0,i,g1,g2,_⟩:=hL.each p hp;have:J p.1.1=some ((I p.2).getD (.box 0 0)):=lookI_in (infos:=infos) (by rw[hkeys];exact hnodup) (q:=(p.1.1,(I p.2).getD (.box 0 0))) (List.mem_map.2 ⟨p,hp,rfl⟩);rw[this,g2];rfl
 have hJ0:∀t,t∉rows.map (·.1)→J t=none:=fun t ht=>lookI_out (infos:=infos) (by rw[hkeys];exact ht);have hown:∀b,ownB J rows b→∃q t r0 i,(q,t)∈rows.zip tn∧H t=some r0∧I t=some i∧Whole r0∧RowRep P w (WrOf Wr0 H I) I r0 i∧i.block=some b:=by
  rintro b ⟨q,hq,i,g1,g2⟩;obtain⟨t,ht⟩:=zip_left hL.len q hq;obtain⟨r0,i',k1,k2,k3,k4,_⟩:=hL.each _ ht;have:=hJ _ ht;simp only at this k2;rw[g1,k2] at this;obtain rfl:=Option.some.inj this;exact⟨q,t,r0,i,ht,k1,k2,k3,k4,g2⟩
 have hownO:∀b o,ownB J rows b→WrOf Wr0 H I b o:=by
  intro b o hb;obtain⟨q,t,r0,i,g1,g2,g3,g4,g5,g6⟩:=hown b hb;exact .inr ⟨t,r0,i,g2,g3,g4.owns g5 g6 o⟩
 let W:WrP:=fun b o=>WrOf Wr0 H I b o∧¬ownB J rows b
 have hW:∀b o,wrM W J rows b o↔WrOf Wr0 H I b o:=by
  intro b o;constructor
  ·rintro(g|g)
   ·exact g.1
   ·exact hownO b o g
  ·intro g
   by_cases hb:ownB J rows b
   ·exact .inr hb
   ·exact .inl ⟨g,hb⟩
 have hk1:Keep w (WrOf Wr0 H I) w (wrM W J rows):=⟨fun b o v g1 g2=>⟨g1,fun g3=>g2 ((hW b o).1 g3)⟩⟩;have hini:IniM P w W J f0.ps xs (as.map a.eval):=by
  refine⟨?_, ?_, ?_, ?_, ?_, ?_,hS.tab, ?_⟩
  ·rw[hrows];exact(hL.vals J hJ).keep hk1 (InfoLe.refl J)
  ·rw[hrows];intro q hq;obtain⟨t,ht⟩:=zip_left hL.len q hq;obtain⟨r0,i,k1,k2,k3,k4,k5⟩:=hL.each _ ht;refine⟨i,by rw[hJ _ ht];exact k2,(k5 J).keep hk1 (InfoLe.refl J) fun _ _ _=>rfl⟩
  ·rw[hrows];exact hJ0
  ·rw[hrows];intro q hq q' hq' i i' b g1 g2 g3 g4;obtain⟨t,ht⟩:=zip_left hL.len q hq;obtain⟨t',ht'⟩:=zip_left hL.len q' hq';obtain⟨r0,j,k1,k2,k3,k4,k5⟩:=hL.each _ ht;obtain⟨r1,j',m1,m2,m3,m4,m5⟩:=hL.each _ ht';have e1:=hJ _ ht;have e2:=hJ _ ht';simp only at e1 e2 k1 k2 m1 m2;rw[e1] at g1;rw[e2] at g2;have:t=t':=hS1.inj t t' r0 r1 i i' b k1 k3.alive m1 m3.alive g1 g2 g3 g4;subst this;exact zip_keys rfl hnd2 ht ht'
  ·rw[hrows];intro q hq i b g1 g2;obtain⟨t,ht⟩:=zip_left hL.len q hq;obtain⟨r0,j,k1,k2,k3,k4,k5⟩:=hL.each _ ht;have e1:=hJ _ ht;simp only at e1 k1 k2;rw[e1] at g1;exact⟨(hS1.fresh t r0 i b k1 k3.alive g1 g2).2,fun o ho=>ho.2 ⟨q,hq,i,by rw[e1];exact g1,g2⟩⟩
  ·rintro b o ⟨g,_⟩
   rcases g with g|⟨t,q,i,g1,g2,g3⟩
   ·exact Nat.lt_of_lt_of_le (hS.wr0.1 b o g).1 hS.below.size
   ·exact(hS1.fresh t q i b g1 g3.alive g2 g3.block).2
  ·rw[hrows];intro q hq i b g1 g2 hb;obtain⟨t,ht⟩:=zip_left hL.len q hq;obtain⟨r0,j,k1,k2,k3,k4,k5⟩:=hL.each _ ht;have e1:=hJ _ ht;simp only at e1 k1 k2;rw[e1] at g1;exact hS.wr0.2.2 b hb (hS1.fresh t r0 i b k1 k3.alive g1 g2).1
 have hcall:=hok xs y hy w W J _ hini;rw[e3 a] at hcall;refine hcall.mono fun e w' he=> ?_;obtain⟨us,bs,rfl,hB,hR,hO⟩:=he;rw[hrows] at hB hR hO;have hM:∀b,ownB J rows b→∃p r i,H p=some r∧I p=some i∧i.block=some b∧∀o,Owns r i b o:=by
  intro b hb;obtain⟨q,t,r0,i,g1,g2,g3,g4,g5,g6⟩:=hown b hb;exact⟨t,r0,i,g2,g3,g6,fun o=>g4.owns g5 g6 o⟩
 generalize hrows':rowsM 12500 f0.ps (mergeM f0.ps xs y.2)=rows' at hR h3 h4 h2 hnx;have hkeys':rows'.map (·.1)=rows.map (·.1):=by rw[←hrows,←hrows',rowsM_toks,rowsM_toks]
 have hlen':rows'.length=tn.length:=by
  have:=congrArg List.length hkeys';simp only[List.length_map] at this;rw[this];exact hL.len
 have hdom:∀p,H p=none→setRows H tn rows' p=none:=by
  intro p hp;rw[setRows_out]
  ·exact hp
  ·intro hm;obtain⟨q,hq⟩:=zip_right hL.len p hm;obtain⟨r0,i,k1,_⟩:=hL.each _ hq;simp only at k1;rw[hp] at k1;cases k1
 have hold:∀bs',(∀b,b∈bs'→b∈bs)→∀p r,H p=some r→∃r',setRows H tn rows' p=some r'∧((r'=r∧∀i b,I p=some i→r≠ .dead→i.block=some b→¬ownB J rows b)∨
   (r≠ .dead∧r'≠ .dead∧(∀i b o,I p=some i→Owns r' i b o→Owns r i b o)∧∃i,I p=some i∧∀J',InfoLe I J'→RowRep P w' (withB (wrM W J rows) bs') J' r' i)):=by
  intro bs' hbs' p r1 hp
  by_cases hpt:p∈tn
  ·obtain⟨q,hq⟩:=zip_right hL.len p hpt;obtain⟨q',hq'⟩:=zip_right hlen' p hpt;obtain⟨r0,i,k1,k2,k3,k4,k5⟩:=hL.each _ hq;simp only at k1 k2;rw[hp] at k1;obtain rfl:=Option.some.inj k1;have hq'm:=(zip_mem hq').1;have hwh:Whole q'.2:=rowsM_whole 12500 f0.ps (mergeM f0.ps xs y.2) q' (by rw[hrows'];exact hq'm);obtain⟨i',m1,m2⟩:=hR q' hq'm;have e:q'.1=q.1:=zip_keys hkeys' hnd2 hq' hq;have e2:=hJ _ hq;simp only at e2;rw[e,e2,k2] at m1;obtain rfl:=Option.some.inj m1;refine⟨q'.2,setRows_in hnd2 hq',.inr ⟨k3.alive,hwh.alive, ?_,i,k2,fun J' _=> ?_⟩⟩
   ·intro j b o g1 g2;rw[k2] at g1;obtain rfl:=Option.some.inj g1;exact k3.owns k4 g2.block o
   ·have:=rowsM_any (J:=J') 12500 f0.ps (mergeM f0.ps xs y.2) q' (by rw[hrows'];exact hq'm) i m2;refine this.keep ⟨fun b o v g1 g2=>⟨g1,fun g3=>g2 ?_⟩⟩ (InfoLe.refl _) fun _ _ _=>rfl
    rcases g3 with g3|g3
    ·exact .inl g3
    ·exact .inr (hbs' b g3)
  ·refine⟨r1,by rw[setRows_out hpt];exact hp,.inl ⟨rfl,fun i b g1 g2 g3 hb=> ?_⟩⟩;obtain⟨q,t,r0,j,k1,k2,k3,k4,k5,k6⟩:=hown b hb;have:p=t:=hS1.inj p t r1 r0 i j b hp g2 k2 k4.alive g1 k3 g3 k6;subst this;exact hpt (zip_mem k1).2
 have hWr:∀b o,WrOf Wr0 H I b o→wrM W J rows b o:=fun b o g=>(hW b o).2 g;have flat:∀{avs:List AVal} {vs:List Value},(∀J',RepL P w' (withB (wrM W J rows) []) J' avs vs)→
   ∃I',Sim P Wr0 w0 {S with heap:=setRows H tn rows'} I' a w'∧RepL P w' (WrOf Wr0 (setRows H tn rows') I') I' avs vs:=by
  intro avs vs hv;exact hS1.thawedM (S:={S with heap:=H}) (H1:=setRows H tn rows') (rows:=[]) hB hM hdom (hold [] (by simp)) (Thawed.flat (lo:=0) hv) hWr rfl List.nodup_nil (by simp)
 refine⟨_,rfl, ?_⟩;cases hfo:f0.own with
 |false=>
  rw[hfo] at hO;obtain⟨rfl,hO⟩:=hO;obtain⟨I',g1,g2⟩:=flat (avs:=asIs f0.outs y.1) (vs:=us) (fun J'=>by
   refine(asIs_rep (P:=P) (I:=J') hO).keep ⟨fun b o v g1 g2=>⟨g1,fun g3=>g2 ?_⟩⟩ (InfoLe.refl _)
   rcases g3 with g3|g3
   ·exact g3
   ·cases g3)
  have:=g1.put (one_rep g2) o.dst;refine hnx I' _ _ ?_;simp only[hfo,St.gotS];exact this
 |true=>
  rw[hfo] at hO;obtain⟨h5,h6,h7⟩:=hO;cases hd:o.dst with
  |none=>
   obtain⟨I',g1,g2⟩:=flat (avs:=[]) (vs:=[]) (fun J'=>by simp only[RepL]);refine hnx I' _ _ ?_;simp only[hfo,hd,St.gotS];exact g1
  |some d'=>
   obtain⟨infos2,hi,hT⟩:=thaws_ok (P:=P) d' h5 0;obtain⟨I',g1,g2⟩:=hS1.thawedM (S:={S with heap:=H}) (H1:=setRows H tn rows') hB hM hdom (hold bs fun _ h=>h) hT hWr (h4 d' hfo hd) h6 h7;have:=g1.put (one_rep g2) (some d');refine hnx I' _ _ ?_;simp only[hfo,hd,St.gotS];exact this
theorem conv_step(hE:TysOk P E){x:Operand}(hx:convOf E o.op=some x){xs:List Int}(hxs:toT false S.heap (.sl (.int .u8)) (S.eval x)=some xs)(h:K (S.put o.dst (.v .str (strOfNums xs)))=some r):StepSim P Wr0 w0 o S K r:=by
 intro I a w hS;unfold convOf at hx;split at hx
 case h_2=>cases hx
 rename_i s d x' ho;split at hx
 case h_2=>cases hx
 rename_i hs;split at hx
 case h_2=>cases hx
 rename_i hd;obtain rfl:=Option.some.inj hx;obtain⟨ds,hs1,hs2⟩:=kdOf_spec hs;obtain⟨dd,hd1,hd2⟩:=kdOf_spec hd;obtain⟨us,hus,hsl⟩:=(hE s ds hs1).ut;obtain⟨ud,hud,hst⟩:=(hE d dd hd1).ut;have hud:P.p.underlying d=some .string:=by
  cases ud<;>simp_all [UtOk,Kd.isAgg]
 have hus:∃e,P.p.underlying s=some (.slice e)∧P.p.underlying e=some (.int .u8):=by
  cases us
  case slice e=>
   refine⟨e,hus,hsl.2.2.2.2.2.2 .u8 ?_⟩;have:=hsl.2.1;rw[hs2] at this;exact(Kd.sl.inj this).symm
  all_goals simp_all [UtOk,Kd.isAgg]
 obtain⟨e,he1,he2⟩:=hus;have hv:=hS.toT hxs (hS.eval x');obtain⟨cs,hc,hv⟩:=hv;simp only[RepC] at hc;obtain⟨A,cap,rfl,hcap,hm⟩:=hc;have hv:a.eval x'=.slice A xs.length cap:=hv;have hrun:(execOp a.eval o).run P w=.ok (.value (.string (strOfNums xs))) w:=by
  have hcv:(convert s d (.slice A xs.length cap)).run P w=.ok (.string (strOfNums xs)) w:=by
   rcases hm with rfl|⟨b,off,rfl,hcell⟩
   ·cases A with
    |none=>
     rw[run_convert_bytes_nil w s e he1 he2 _ cap d hud];rfl
    |some q=>
     rw[run_convert_bytes_string w s d e _ _ cap he1 he2 hud];exact run_bytesToString w q 0 cap [] rfl
   ·refine run_convert_bytes_arg w s e he1 he2 b off _ cap xs rfl (fun i hi=> ?_) d hud;obtain⟨cs',g1,g2⟩:=hcell i hi;have g1:cs'=[.int .u8 (xs.get ⟨i,hi⟩)]:=g1;subst g1;have:=(g2 0 (by simp)).1;simp only[Kd.size,Nat.mul_one,Nat.add_zero,List.getElem_cons_zero] at this;rw[this];simp[List.getD,List.getElem?_eq_getElem hi]
  unfold execOp;simp only[ho,hv,Sem.run_bind,hcv,Result.andThen];rfl
 exact⟨_,h,fun next Q hn=>wp_value hrun (hn _ _ _ (hS.put (rep_str.2 rfl) _))⟩
theorem nil_step(hE:TysOk P E){x:Operand}(hx:nilOf E o.op=some x)(h:nilK S o.dst (S.eval x) K=some r):StepSim P Wr0 w0 o S K r:=by
 intro I a w hS;unfold nilOf at hx;split at hx
 case h_2=>cases hx
 rename_i t x' n c yt ho;split at hx
 case h_2=>cases hx
 rename_i k hk;obtain rfl:=Option.some.inj hx;have hv:=hS.eval x';unfold nilK at h;split at h
 case h_2=>cases h
 rename_i k' xs hev;rw[hev] at hv;obtain⟨dt,ht1,ht2⟩:=kdOf_spec hk;obtain⟨ut,hut,hsl⟩:=(hE t dt ht1).ut;have hut:∃e,P.p.underlying t=some (.slice e):=by
  cases ut
  case slice e=>exact⟨e,hut⟩
  all_goals simp_all [UtOk,Kd.isAgg]
 obtain⟨e,he⟩:=hut;obtain⟨cs,hc,hv⟩:=hv;simp only[RepC] at hc;obtain⟨A,cap,rfl,hcap,hm⟩:=hc;have hv:a.eval x'=.slice A (List.length (α:=k'.T) xs) cap:=hv;have hrun:(execOp a.eval o).run P w=.ok (.value (.bool A.isNone)) w:=by
  have hb:=Lib.run_eql_slice_nil (P:=P) w t e A (List.length (α:=k'.T) xs) cap n c he;have hg:∀p q:Operand,(eqGuard .eql t p q (.slice A (List.length (α:=k'.T) xs) cap) (.slice none n c)).run P w=.ok () w:=fun p q=>rfl;have hev2:a.eval (.const (.slice none n c))=.slice none n c:=rfl;unfold execOp;simp only[ho,hv,hev2,Sem.run_bind,hg,hb,Result.andThen];rfl
 have hK:K (S.put o.dst (.v .bool A.isNone))=some r:=by
  unfold ifSame at h;split at h
  ·rename_i heq;cases A.isNone with
   |true=>exact h
   |false=>rw[←heq];exact h
  ·unfold nilE at h;cases hxs:List.isEmpty (α:=k'.T) xs with
   |true=>rw[hxs] at h;cases h
   |false=>
    rw[hxs] at h
    rcases hm with rfl|⟨b,off,rfl,_⟩
    ·cases hxs
    ·exact h
 exact⟨_,hK,fun next Q hn=>wp_value hrun (hn _ _ _ (hS.put (rep_bool.2 rfl) _))⟩
end
end Go.Proofs.YthkflageghfbgaaGreatDoor.Am
/- Function values. -/
namespace Go.Proofs.YthkflageghfbgaaGreatDoor.Am
open Go Go.RowKit
section
variable {P : Pg} {Wr0 : Base} {w0 : World} {S : St} {I : Info} {a : Act} {w : World} {E : Env} {o : Oper} {R : Type} {K : St → Option R} {r : R}
theorem capT_ok(hS:Sim P Wr0 w0 S I a w){k:Kd}{c:AVal}{y:k.T}{v:Value}(h:capT S.heap k c=some y)(hc:Rep P w (WrOf Wr0 S.heap I) I c v):
  ∃b off cs,v=.pointer (some ⟨b,off,none⟩)∧RepC w noWr k cs y∧MemAt w noWr b off cs:=by
 unfold capT at h;split at h
 ·rename_i t c0;obtain⟨rfl,h⟩:=ifEq_yes h;split at h
  ·rename_i cs hH;split at h
   ·rename_i z hz;obtain rfl:=Option.some.inj h;obtain⟨inf,hinf,hrow⟩:=hS.rows t _ hH;simp only[Rep,hinf] at hc;cases inf with
    |arr=>exact hrow.elim
    |box b n=>
     have hc:v=.pointer (some ⟨b,0,none⟩):=hc;obtain⟨e1,e2,us,e3,e4⟩:=hrow;obtain⟨v1,v2,rfl,f1,f2⟩:=hS.toTs (st:=false) hz e3;have:v2=[]:=List.length_eq_zero_iff.1 f2.length.symm;subst this;rw[List.append_nil] at e3 e4;exact⟨b,0,v1,hc,f1,fun j hj=>⟨by rw[Nat.zero_add];exact e4 j hj,id⟩⟩
   ·cases h
  ·cases h
 ·rename_i k' y';obtain⟨e,rfl⟩:=castK_some h;subst e;simp only[Rep] at hc;obtain⟨b,off,cs,h1,h2,h3⟩:=hc;exact⟨b,off,cs,h1,h2.keep (Keep.no _ _),h3.keep (Keep.no _ _)⟩
 ·cases h
theorem capsT_ok(hS:Sim P Wr0 w0 S I a w):∀{ps:List Prm} {ki:List Kd} {caps:List AVal} {cvs:List Value} {m:KsT ki→PrmsT ps},capsT S.heap ps ki caps=some m→RepL P w (WrOf Wr0 S.heap I) I caps cvs→
  ∀w',Keep w noWr w' noWr→∀vs x,RepKs w' noWr ki vs x→RepPs P w' noWr ps (vs++cvs) (m x)
 |[],[],[],cvs,m,h,hL=>by
  intro w' hk vs x hx;simp only[RepKs] at hx;subst hx;simp only[RepPs];exact List.length_eq_zero_iff.1 hL.length.symm
 |[],[],_::_,_,_,h,_=>by simp[capsT] at h
 |[],_::_,_,_,_,h,_=>by simp[capsT] at h
 |.v k::ps,[],_,_,_,h,_=>by simp[capsT] at h
 |.clo _ _::_,_::_,_,_,_,h,_=>by simp[capsT] at h
 |.clo _ _::_,[],[],_,_,h,_=>by simp[capsT] at h
 |.clo ki ko::ps,[],c::caps,[],m,h,hL=>by simp only[RepL] at hL
 |.clo ki ko::ps,[],c::caps,v::cvs,m,h,hL=>by
  simp only[RepL] at hL;cases c<;>try (simp[capsT] at h;done)
  rename_i ki' ko' φ;simp only[capsT] at h;split at h
  ·rename_i e;obtain⟨e1,e2⟩:=e;subst e1;subst e2;split at h
   ·rename_i m' hm;obtain rfl:=Option.some.inj h;intro w' hk vs x hx;have hx0:=hx;simp only[RepKs] at hx;subst hx;have hL1:=hL.1;simp only[Rep] at hL1;simp only[RepPs,List.nil_append];exact⟨v,cvs,rfl,(hL1.keep (Keep.no _ _)).keep hk,capsT_ok hS hm hL.2 w' hk [] x hx0⟩
   ·cases h
  ·cases h
 |.cap _::_,_::_,_,_,_,h,_=>by simp[capsT] at h
 |.cap _::_,[],[],_,_,h,_=>by simp[capsT] at h
 |.v k::ps,k'::ki,caps,cvs,m,h,hL=>by
  simp only[capsT] at h;split at h
  ·rename_i e;subst e;split at h
   ·rename_i m' hm;obtain rfl:=Option.some.inj h;intro w' hk vs x hx;simp only[RepKs] at hx;obtain⟨v,us,rfl,h1,h2⟩:=hx;simp only[RepPs];exact⟨v,us++cvs,rfl,h1,capsT_ok hS hm hL w' hk us x.2 h2⟩
   ·cases h
  ·cases h
 |.cap k::ps,[],c::caps,[],m,h,hL=>by simp only[RepL] at hL
 |.cap k::ps,[],c::caps,v::cvs,m,h,hL=>by
  simp only[RepL] at hL;simp only[capsT] at h;split at h
  ·rename_i y hy;split at h
   ·rename_i m' hm;obtain rfl:=Option.some.inj h;obtain⟨b,off,cs,e1,e2,e3⟩:=capT_ok hS hy hL.1;intro w' hk vs x hx;have hx0:=hx;simp only[RepKs] at hx;subst hx;simp only[RepPs,List.nil_append];exact⟨v,cvs,rfl,⟨b,off,cs,e1,e2.keep hk,e3.keep hk⟩,capsT_ok hS hm hL.2 w' hk [] x hx0⟩
   ·cases h
  ·cases h
theorem own_flat{w:World}{Wr:WrP}:∀{k:Kd} {cs:List Value} {x:k.T} {bs:List Nat},k.flat=true→OwnC w Wr k cs x bs→RepC w noWr k cs x
 |.int _,_,_,_,_,h=>h.1
 |.bool,_,_,_,_,h=>h.1
 |.str,_,_,_,_,h=>h.1
 |.err,_,_,_,_,h=>h.1
 |.unit,_,_,_,_,h=>h.1
 |.sl _,_,_,_,hf,_=>by cases hf
 |.pt,_,_,_,hf,_=>by cases hf
 |.pair p q,_,_,_,hf,h=>by
  simp only[Kd.flat] at hf;obtain⟨hp,hq⟩:=ifT_both' hf;simp only[OwnC] at h;obtain⟨c1,c2,b1,b2,rfl,rfl,h1,h2⟩:=h;simp only[RepC];exact⟨c1,c2,rfl,own_flat hp h1,own_flat hq h2⟩
where
 ifT_both' {a b:Bool} (h:ifT a b false=true):a=true∧b=true:=by
  cases a with
  |true=>exact⟨rfl,h⟩
  |false=>cases h
theorem flat_flat1:∀{k:Kd},k.flat=true→k.flat1=true
 |.int _,_=>rfl
 |.bool,_=>rfl
 |.str,_=>rfl
 |.err,_=>rfl
 |.unit,_=>rfl
 |.sl _,h=>by cases h
 |.pt,h=>by cases h
 |.pair a b,h=>by
  simp only[Kd.flat] at h;obtain⟨h1,h2⟩:=own_flat.ifT_both' h;show ifT a.flat1 b.flat1 false=true;rw[flat_flat1 h1,flat_flat1 h2];rfl
/-- what is new is touched by nobody who stood before -/
theorem own_new{w:World}{n:Nat}{Wr:WrP}:∀{k:Kd} {cs:List Value} {x:k.T} {bs:List Nat},k.flat1=true→(∀b∈bs,n≤b)→OwnC w Wr k cs x bs→RepC w (fun b _=>b<n) k cs x
 |.int _,_,_,_,_,_,h=>h.1
 |.bool,_,_,_,_,_,h=>h.1
 |.str,_,_,_,_,_,h=>h.1
 |.err,_,_,_,_,_,h=>h.1
 |.unit,_,_,_,_,_,h=>h.1
 |.pt,_,_,_,hf,_,_=>by cases hf
 |.sl k,_,xs,bs,hf,hb,h=>by
  obtain⟨A,cap,rfl,hc,h⟩:=h;simp only[RepC];refine⟨A,cap,rfl,hc, ?_⟩
  rcases h with⟨h0,h1,h2⟩|⟨b,base,N,rfl,rfl,h3,h4,h5⟩
  ·exact .inl (List.length_eq_zero_iff.1 h0)
  ·right;refine⟨b,base,rfl,fun i hi=> ?_⟩;obtain⟨cs',h6,h7⟩:=h5 i hi;exact⟨cs',flat_rep hf h6,fun j hj=>⟨h7 j hj,fun hlt=>by have:=hb b (by simp);omega⟩⟩
 |.pair p q,_,_,_,hf,hb,h=>by
  obtain⟨hp,hq⟩:=own_flat.ifT_both' (show ifT p.flat1 q.flat1 false=true from hf);simp only[OwnC] at h;obtain⟨c1,c2,b1,b2,rfl,rfl,h1,h2⟩:=h;simp only[RepC];exact⟨c1,c2,rfl,own_new hp (fun b hb'=>hb b (List.mem_append.2 (.inl hb'))) h1,own_new hq (fun b hb'=>hb b (List.mem_append.2 (.inr hb'))) h2⟩
theorem capsN_ok{Wr:WrP}:∀{ps:List Prm} {ki:List Kd} {caps:List AVal} {cvs:List Value} {m:KsT ki→PrmsT ps},capsT (fun _=>none) ps ki caps=some m→RepL P w Wr I caps cvs→
  ∀w',Keep w Wr w' noWr→∀vs x,RepKs w' noWr ki vs x→RepPs P w' noWr ps (vs++cvs) (m x)
 |[],[],[],cvs,m,h,hL=>by
  intro w' hk vs x hx;simp only[RepKs] at hx;subst hx;simp only[RepPs];exact List.length_eq_zero_iff.1 hL.length.symm
 |[],[],_::_,_,_,h,_=>by simp[capsT] at h
 |[],_::_,_,_,_,h,_=>by simp[capsT] at h
 |.v k::ps,[],_,_,_,h,_=>by simp[capsT] at h
 |.clo _ _::_,_::_,_,_,_,h,_=>by simp[capsT] at h
 |.clo _ _::_,[],[],_,_,h,_=>by simp[capsT] at h
 |.clo ki ko::ps,[],c::caps,[],m,h,hL=>by simp only[RepL] at hL
 |.clo ki ko::ps,[],c::caps,v::cvs,m,h,hL=>by
  simp only[RepL] at hL;cases c<;>try (simp[capsT] at h;done)
  rename_i ki' ko' φ;simp only[capsT] at h;split at h
  ·rename_i e;obtain⟨e1,e2⟩:=e;subst e1;subst e2;split at h
   ·rename_i m' hm;obtain rfl:=Option.some.inj h;intro w' hk vs x hx;have hx0:=hx;simp only[RepKs] at hx;subst hx;have hL1:=hL.1;simp only[Rep] at hL1;simp only[RepPs,List.nil_append];exact⟨v,cvs,rfl,hL1.keep hk,capsN_ok hm hL.2 w' hk [] x hx0⟩
   ·cases h
  ·cases h
 |.cap _::_,_::_,_,_,_,h,_=>by simp[capsT] at h
 |.cap _::_,[],[],_,_,h,_=>by simp[capsT] at h
 |.v k::ps,k'::ki,caps,cvs,m,h,hL=>by
  simp only[capsT] at h;split at h
  ·rename_i e;subst e;split at h
   ·rename_i m' hm;obtain rfl:=Option.some.inj h;intro w' hk vs x hx;simp only[RepKs] at hx;obtain⟨v,us,rfl,h1,h2⟩:=hx;simp only[RepPs];exact⟨v,us++cvs,rfl,h1,capsN_ok hm hL w' hk us x.2 h2⟩
   ·cases h
  ·cases h
 |.cap k::ps,[],c::caps,[],m,h,hL=>by simp only[RepL] at hL
 |.cap k::ps,[],c::caps,v::cvs,m,h,hL=>by
  simp only[RepL] at hL;simp only[capsT] at h;split at h
  ·rename_i y hy;split at h
   ·rename_i m' hm;obtain rfl:=Option.some.inj h;have hL1:=hL.1;obtain⟨k',y',rfl,hy⟩:∃k' y',c=.fp k' y'∧castK (k:=k') (k':=k) y'=some y:=by
     unfold capT at hy;cases c<;>try (cases hy;done)
     ·obtain⟨_,hy⟩:=ifEq_yes hy;cases hy
     ·exact⟨_,_,rfl,hy⟩
    obtain⟨e,rfl⟩:=castK_some hy;subst e;simp only[Rep] at hL1;obtain⟨b,off,cs,e1,e2,e3⟩:=hL1;intro w' hk vs x hx;have hx0:=hx;simp only[RepKs] at hx;subst hx;simp only[RepPs,List.nil_append];exact⟨v,cvs,rfl,⟨b,off,cs,e1,e2.keep hk,e3.keep hk⟩,capsN_ok hm hL.2 w' hk [] x hx0⟩
   ·cases h
  ·cases h
theorem fnT_gen{H:Nat→Option Row}{Wr:WrP}{g:Nat}{f:FnA}(hok:FnOk P g f){ki:List Kd}{ko:Kd}(hfl:ifT ko.flat true (ifT f.own ko.flat1 false)=true){caps:List AVal}{cvs:List Value}{φ:KsT ki→Option ko.T}(h:fnT H f ki ko caps=some φ)(hL:∀m,capsT H f.ps ki caps=some m→∀w',Keep w Wr w' noWr→∀vs x,RepKs w' noWr ki vs x→RepPs P w' noWr f.ps (vs++cvs) (m x)):
  ∀w',Keep w Wr w' noWr→TabW P w'→∀x r,φ x=some r→∀vs,RepKs w' noWr ki vs x→
  Calls P g (vs.toArray++cvs.toArray) w' fun e w''=>∃v,e=.returned v∧BelowD P.s w'.heap.size w' w''∧RepV w'' (fun b _=>b<w'.heap.size) ko r v:=by
 unfold fnT at h;split at h
 ·rename_i ps own k F;split at h
  ·rename_i e;subst e;split at h
   ·rename_i m hm;obtain rfl:=Option.some.inj h;intro w' hk ht x r hr vs hx;have:=hok (m x) r hr w' noWr (vs++cvs) ⟨fun _ _ h=>h.elim,ht⟩ (hL m hm w' hk vs x hx);rw[←List.toArray_appendList,List.toArray_appendList] at*
    rw[show(vs++cvs).toArray=vs.toArray++cvs.toArray from by simp] at this;refine this.mono fun e w'' he=> ?_;obtain⟨us,rfl,hb,hO⟩:=he;cases own with
    |false=>
     obtain⟨v,rfl,hv⟩:=hO;have hfl:k.flat=true:=by
      cases e:k.flat with
      |true=>rfl
      |false=>rw[e] at hfl;cases hfl
     obtain⟨cs,h1,rfl⟩:=hv;exact⟨_,rfl,hb,cs,flat_rep hfl h1,rfl⟩
    |true=>
     obtain⟨bs,⟨v,rfl,cs,h1,rfl⟩,_,hbs⟩:=hO;have hfl:k.flat1=true:=by
      cases e:k.flat with
      |true=>exact flat_flat1 e
      |false=>rw[e] at hfl;exact hfl
     exact⟨_,rfl,hb,cs,own_new hfl (fun b hb'=>(hbs b hb').1) h1,rfl⟩
   ·cases h
  ·cases h
 ·cases h
theorem fnT_ok(hS:Sim P Wr0 w0 S I a w){g:Nat}{f:FnA}(hok:FnOk P g f){ki:List Kd}{ko:Kd}(hfl:ifT ko.flat true (ifT f.own ko.flat1 false)=true){caps:List AVal}{cvs:List Value}{φ:KsT ki→Option ko.T}(h:fnT S.heap f ki ko caps=some φ)(hL:RepL P w (WrOf Wr0 S.heap I) I caps cvs):
  ∀w',Keep w noWr w' noWr→TabW P w'→∀x r,φ x=some r→∀vs,RepKs w' noWr ki vs x→
  Calls P g (vs.toArray++cvs.toArray) w' fun e w''=>∃v,e=.returned v∧BelowD P.s w'.heap.size w' w''∧RepV w'' (fun b _=>b<w'.heap.size) ko r v:=by
 exact fnT_gen hok hfl h fun m hm=>capsT_ok hS hm hL
theorem cloT_ok(hS:Sim P Wr0 w0 S I a w)(hF:FnsOk P E){ki:List Kd}{ko:Kd}{x:AVal}{φ:KsT ki→Option ko.T}{v:Value}(hφ:cloT E S.heap ki ko x=some φ)(hx:Rep P w (WrOf Wr0 S.heap I) I x v):Clo P w noWr ki ko φ v:=by
 unfold cloT at hφ;split at hφ
 ·rename_i ki' ko' ψ;split at hφ
  ·rename_i e;obtain⟨e1,e2⟩:=e;subst e1;subst e2;obtain rfl:=Option.some.inj hφ;simp only[Rep] at hx;exact hx.keep (Keep.no _ _)
  ·cases hφ
 ·rename_i g caps;split at hφ
  ·rename_i f hf;obtain⟨hfl,hφ⟩:=ifT_some hφ;obtain⟨hfl,hd⟩:=own_flat.ifT_both' hfl;obtain⟨hok,hfn⟩:=hF.fn g f hf;simp only[Rep] at hx;obtain⟨cvs,rfl,hcs⟩:=hx;exact(Clo.of hd).2 ⟨g,cvs.toArray,rfl,hfn,fnT_ok hS hok hfl hφ hcs⟩
  ·cases hφ
 ·cases hφ
theorem gatherC_ok(hS:Sim P Wr0 w0 S I a w)(hF:FnsOk P E):∀{ps:List Prm} {xs:List AVal} {vs:List Value} {y:PrmsT ps},gatherC E S.heap ps xs=some y→RepL P w (WrOf Wr0 S.heap I) I xs vs→RepPs P w noWr ps vs y
 |[],[],vs,_,_,hL=>by
  simp only[RepPs];exact List.length_eq_zero_iff.1 hL.length.symm
 |[],_::_,_,_,h,_=>by simp[gatherC] at h
 |.v _::_,[],_,_,h,_=>by simp[gatherC] at h
 |.clo _ _::_,[],_,_,h,_=>by simp[gatherC] at h
 |.cap _::_,_,_,_,h,_=>by simp[gatherC] at h
 |.v k::ps,x::xs,[],_,_,hL=>by simp only[RepL] at hL
 |.clo _ _::ps,x::xs,[],_,_,hL=>by simp only[RepL] at hL
 |.v k::ps,x::xs,v::vs,y,h,hL=>by
  simp only[RepL] at hL;simp only[gatherC] at h;split at h
  ·rename_i z hz;split at h
   ·rename_i q hq;obtain rfl:=Option.some.inj h;simp only[RepPs];exact⟨v,vs,rfl,hS.toT (st:=false) hz hL.1,gatherC_ok hS hF hq hL.2⟩
   ·cases h
  ·cases h
 |.clo ki ko::ps,x::xs,v::vs,y,h,hL=>by
  simp only[RepL] at hL;simp only[gatherC] at h;split at h
  ·rename_i φ hφ;split at h
   ·rename_i q hq;obtain rfl:=Option.some.inj h;simp only[RepPs];refine⟨v,vs,rfl, ?_,gatherC_ok hS hF hq hL.2⟩;have hx:=hL.1;exact cloT_ok hS hF hφ hx
   ·cases h
  ·cases h
theorem callC_step(hF:FnsOk P E){f:FnA}(hm:cloOf E o.op=some f)(h:callC E f o.dst S (mapA S.eval (argsOf o.op)) K=some r):StepSim P Wr0 w0 o S K r:=by
 intro I a w hS;unfold cloOf at hm;split at hm
 case h_2=>cases hm
 rename_i g args tys ho;split at hm
 case h_2=>cases hm
 rename_i f' hf;split at hm
 case h_2=>cases hm
 obtain rfl:=Option.some.inj hm;obtain⟨hok,fn,hfn,hname,hbody⟩:=hF.fn g f' hf;rw[show argsOf o.op=args.toList from by rw[ho];rfl] at h;unfold callC at h;obtain⟨hl,h⟩:=ifT_some h;split at h
 ·cases h
 ·rename_i xs hg;obtain⟨y,hy,h⟩:=Option.bind_eq_some_iff.1 h;obtain⟨h1,h2⟩:=got_some h;have hps:=gatherC_ok hS hF hg (evals_rep hS args.toList);refine⟨_,h1,fun next Q hnx=>wp_enter hfn hname hbody ho ?_⟩;have:=hok xs y hy w noWr _ ⟨fun _ _ h=>h.elim,hS.tab⟩ hps;rw[show(args.toList.map a.eval).toArray=args.map a.eval from Array.ext' (by simp)] at this;refine this.mono fun e w' he=> ?_;obtain⟨us,rfl,hb,hO⟩:=he;have how:f'.own=true∧flats f'.outs=true:=by
   cases e:f'.own with
   |true=>rw[e] at hl;exact⟨rfl,hl⟩
   |false=>rw[e] at hl;cases hl
  have hO':Outs w w' (WrOf Wr0 S.heap I) f'.own f'.outs y us:=by
   rw[how.1] at hO⊢;obtain⟨bs,g1,g2,g3⟩:=hO;exact⟨bs,flats_own how.2 g1,g2,g3⟩
  obtain⟨J,hJ⟩:=got_sim (d:=o.dst) hS hb hO' h2;exact⟨_,rfl,hnx _ _ _ hJ⟩
theorem mkClo_rep(hS:Sim P Wr0 w0 S I a w)(hF:FnsOk P E){g:Nat}{vs:List AVal}{v:Value}(h:Rep P w (WrOf Wr0 S.heap I) I (.fn g vs) v):Rep P w (WrOf Wr0 S.heap I) I (mkClo E g vs) v:=by
 unfold mkClo;cases vs with
 |nil=>exact h
 |cons c l=>
  dsimp only
  cases hf:E.fn g with
  |none=>exact h
  |some f=>
   dsimp only
   split
   ·rename_i k ho;split
    ·rename_i φ hφ;simp only[Rep] at h⊢;obtain⟨cvs,rfl,hcs⟩:=h;unfold cloT at hφ;dsimp only at hφ;rw[hf] at hφ;dsimp only at hφ;obtain⟨hfl,hφ⟩:=ifT_some hφ;obtain⟨hfl,hd⟩:=own_flat.ifT_both' hfl;obtain⟨hok,hfn⟩:=hF.fn g f hf;exact(Clo.of hd).2 ⟨g,cvs.toArray,rfl,hfn,fnT_gen hok hfl hφ fun m hm=>capsN_ok hm hcs⟩
    ·exact h
   ·exact h
theorem mk_step{gc:Nat×List Operand}(hm:mkOf o.op=some gc)(hF:FnsOk P E)(h:K (S.put o.dst (mkClo E gc.1 (mapA S.eval gc.2)))=some r):StepSim P Wr0 w0 o S K r:=by
 intro I a w hS;unfold mkOf at hm;split at hm
 case h_2=>cases hm
 rename_i g first caps ho
 split at hm
 case h_2=>cases hm
 rename_i hfi;obtain rfl:=Option.some.inj hm;have hfi:first=#[]:=Array.ext' (by simpa using hfi)
 subst hfi;have hrun:(execOp a.eval o).run P w=.ok (.value (.func (.func g) #[] (caps.map a.eval))) w:=by
  unfold execOp;simp only[ho,Array.map_empty,Instr.makeFunc];rfl
 refine⟨_,h,fun next Q hn=>wp_value hrun (hn _ _ _ (hS.put ?_ _))⟩;have hfn:Rep P w (WrOf Wr0 S.heap I) I (.fn g (mapA S.eval caps.toList)) (.func (.func g) #[] (caps.map a.eval)):=by
  simp only[Rep];refine⟨caps.toList.map a.eval, ?_,evals_rep hS caps.toList⟩;rw[show(caps.toList.map a.eval).toArray=caps.map a.eval from Array.ext' (by simp)]
 exact mkClo_rep hS hF hfn
theorem callN_step(hF:FnsOk P E){f:FnB}(hm:bsOf E o.op=some f)(h:callN f o.dst S (mapA S.eval (argsOf o.op)) K=some r):StepSim P Wr0 w0 o S K r:=by
 intro I a w hS;unfold bsOf at hm;split at hm
 case h_2=>cases hm
 rename_i g args tys ho;obtain⟨hok,fn,hfn,hname,hbody⟩:=hF.bs g f hm;rw[show argsOf o.op=args.toList from by rw[ho];rfl] at h;unfold callN at h;have hS1:=hS.sealVs (mapA S.eval args.toList);split at h
 ·cases h
 ·rename_i xs hg;obtain⟨y,hy,h⟩:=Option.bind_eq_some_iff.1 h;obtain⟨d',hd,⟨hfr,hlt⟩,h1⟩:=St.new_spec h;have hps:=gather_ok hS1 hg (evals_rep hS1 args.toList);refine⟨_,h1,fun next Q hnx=>wp_enter hfn hname hbody ho ?_⟩;have hwl:∀b o,WrOf Wr0 (Am.sealVs S.heap (mapA S.eval args.toList)) I b o→b<w.heap.size:=by
   rintro b o (h3|⟨t,q,i,h3,h4,h5⟩)
   ·exact Nat.lt_of_lt_of_le (hS.wr0.1 b o h3).1 hS.below.size
   ·exact(hS1.fresh t q i b h3 h5.alive h4 h5.block).2
  have:=hok xs y hy w _ _ ⟨hwl,hS.tab⟩ hps;rw[show(args.toList.map a.eval).toArray=args.map a.eval from Array.ext' (by simp)] at this;refine this.mono fun e w' he=> ?_;obtain⟨b,cs,rfl,hb,hbb,hz,hc,hcell⟩:=he;refine⟨_,rfl, ?_⟩;have hl:=leaves_rep (P:=P) (I:=I) hc;have hlen:(f.k.leaves y).length=f.k.size:=by rw[hl.length,hc.length]
  have hadd:=hS1.add (S:={S with heap:=Am.sealVs S.heap (mapA S.eval args.toList)}) hb hfr hlt (r:=.box (f.k.leaves y)) (i:=.box b f.k.size) (fun b' e=>by obtain rfl:=Option.some.inj e;exact hbb) (by
   refine⟨hlen.symm,hz,cs, ?_,hcell⟩;refine(leaves_rep hc).keep ⟨fun b' o' v g1 g2=>⟨g1,fun g3=>g2 ?_⟩⟩ (InfoLe.refl _)
   rcases g3 with g3|⟨t,q,i,g3,g4,g5⟩
   ·exact .inl (.inl g3)
   ·by_cases e:t=d'*16
    ·subst e;simp only[Info.set,if_true] at g4;obtain rfl:=Option.some.inj g4;have:=g5.block;obtain rfl:=Option.some.inj this;exact .inr (List.mem_singleton.2 rfl)
    ·simp only[St.setH,ifEq_neg e] at g3;simp only[Info.set,if_neg e] at g4;exact .inl (.inr ⟨t,q,i,g3,g4,g5⟩))
  have hput:=hadd.1.put (x:=.ptr (d'*16) 0) (v:=.pointer (some ⟨b,0,none⟩)) (by simp only[Rep,Info.set,if_true]) o.dst;exact hnx _ _ _ hput
theorem put_same(a:Act)(p:Nat):a.put (some p) (a.eval (.tmp p))=a:=by
 obtain⟨tmps,defers⟩:=a;unfold Act.put Act.eval;simp only[Act.mk.injEq,and_true];apply Array.ext_getElem?;intro i;rw[Array.getElem?_setIfInBounds]
 by_cases e:p=i
 ·subst e
  by_cases h:p<tmps.size
  ·simp[h]
  ·simp[h,Array.getElem?_eq_none (Nat.le_of_not_lt h)]
 ·simp[e]
theorem spBox_step{t:TypeId}{k:Kd}{x:Operand}(ho:o.op=.box t x)(h:spStep (.box k x) o S K=some r):StepSim P Wr0 w0 o S K r:=by
 intro I a w hS;unfold spStep at h;dsimp only at h;split at h
 case h_2=>cases h
 rename_i k' y hx;obtain⟨hag,h⟩:=ifT_some h;split at h
 case h_2=>cases h
 rename_i y' hc;obtain⟨e,rfl⟩:=castK_some hc;subst e;have hv:=hS.eval x;rw[hx] at hv;simp only[Rep] at hv;obtain⟨cs,h2,h1⟩:=(RepV.ofAgg hag).1 hv;have hb:BelowD P.s w.heap.size w (w.alloc (.cells (a.eval x).cells t)):=below_new w _;have hrun:(execOp a.eval o).run P w=.ok (.value (.pointer (some ⟨w.heap.size,0,none⟩))) (w.alloc (.cells (a.eval x).cells t)):=by
  simp only[execOp,ho,Instr.box,newVar];rw[Sem.run_bind,Sem.run_bind,run_newRow_];rfl
 refine⟨_,h,fun next Q hn=>wp_value hrun (hn _ _ _ ((hS.grow hb).put ?_ _))⟩;simp only[Rep];have hk:=below_keepW (P:=P) hb (Wr:=WrOf Wr0 S.heap I) (Wr':=WrOf Wr0 S.heap I) fun b o _ h=>h;refine⟨w.heap.size,0,cs,rfl,h1.keep hk,fun j hj=>⟨?_,fun hw=>Nat.lt_irrefl _ (hS.wr_lt _ _ hw)⟩⟩;rw[Nat.zero_add,new_cell,h2];show cs.toArray[j]?=_;simp[hj]
theorem spAlloc_step{t:TypeId}(hT:FtOk P t)(ho:o.op=.alloc t)(h:S.new o.dst (.box [.undef]) (.ptr · 0) K=some r):StepSim P Wr0 w0 o S K r:=by
 intro I a w hS;obtain⟨i,hi,_,z,hz,hzc⟩:=hT.info;refine new_step hS h rfl (below_new w (.cells z.cells t)) (i:=.box w.heap.size 1) (v:=.pointer (some ⟨w.heap.size,0,none⟩)) ?_ ?_ ?_
 ·intro b hb;obtain rfl:=Option.some.inj hb;rw[size_new];omega
 ·simp only[execOp,ho,Instr.alloc,newVar];rw[Sem.run_bind,Sem.run_bind,run_zeroValue_of hi hz];simp only[Result.andThen_ok];rw[Sem.run_bind,run_newRow_];rfl
 ·intro p hp hkeep;refine⟨⟨rfl, ?_,z.cells.toList, ?_, ?_⟩, ?_⟩
  ·have:=new_nofz w z.cells t 0
   rwa [hzc] at this
  ·have:z.cells.toList.length=1:=by simp[hzc]
   match hl:z.cells.toList,this with
   |[c],_=>simp only[RepL,Rep];exact⟨trivial,trivial⟩
  ·intro j hj;rw[new_cell];simp at hj;simp[hj]
  ·simp only[Rep,Info.set,if_true]
theorem spStore_step{t:TypeId}{p:Nat}{y:Operand}(hT:FtOk P t)(ho:o.op=.store t (.tmp p) y)(h:spStep (.store p y) o S K=some r):StepSim P Wr0 w0 o S K r:=by
 intro I a w hS;unfold spStep at h;dsimp only at h;split at h
 ·cases h
 rename_i hdst;split at h
 case h_2=>cases h
 rename_i t' c ki ko φ hxe hye;obtain⟨ec,h'⟩:=ifEq_yes h;subst ec;clear h;split at h'
 case h_2=>cases h'
 rename_i c0 hH;obtain⟨hd,h'⟩:=ifT_some h';have hx:=hS.eval (.tmp p);have hy:=hS.eval y;rw[hxe] at hx;rw[hye] at hy;obtain⟨i,hi,hr⟩:=hS.rows t' _ hH;simp only[Rep,hi] at hx hy;cases i with
 |arr=>exact hr.elim
 |box b n=>
  have hx:a.eval (.tmp p)=.pointer (some ⟨b,0,none⟩):=hx;obtain⟨e1,e2,vs,e3,e4⟩:=hr;have e1:n=1:=e1;subst e1;have hvl:vs.length=1:=e3.length.symm;have hc0:=(Clo.of hd).1 hy;have hcells:(a.eval y).cells=#[a.eval y]:=by
   obtain⟨g,caps,hu,_⟩:=hc0;rw[hu];rfl
  have hone:(a.eval y).oneCell'=true:=by
   obtain⟨g,caps,hu,_⟩:=hc0;rw[hu];rfl
  obtain⟨ti,hti,hts,_⟩:=hT.info;have hrun:(storeVar t ⟨b,0,none⟩ (a.eval y)).run P w=.ok () (w.setCells b 0 [a.eval y]):=by
   unfold storeVar;rw[Sem.run_bind,run_sizeOf_of hti];simp only[Result.andThen_ok];rw[if_neg (by rw[hcells,hts];simp)];have:=run_storeCells_cells (P:=P) b 0 [a.eval y] 0 w (fun j hj=>e2.cell (by simp at hj;omega)) (fun j hj=>e2.free (by omega) (by simp at hj;omega)) (by intro u hu;rw[List.mem_singleton.1 hu];exact hone);rw[hcells];simpa using this
  have hcell:(w.setCells b 0 [a.eval y]).cell? ⟨b,0,none⟩=some (a.eval y):=by
   have:=setCells_list (w:=w) (b:=b) (off:=0) (c:=0) (vs:=vs) (us:=[a.eval y]) (fun q hq=>by rw[Nat.zero_add];exact e4 q hq) (by simp[hvl]) 0 (by simp);simpa using this
  have hw:=setCells_wrote b [a.eval y] 0 w;have hown:∀j,j<[a.eval y].length→WrOf Wr0 S.heap I b (0+j):=fun j hj=>.inr ⟨t',_,_,hH,hi,rfl⟩;have hk:=keep_setCells (w:=w) hown;have key:=hS.update (r':=.box [.undef]) hH (by simp) hi rfl (by simp) (fun b o h=>h) hw hk ⟨rfl,setCells_nofz b [a.eval y] 0 w e2,[a.eval y],by simp only[RepL,Rep];exact⟨trivial,trivial⟩,fun j hj=>by
   have:j=0:=by simp at hj;omega
   subst this;exact hcell⟩
  obtain⟨hS2,_⟩:=key.kill (t:=t') (rw_:=.box [.undef]) (by simp only[St.setH,ifEq_pos rfl]);have heq:(S.setH t' (.box [.undef])).setH t' .dead=S.setH t' .dead:=by
   unfold St.setH;simp only[St.mk.injEq,true_and,and_true];funext q
   by_cases e:q=t'
   ·rw[ifEq_pos e,ifEq_pos e]
   ·rw[ifEq_neg e,ifEq_neg e,ifEq_neg e]
  rw[heq] at hS2;have hother:∀{q:Nat} {rr:Row},(S.setH t' .dead).heap q=some rr→rr≠ .dead→q≠t'∧S.heap q=some rr:=by
   intro q rr m1 m2
   by_cases e:q=t'
   ·subst e;simp only[St.setH,ifEq_pos rfl] at m1;exact absurd (Option.some.inj m1).symm m2
   ·simp only[St.setH,ifEq_neg e] at m1;exact⟨e,m1⟩
  have hk2:Keep w (WrOf Wr0 S.heap I) (w.setCells b 0 [a.eval y]) (WrOf Wr0 (S.setH t' .dead).heap I):=by
   refine⟨fun b' o v g1 g2=>⟨(hk.cell b' o v g1 g2).1,fun g3=>g2 ?_⟩⟩
   rcases g3 with g3|⟨q,rr,j,m1,m2,m3⟩
   ·exact .inl g3
   ·exact .inr ⟨q,rr,j,(hother m1 m3.alive).2,m2,m3⟩
  have hmine:=(hS.fresh t' _ _ b hH (by simp) hi rfl).1;have hrep:Rep P (w.setCells b 0 [a.eval y]) (WrOf Wr0 (S.setH t' .dead).heap I) I (.clo (.unit::ki) ko fun x=>φ x.2) (a.eval (.tmp p)):=by
   simp only[Rep];refine⟨b,0,a.eval y,hx,hc0.keep hk2,fun j hj=> ?_⟩;have:j=0:=by simp at hj;omega
   subst this;refine⟨hcell,fun g3=> ?_⟩
   rcases g3 with g3|⟨q,rr,j,m1,m2,m3⟩
   ·exact(hS.wr0.1 b _ g3).2 hmine
   ·obtain⟨m4,m5⟩:=hother m1 m3.alive;exact m4 (hS.inj q t' rr _ j _ b m5 m3.alive hH (by simp) m2 hi m3.block rfl)
  have hput:=hS2.put hrep (some p);rw[put_same] at hput;exact⟨_,h',fun next Q hn=>wp_skipped (storeAt_run hrun ho hx) (hn I _ _ (by rw[hdst];exact hput))⟩
theorem und_bytes(hE:TysOk P E){d:TypeId}{dd:TyD}(hd1:E.ty d=some dd)(hd2:dd.kd=.sl (.int .u8)):∃e,P.p.underlying d=some (.slice e)∧P.p.underlying e=some (.int .u8):=by
 obtain⟨ud,hud,hsl⟩:=(hE d dd hd1).ut;cases ud
 case slice e=>
  refine⟨e,hud,hsl.2.2.2.2.2.2 .u8 ?_⟩;have:=hsl.2.1;rw[hd2] at this;exact(Kd.sl.inj this).symm
 all_goals simp_all [UtOk,Kd.isAgg]
theorem spBytes_step(hE:TysOk P E){s d:TypeId}{x:Operand}(hs:kdOf E s=some .str)(hd:kdOf E d=some (.sl (.int .u8)))(ho:o.op=.convert s d x)(h:spStep (.bytes s d x) o S K=some r):StepSim P Wr0 w0 o S K r:=by
 intro I a w hS;unfold spStep at h;dsimp only at h;split at h
 case h_2=>cases h
 rename_i z hx;have hv:=hS.eval x;rw[hx] at hv;simp only[Rep] at hv;obtain⟨cs,h1,h2⟩:=hv;simp only[RepC] at h1;subst h1;have h2:a.eval x=.string z:=h2;obtain⟨ds,hs1,hs2⟩:=kdOf_spec hs;obtain⟨dd,hd1,hd2⟩:=kdOf_spec hd;have hus:P.p.underlying s=some .string:=und_str hE (by unfold okT;rw[hs1];exact decide_eq_true hs2);have hud:=und_bytes hE hd1 hd2;obtain⟨e,he1,he2⟩:=hud;have hrun:(execOp a.eval o).run P w=.ok (.value (.slice (some ⟨w.heap.size,0,none⟩) z.size (grownCap w z.size 0 e))) (Lib.bytesWorld w e z):=by
  simp only[execOp,ho,h2];rw[Sem.run_bind,Lib.run_convert_string_bytes w s d e z hus he1 he2];rfl
 have hlen:List.length (numsOf z)=z.size:=by
  unfold numsOf;rw[List.length_map,Array.length_toList];rfl
 have hge:=grownCap_ge w z.size 0 e;have hcs:(Lib.bytesCells w e z).size=grownCap w z.size 0 e:=by
  unfold Lib.bytesCells;rw[Array.size_append,Array.size_map,Array.size_replicate];show z.size+_=_;omega
 refine new_step hS h rfl (BelowD.of (Lib.bytesWorld_below w e z) (fun _=> ?_)) (i:=.arr (.int .u8) (List.length (numsOf z)) (some (w.heap.size,0)) (grownCap w z.size 0 e)) ?_ hrun ?_
 ·show w.drawn≤(Lib.bytesWorld w e z).drawn;exact Nat.le_succ _
 ·intro b hb;obtain rfl:=Option.some.inj hb;rw[Lib.bytesWorld_size];omega
 ·intro p hp hkeep;refine⟨⟨rfl,rfl, ?_,⟨_,_,_,Lib.bytesWorld_at_new w e z,hcs,fun q _ hq=>by rw[hcs];dsimp only;omega⟩,fun i hi=>⟨[.int .u8 ((numsOf z).get ⟨i,hi⟩)],rfl,fun j hj=> ?_⟩⟩, ?_⟩
  ·show 0+List.length (numsOf z)*1≤_;rw[hlen];omega
  ·have h0:j=0:=by simp at hj;omega
   subst h0;have hi':i<z.size:=by rw[←hlen];exact hi
   rw[show(0+i*Kd.size (.int .u8)+0)=i from by simp[Kd.size],Lib.bytesWorld_cell w e z i hi'];have hi2:i<z.data.toList.length:=by simpa[Array.length_toList] using hi'
   have e1:(numsOf z).get ⟨i,hi⟩=((z.data.toList.getD i 0).toNat:Int):=by
    unfold numsOf at hi⊢;simp only[List.get_eq_getElem,List.getElem_map,List.getD_eq_getElem?_getD,List.getElem?_eq_getElem hi2,Option.getD_some]
   rw[e1];rfl
  ·simp only[Rep,Info.set,if_true];refine⟨trivial,by omega,some ⟨w.heap.size,0,none⟩,grownCap w z.size 0 e,by rw[hlen],by rw[hlen];exact hge,.inr ⟨w.heap.size,0,rfl,by simp, ?_⟩⟩;show 0+(0+grownCap w z.size 0 e)*1≤_;omega
theorem sp_step(hE:TysOk P E)(hF:FnsOk P E){q:SpOp}(hq:spOf E o.op=some q)(h:spStep q o S K=some r):StepSim P Wr0 w0 o S K r:=by
 unfold spOf at hq;split at hq
 ·rename_i t x ho;split at hq
  ·obtain⟨_,hq⟩:=ifEq_yes hq;obtain rfl:=Option.some.inj hq;exact spBox_step ho h
  ·cases hq
 ·rename_i t ho;obtain⟨h1,hq⟩:=ifEq_yes hq;obtain rfl:=Option.some.inj hq;exact spAlloc_step (hF.sp t h1) ho h
 ·rename_i t p y ho;obtain⟨h1,hq⟩:=ifEq_yes hq;obtain rfl:=Option.some.inj hq;exact spStore_step (hF.sp t h1) ho h
 ·rename_i s d x ho;split at hq
  ·rename_i hs;split at hq
   ·rename_i hd;obtain rfl:=Option.some.inj hq;exact spBytes_step hE hs hd ho h
   ·cases hq
  ·cases hq
 ·cases hq
theorem stepM0_ok(hE:TysOk P E)(hF:FnsOk P E)(h:stepM0 E o S K=some r):StepSim P Wr0 w0 o S K r:=by
 unfold stepM0 at h;split at h
 ·rename_i f hf;exact callM_step hF hf h
 split at h
 ·rename_i f hf;exact callN_step hF hf h
 split at h
 ·rename_i f hf;exact callC_step hF hf h
 split at h
 ·rename_i gc hgc;exact mk_step hgc hF h
 split at h
 ·rename_i x hx;exact nil_step hE hx h
 split at h
 ·rename_i x hx;split at h
  ·rename_i xs hxs;exact conv_step hE hx hxs h
  ·cases h
 split at h
 ·rename_i q hq;exact sp_step hE hF hq h
 ·rw[storeS_eq] at h;exact step_ok hE hF h
theorem plainB_spec(h:plainB E o.dst o.op=true)(S:St)(K:St→Option R):stepM E o S K=step E o S K:=by
 unfold plainB at h;split at h
 ·cases h
 rename_i eI;split at h
 ·cases h
 rename_i e1;split at h
 ·cases h
 rename_i e2;split at h
 ·cases h
 rename_i e3;split at h
 ·cases h
 rename_i e4;split at h
 ·cases h
 rename_i e5;split at h
 ·cases h
 rename_i e7;split at h
 ·cases h
 rename_i e8;have e6:inlOf E S o.dst o.op=none:=by
  unfold inlOf;rw[eI]
 unfold stepM stepM0;rw[e6,e1,e2,e3,e4,e7,e5,e8];exact storeS_eq E o S K
end
end Go.Proofs.YthkflageghfbgaaGreatDoor.Am
